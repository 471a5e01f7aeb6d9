/- The walks of the reader's methods: Uint, Int, Byte, Left, Err, End, and Read. What they answer is told over lists of bytes. -/
import Derived.Test.YtafhkjljalmheaaBinNum
namespace Go.Proofs.Ytafhkjljalmheaa
open Go.RowKit
set_option linter.unusedVariables false
namespace BinP
/-- a reader's state: the bytes ahead; none: it has failed -/
abbrev St := Option (List UInt8)
def pUint : St → Nat × St
  | none => (0, none)
  | some l => match num l with
    | none => (0, none)
    | some (v, n) => (v, some (l.drop n))
def pInt (most : Int) : St → Nat × St
  | none => (0, none)
  | some l => match num l with
    | none => (0, none)
    | some (v, n) => if most < 0 ∨ most < (v : Int) then (0, none) else (v, some (l.drop n))
def pByte : St → UInt8 × St
  | some (x :: r) => (x, some r)
  | _ => (0, none)
def left : St → Nat
  | none => 0
  | some l => l.length
end BinP
def RdS (w : World) (base : Nat × Nat) (g : Nat) : BinP.St → Prop
  | some l => Rd w base g l false
  | none => ∃ l, Rd w base g l true
theorem Row.but {w w' : World} {g : Nat} {A : Option Addr} {xs : List Value} (h : Row w w.heap.size A xs) (hg : w.grownBy w' (some g)) (hne : ∀ ad, A = some ad → ad.block ≠ g) : Row w' w'.heap.size A xs := by
  intro j u hu
  obtain ⟨ad, e, hb, hc⟩ := h j u hu
  have := hg.size
  refine ⟨ad, e, by omega, ?_⟩
  rw [← hc]
  exact World.cell?_of_block (hg.block _ (by rw [add_block]; exact hb) (by rw [add_block]; intro e2; injection e2 with e2; exact hne ad e e2))
theorem rd_make {w w' : World} {base : Nat × Nat} {g : Nat} {l : List UInt8} {bad : Bool} {A : Option Addr} {n c : Nat} (hh : w'.heap[g]? = some (.cells #[.slice A n c, .bool bad] 67 (0, 0))) (hb : base.1 ≤ g ∧ g < base.2) (hn : l.length = n) (hnc : n ≤ c) (hcm : c ≤ maxLen)
    (hr : Row w w.heap.size A (l.map b8)) (hne : ∀ ad, A = some ad → ad.block ≠ g ∧ base.1 ≤ ad.block ∧ ad.block < base.2) (hg : w.grownBy w' (some g)) : Rd w' base g l bad :=
  ⟨A, n, c, hh, hb, hn, hnc, hcm, hr.but hg (fun ad e => (hne ad e).1), hne⟩
theorem grown_set (w : World) (g i : Nat) (u : Value) : w.grownBy (w.setCell ⟨g, i, none⟩ u) (some g) :=
  ⟨rfl, rfl, rfl, by simp [World.setCell], fun k hk hne => Below.heap_setCell w ⟨g, i, none⟩ u k (fun e => hne (by rw [e]))⟩
theorem grown_trans' {a b c : World} {g : Nat} (h : a.grownBy b (some g)) (k : b.grownBy c (some g)) : a.grownBy c (some g) :=
  ⟨k.os.trans h.os, k.tape.trans h.tape, k.output.trans h.output, Nat.le_trans h.size k.size, fun i hi hne => (k.block i (Nat.lt_of_lt_of_le hi h.size) hne).trans (h.block i hi hne)⟩
theorem grown_drewN {a b : World} {r : Option Nat} (h : a.grownBy b r) (n : Nat) : a.grownBy (b.drewN n) r := ⟨h.os, h.tape, h.output, h.size, h.block⟩
theorem of_drewN {w w' : World} {r : Option Nat} {k : Nat} (h : (w.drewN k).grownBy w' r) : w.grownBy w' r := ⟨h.os, h.tape, h.output, h.size, h.block⟩
theorem set1 (w : World) (k g : Nat) (u : Value) : w.grownBy ((w.drewN k).setCell ⟨g, 1, none⟩ u) (some g) := of_drewN (grown_set (w.drewN k) g 1 u)
theorem set10 (w : World) (k g : Nat) (u v : Value) : w.grownBy (((w.drewN k).setCell ⟨g, 1, none⟩ u).setCell ⟨g, 0, none⟩ v) (some g) := grown_trans' (set1 w k g u) (grown_set _ g 0 v)
theorem heap1 {w : World} {k g : Nat} {a b : Value} {t : TypeId} (u : Value) (h : w.heap[g]? = some (.cells #[a, b] t (0, 0))) : ((w.drewN k).setCell ⟨g, 1, none⟩ u).heap[g]? = some (.cells #[a, u] t (0, 0)) :=
  heap_setCell_at (w.drewN k) g 1 _ t (0, 0) u h
theorem heap10 {w : World} {k g : Nat} {a b : Value} {t : TypeId} (u v : Value) (h : w.heap[g]? = some (.cells #[a, b] t (0, 0))) : (((w.drewN k).setCell ⟨g, 1, none⟩ u).setCell ⟨g, 0, none⟩ v).heap[g]? = some (.cells #[v, u] t (0, 0)) :=
  heap_setCell_at _ g 0 _ t (0, 0) v (heap1 u h)
theorem number_some {g : Nat} {l : List UInt8} {bad : Bool} {base : Nat × Nat} {w : World} {v n : Nat} (h : Rd w base g l bad) (hv : BinP.num l = some (v, n)) :
    Calls Try.prog 32 #[.pointer (some ⟨g, 0, none⟩)] w fun e w' => e = .returned (.tuple #[.int .u64 (v : Int), .int .i64 (n : Int), .bool true]) ∧ ∃ k, w' = w.drewN k := by
  have := rd_number g l bad base w h
  obtain ⟨e1, e2, e3⟩ := num_some hv
  rwa [e1, e2, e3] at this
theorem number_none {g : Nat} {l : List UInt8} {bad : Bool} {base : Nat × Nat} {w : World} (h : Rd w base g l bad) (hv : BinP.num l = none) :
    Calls Try.prog 32 #[.pointer (some ⟨g, 0, none⟩)] w fun e w' => e = .returned (.tuple #[.int .u64 0, .int .i64 0, .bool false]) ∧ ∃ k, w' = w.drewN k := by
  have := rd_number g l bad base w h
  obtain ⟨e1, e2, e3⟩ := num_none hv
  rwa [e1, e2, e3] at this
theorem RdS.keep {w w' : World} {base : Nat × Nat} {g : Nat} {st : BinP.St} (h : RdS w base g st) (hs : w.heap.size ≤ w'.heap.size) (hk : ∀ k, k < w.heap.size → base.1 ≤ k → k < base.2 → w'.heap[k]? = w.heap[k]?) : RdS w' base g st := by
  have one : ∀ l bad, Rd w base g l bad → Rd w' base g l bad := by
    rintro l bad ⟨A, n, c, hg, hb, hn, hnc, hcm, hr, hne⟩
    refine ⟨A, n, c, (hk g (lt_of_blk hg) hb.1 hb.2).trans hg, hb, hn, hnc, hcm, ?_, hne⟩
    intro j u hu
    obtain ⟨ad, e, hbb, hc⟩ := hr j u hu
    refine ⟨ad, e, by omega, ?_⟩
    rw [← hc]
    exact World.cell?_of_block (hk _ (by rw [add_block]; exact hbb) (by rw [add_block]; exact (hne ad e).2.1) (by rw [add_block]; exact (hne ad e).2.2))
  rcases st with _ | l
  · obtain ⟨l, h⟩ := h
    exact ⟨l, one l true h⟩
  · exact one l false h
theorem RdS.below {w w' : World} {base : Nat × Nat} {g : Nat} {st : BinP.St} (h : RdS w base g st) (hb : Below w.heap.size w w') : RdS w' base g st := h.keep hb.size fun k hk _ _ => hb.block k hk
theorem RdS.other {w w' : World} {base : Nat × Nat} {g g' : Nat} {st : BinP.St} (h : RdS w base g st) (hg : w.grownBy w' (some g')) (hlt : g' < base.1 ∨ base.2 ≤ g') : RdS w' base g st :=
  h.keep hg.size fun k hk hb hb2 => hg.block k hk (fun e => by injection e with e; omega)
theorem RdS.base_le {w : World} {base : Nat × Nat} {g : Nat} {st : BinP.St} (h : RdS w base g st) : (base.1 ≤ g ∧ g < base.2) ∧ g < w.heap.size := by
  rcases st with _ | l
  · obtain ⟨l, A, n, c, hg, hb, _⟩ := h
    exact ⟨hb, lt_of_blk hg⟩
  · obtain ⟨A, n, c, hg, hb, _⟩ := h
    exact ⟨hb, lt_of_blk hg⟩
/-- what the walk of a method knows of a reader -/
structure RdKnows (w : World) (base : Nat × Nat) (g : Nat) (A : Option Addr) (n c : Nat) (l : List UInt8) (bad : Bool) : Prop where
  c0 : w.cell? ⟨g, 0, none⟩ = some (.slice A n c)
  c1 : w.cell? ⟨g, 1, none⟩ = some (.bool bad)
  f0 : w.frozen? ⟨g, 0, none⟩ = false
  f1 : w.frozen? ⟨g, 1, none⟩ = false
  hg : w.heap[g]? = some (.cells #[.slice A n c, .bool bad] 67 (0, 0))
  hb : base.1 ≤ g ∧ g < base.2
  hn : l.length = n
  hnc : n ≤ c
  hcm : c ≤ maxLen
  hr : Row w w.heap.size A (l.map b8)
  hne : ∀ ad, A = some ad → ad.block ≠ g ∧ base.1 ≤ ad.block ∧ ad.block < base.2
theorem Rd.knows {w : World} {base : Nat × Nat} {g : Nat} {l : List UInt8} {bad : Bool} (h : Rd w base g l bad) : ∃ A n c, RdKnows w base g A n c l bad := by
  obtain ⟨A, n, c, hg, hb, hn, hnc, hcm, hr, hne⟩ := h
  exact ⟨A, n, c, by rw [cell_blk hg]; rfl, by rw [cell_blk hg]; rfl, by simp [World.frozen?, hg], by simp [World.frozen?, hg], hg, hb, hn, hnc, hcm, hr, hne⟩
set_option maxRecDepth 4000 in
set_option maxHeartbeats 400000 in
/-- a reader that has failed answers 0 -/
theorem uint_bad (g : Nat) (l : List UInt8) (base : Nat × Nat) (w : World) (h : Rd w base g l true) :
    Calls Try.prog 23 #[.pointer (some ⟨g, 0, none⟩)] w fun e w' => e = .returned (.int .u64 0) ∧ RdS w' base g none ∧ w.grownBy w' (some g) := by
  have hnum : ∃ v n b, Calls Try.prog 32 #[.pointer (some ⟨g, 0, none⟩)] w fun e w' => e = .returned (.tuple #[.int .u64 v, .int .i64 n, .bool b]) ∧ ∃ k, w' = w.drewN k := ⟨_, _, _, rd_number g l true base w h⟩
  obtain ⟨v, n, b, hnum⟩ := hnum
  have HNUM := Lib.hid hnum
  obtain ⟨A, n', c, K⟩ := h.knows
  have hc0 := K.c0
  have hc1 := K.c1
  have hf1 := K.f1
  clear hnum h
  go_enter Try.func23, Try.ntmps23
  go_wp2_with fail
  refine HNUM.out.mono ?_
  rintro e w1 ⟨rfl, k, rfl⟩
  go_wp2_with fail
  go_ret
  exact ⟨rfl, ⟨l, rd_make (heap1 (.bool true) K.hg) K.hb K.hn K.hnc K.hcm K.hr K.hne (set1 w k g _)⟩, set1 w k g _⟩
set_option maxRecDepth 4000 in
set_option maxHeartbeats 400000 in
theorem uint_none (g : Nat) (l : List UInt8) (base : Nat × Nat) (w : World) (h : Rd w base g l false) (hv : BinP.num l = none) :
    Calls Try.prog 23 #[.pointer (some ⟨g, 0, none⟩)] w fun e w' => e = .returned (.int .u64 0) ∧ RdS w' base g none ∧ w.grownBy w' (some g) := by
  have HNUM := Lib.hid (number_none h hv)
  obtain ⟨A, n', c, K⟩ := h.knows
  have hc0 := K.c0
  have hc1 := K.c1
  have hf1 := K.f1
  clear hv h
  go_enter Try.func23, Try.ntmps23
  go_wp2_with fail
  refine HNUM.out.mono ?_
  rintro e w1 ⟨rfl, k, rfl⟩
  go_wp2_with fail
  go_ret
  exact ⟨rfl, ⟨l, rd_make (heap1 (.bool true) K.hg) K.hb K.hn K.hnc K.hcm K.hr K.hne (set1 w k g _)⟩, set1 w k g _⟩
theorem Row.cut {w : World} {B : Nat} {A : Option Addr} {l : List UInt8} (h : Row w B A (l.map b8)) {c n : Nat} (hn : n ≤ l.length) (hc : l.length ≤ c) :
    Row w B (if c = n then A else A.map (·.add n)) ((l.drop n).map b8) := by
  split
  · have : l.drop n = [] := List.drop_of_length_le (by omega)
    rw [this]
    exact Row.nil
  · rw [List.map_drop]
    rcases A with _ | ad
    · have := h.none_nil
      subst this
      simp [Row.nil]
    · exact Row.drop h n
theorem Row.cut0 {w : World} {B : Nat} {A : Option Addr} {l : List UInt8} (h : Row w B A (l.map b8)) {c n : Nat} (hn : n ≤ l.length) (hc : l.length ≤ c) (e : c = n) : Row w B A ((l.drop n).map b8) := by
  have := h.cut hn hc
  rwa [if_pos e] at this
theorem Row.cut1 {w : World} {B : Nat} {A : Option Addr} {l : List UInt8} (h : Row w B A (l.map b8)) {c n : Nat} (hn : n ≤ l.length) (hc : l.length ≤ c) (e : ¬ c = n) : Row w B (A.map (·.add n)) ((l.drop n).map b8) := by
  have := h.cut hn hc
  rwa [if_neg e] at this
theorem ne_add {A : Option Addr} {g n : Nat} {base : Nat × Nat} (h : ∀ ad, A = some ad → ad.block ≠ g ∧ base.1 ≤ ad.block ∧ ad.block < base.2) : ∀ ad, A.map (·.add n) = some ad → ad.block ≠ g ∧ base.1 ≤ ad.block ∧ ad.block < base.2 := by
  intro ad e
  rcases A with _ | a
  · cases e
  · simp only [Option.map_some, Option.some.injEq] at e
    subst e
    rw [add_block]
    exact h a rfl
set_option maxRecDepth 4000 in
set_option maxHeartbeats 400000 in
theorem uint_some (g : Nat) (l : List UInt8) (base : Nat × Nat) (w : World) (v n : Nat) (h : Rd w base g l false) (hv : BinP.num l = some (v, n)) :
    Calls Try.prog 23 #[.pointer (some ⟨g, 0, none⟩)] w fun e w' => e = .returned (.int .u64 (v : Int)) ∧ RdS w' base g (some (l.drop n)) ∧ w.grownBy w' (some g) := by
  have HNUM := Lib.hid (number_some h hv)
  have hbd := BinP.num_bound hv
  obtain ⟨A, n', c, K⟩ := h.knows
  have hc0 := K.c0
  have hc1 := K.c1
  have hf1 := K.f1
  have hf0 := K.f0
  have hnn : n ≤ n' := by rw [← K.hn]; exact hbd.2.1
  have hnc := K.hnc
  have hcm := K.hcm
  unfold maxLen at hcm
  clear hv h hbd
  go_enter Try.func23, Try.ntmps23
  go_wp2_with fail
  refine HNUM.out.mono ?_
  rintro e w1 ⟨rfl, k, rfl⟩
  go_wp2_with fail
  · have hcn : c = n := by assumption
    go_ret
    exact ⟨rfl, rd_make (heap10 _ _ K.hg) K.hb (by rw [List.length_drop, K.hn]) (by omega) (by unfold maxLen; omega) (K.hr.cut0 (by rw [K.hn]; exact hnn) (by rw [K.hn]; exact hnc) hcn) K.hne (set10 w k g _ _), set10 w k g _ _⟩
  · have hcn : ¬ c = n := by assumption
    go_ret
    exact ⟨rfl, rd_make (heap10 _ _ K.hg) K.hb (by rw [List.length_drop, K.hn]) (by omega) (by unfold maxLen; omega) (K.hr.cut1 (by rw [K.hn]; exact hnn) (by rw [K.hn]; exact hnc) hcn) (ne_add K.hne) (set10 w k g _ _), set10 w k g _ _⟩
theorem rd_uint (g : Nat) (st : BinP.St) (base : Nat × Nat) (w : World) (h : RdS w base g st) :
    Calls Try.prog 23 #[.pointer (some ⟨g, 0, none⟩)] w fun e w' => e = .returned (.int .u64 ((BinP.pUint st).1 : Int)) ∧ RdS w' base g (BinP.pUint st).2 ∧ w.grownBy w' (some g) := by
  rcases st with _ | l
  · obtain ⟨l, h⟩ := h
    exact uint_bad g l base w h
  · rcases hn : BinP.num l with _ | ⟨v, n⟩
    · have e : BinP.pUint (some l) = (0, none) := by simp [BinP.pUint, hn]
      rw [e]
      exact uint_none g l base w h hn
    · have e : BinP.pUint (some l) = (v, some (l.drop n)) := by simp [BinP.pUint, hn]
      rw [e]
      exact uint_some g l base w v n h hn
end Go.Proofs.Ytafhkjljalmheaa
