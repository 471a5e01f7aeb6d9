/- The walks of the reader's methods: Uint, Int, Byte, Left, Err, End, and Read. What they answer is told over lists of bytes. -/
import Derived.Test.YtohgkadbajmphaaBinA
import Derived.Test.YtohgkadbajmphaaExt
namespace Go.Proofs.Ytohgkadbajmphaa
open Go.RowKit
set_option linter.unusedVariables false
namespace BinP
/-- a reader's state: the bytes ahead; none: it has failed -/
abbrev St := Option (List UInt8)
def pUint : St → Nat × St
  | none => (0, none)
  | some l => match num l with
    | none => (0, none)
    | some (v, n) => (v, some (l.drop n))
def pInt (most : Int) : St → Nat × St
  | none => (0, none)
  | some l => match num l with
    | none => (0, none)
    | some (v, n) => if most < 0 ∨ most < (v : Int) then (0, none) else (v, some (l.drop n))
def pByte : St → UInt8 × St
  | some (x :: r) => (x, some r)
  | _ => (0, none)
def left : St → Nat
  | none => 0
  | some l => l.length
end BinP
def RdS (w : World) (base : Nat × Nat) (g : Nat) : BinP.St → Prop
  | some l => Rd w base g l false
  | none => ∃ l, Rd w base g l true
theorem Row.but {w w' : World} {g : Nat} {A : Option Addr} {xs : List Value} (h : Row w w.heap.size A xs) (hg : w.grownBy w' (some g)) (hne : ∀ ad, A = some ad → ad.block ≠ g) : Row w' w'.heap.size A xs := by
  intro j u hu
  obtain ⟨ad, e, hb, hc⟩ := h j u hu
  have := hg.size
  refine ⟨ad, e, by omega, ?_⟩
  rw [← hc]
  exact World.cell?_of_block (hg.block _ (by rw [add_block]; exact hb) (by rw [add_block]; intro e2; injection e2 with e2; exact hne ad e e2))
theorem rd_make {w w' : World} {base : Nat × Nat} {g : Nat} {l : List UInt8} {bad : Bool} {A : Option Addr} {n c : Nat} (hh : w'.heap[g]? = some (.cells #[.slice A n c, .bool bad] 157 (0, 0))) (hb : base.1 ≤ g ∧ g < base.2) (hn : l.length = n) (hnc : n ≤ c) (hcm : c ≤ maxLen)
    (hr : Row w w.heap.size A (l.map b8)) (hne : ∀ ad, A = some ad → ad.block ≠ g ∧ base.1 ≤ ad.block ∧ ad.block < base.2) (hg : w.grownBy w' (some g)) : Rd w' base g l bad :=
  ⟨A, n, c, hh, hb, hn, hnc, hcm, hr.but hg (fun ad e => (hne ad e).1), hne⟩
theorem grown_set (w : World) (g i : Nat) (u : Value) : w.grownBy (w.setCell ⟨g, i, none⟩ u) (some g) :=
  ⟨rfl, rfl, rfl, by simp [World.setCell], fun k hk hne => Below.heap_setCell w ⟨g, i, none⟩ u k (fun e => hne (by rw [e]))⟩
theorem grown_trans' {a b c : World} {g : Nat} (h : a.grownBy b (some g)) (k : b.grownBy c (some g)) : a.grownBy c (some g) :=
  ⟨k.os.trans h.os, k.tape.trans h.tape, k.output.trans h.output, Nat.le_trans h.size k.size, fun i hi hne => (k.block i (Nat.lt_of_lt_of_le hi h.size) hne).trans (h.block i hi hne)⟩
theorem grown_drewN {a b : World} {r : Option Nat} (h : a.grownBy b r) (n : Nat) : a.grownBy (b.drewN n) r := ⟨h.os, h.tape, h.output, h.size, h.block⟩
theorem of_drewN {w w' : World} {r : Option Nat} {k : Nat} (h : (w.drewN k).grownBy w' r) : w.grownBy w' r := ⟨h.os, h.tape, h.output, h.size, h.block⟩
theorem set1 (w : World) (k g : Nat) (u : Value) : w.grownBy ((w.drewN k).setCell ⟨g, 1, none⟩ u) (some g) := of_drewN (grown_set (w.drewN k) g 1 u)
theorem set10 (w : World) (k g : Nat) (u v : Value) : w.grownBy (((w.drewN k).setCell ⟨g, 1, none⟩ u).setCell ⟨g, 0, none⟩ v) (some g) := grown_trans' (set1 w k g u) (grown_set _ g 0 v)
theorem heap1 {w : World} {k g : Nat} {a b : Value} {t : TypeId} (u : Value) (h : w.heap[g]? = some (.cells #[a, b] t (0, 0))) : ((w.drewN k).setCell ⟨g, 1, none⟩ u).heap[g]? = some (.cells #[a, u] t (0, 0)) :=
  heap_setCell_at (w.drewN k) g 1 _ t (0, 0) u h
theorem heap10 {w : World} {k g : Nat} {a b : Value} {t : TypeId} (u v : Value) (h : w.heap[g]? = some (.cells #[a, b] t (0, 0))) : (((w.drewN k).setCell ⟨g, 1, none⟩ u).setCell ⟨g, 0, none⟩ v).heap[g]? = some (.cells #[v, u] t (0, 0)) :=
  heap_setCell_at _ g 0 _ t (0, 0) v (heap1 u h)
theorem number_some {g : Nat} {l : List UInt8} {bad : Bool} {base : Nat × Nat} {w : World} {v n : Nat} (h : Rd w base g l bad) (hv : BinP.num l = some (v, n)) :
    Calls Try.prog 90 #[.pointer (some ⟨g, 0, none⟩)] w fun e w' => e = .returned (.tuple #[.int .u64 (v : Int), .int .i64 (n : Int), .bool true]) ∧ ∃ k, w' = w.drewN k := by
  have := rd_number g l bad base w h
  obtain ⟨e1, e2, e3⟩ := num_some hv
  rwa [e1, e2, e3] at this
theorem number_none {g : Nat} {l : List UInt8} {bad : Bool} {base : Nat × Nat} {w : World} (h : Rd w base g l bad) (hv : BinP.num l = none) :
    Calls Try.prog 90 #[.pointer (some ⟨g, 0, none⟩)] w fun e w' => e = .returned (.tuple #[.int .u64 0, .int .i64 0, .bool false]) ∧ ∃ k, w' = w.drewN k := by
  have := rd_number g l bad base w h
  obtain ⟨e1, e2, e3⟩ := num_none hv
  rwa [e1, e2, e3] at this
theorem RdS.keep {w w' : World} {base : Nat × Nat} {g : Nat} {st : BinP.St} (h : RdS w base g st) (hs : w.heap.size ≤ w'.heap.size) (hk : ∀ k, k < w.heap.size → base.1 ≤ k → k < base.2 → w'.heap[k]? = w.heap[k]?) : RdS w' base g st := by
  have one : ∀ l bad, Rd w base g l bad → Rd w' base g l bad := by
    rintro l bad ⟨A, n, c, hg, hb, hn, hnc, hcm, hr, hne⟩
    refine ⟨A, n, c, (hk g (lt_of_blk hg) hb.1 hb.2).trans hg, hb, hn, hnc, hcm, ?_, hne⟩
    intro j u hu
    obtain ⟨ad, e, hbb, hc⟩ := hr j u hu
    refine ⟨ad, e, by omega, ?_⟩
    rw [← hc]
    exact World.cell?_of_block (hk _ (by rw [add_block]; exact hbb) (by rw [add_block]; exact (hne ad e).2.1) (by rw [add_block]; exact (hne ad e).2.2))
  rcases st with _ | l
  · obtain ⟨l, h⟩ := h
    exact ⟨l, one l true h⟩
  · exact one l false h
theorem RdS.below {w w' : World} {base : Nat × Nat} {g : Nat} {st : BinP.St} (h : RdS w base g st) (hb : Below w.heap.size w w') : RdS w' base g st := h.keep hb.size fun k hk _ _ => hb.block k hk
theorem RdS.other {w w' : World} {base : Nat × Nat} {g g' : Nat} {st : BinP.St} (h : RdS w base g st) (hg : w.grownBy w' (some g')) (hlt : g' < base.1 ∨ base.2 ≤ g') : RdS w' base g st :=
  h.keep hg.size fun k hk hb hb2 => hg.block k hk (fun e => by injection e with e; omega)
theorem RdS.base_le {w : World} {base : Nat × Nat} {g : Nat} {st : BinP.St} (h : RdS w base g st) : (base.1 ≤ g ∧ g < base.2) ∧ g < w.heap.size := by
  rcases st with _ | l
  · obtain ⟨l, A, n, c, hg, hb, _⟩ := h
    exact ⟨hb, lt_of_blk hg⟩
  · obtain ⟨A, n, c, hg, hb, _⟩ := h
    exact ⟨hb, lt_of_blk hg⟩
/-- what the walk of a method knows of a reader -/
structure RdKnows (w : World) (base : Nat × Nat) (g : Nat) (A : Option Addr) (n c : Nat) (l : List UInt8) (bad : Bool) : Prop where
  c0 : w.cell? ⟨g, 0, none⟩ = some (.slice A n c)
  c1 : w.cell? ⟨g, 1, none⟩ = some (.bool bad)
  f0 : w.frozen? ⟨g, 0, none⟩ = false
  f1 : w.frozen? ⟨g, 1, none⟩ = false
  hg : w.heap[g]? = some (.cells #[.slice A n c, .bool bad] 157 (0, 0))
  hb : base.1 ≤ g ∧ g < base.2
  hn : l.length = n
  hnc : n ≤ c
  hcm : c ≤ maxLen
  hr : Row w w.heap.size A (l.map b8)
  hne : ∀ ad, A = some ad → ad.block ≠ g ∧ base.1 ≤ ad.block ∧ ad.block < base.2
theorem Rd.knows {w : World} {base : Nat × Nat} {g : Nat} {l : List UInt8} {bad : Bool} (h : Rd w base g l bad) : ∃ A n c, RdKnows w base g A n c l bad := by
  obtain ⟨A, n, c, hg, hb, hn, hnc, hcm, hr, hne⟩ := h
  exact ⟨A, n, c, by rw [cell_blk hg]; rfl, by rw [cell_blk hg]; rfl, by simp [World.frozen?, hg], by simp [World.frozen?, hg], hg, hb, hn, hnc, hcm, hr, hne⟩
set_option maxRecDepth 4000 in
set_option maxHeartbeats 400000 in
/-- a reader that has failed answers 0 -/
theorem uint_bad (g : Nat) (l : List UInt8) (base : Nat × Nat) (w : World) (h : Rd w base g l true) :
    Calls Try.prog 73 #[.pointer (some ⟨g, 0, none⟩)] w fun e w' => e = .returned (.int .u64 0) ∧ RdS w' base g none ∧ w.grownBy w' (some g) := by
  have hnum : ∃ v n b, Calls Try.prog 90 #[.pointer (some ⟨g, 0, none⟩)] w fun e w' => e = .returned (.tuple #[.int .u64 v, .int .i64 n, .bool b]) ∧ ∃ k, w' = w.drewN k := ⟨_, _, _, rd_number g l true base w h⟩
  obtain ⟨v, n, b, hnum⟩ := hnum
  have HNUM := Lib.hid hnum
  obtain ⟨A, n', c, K⟩ := h.knows
  have hc0 := K.c0
  have hc1 := K.c1
  have hf1 := K.f1
  clear hnum h
  go_enter Try.func73, Try.ntmps73
  go_wp2_with fail
  refine HNUM.out.mono ?_
  rintro e w1 ⟨rfl, k, rfl⟩
  go_wp2_with fail
  go_ret
  exact ⟨rfl, ⟨l, rd_make (heap1 (.bool true) K.hg) K.hb K.hn K.hnc K.hcm K.hr K.hne (set1 w k g _)⟩, set1 w k g _⟩
set_option maxRecDepth 4000 in
set_option maxHeartbeats 400000 in
theorem uint_none (g : Nat) (l : List UInt8) (base : Nat × Nat) (w : World) (h : Rd w base g l false) (hv : BinP.num l = none) :
    Calls Try.prog 73 #[.pointer (some ⟨g, 0, none⟩)] w fun e w' => e = .returned (.int .u64 0) ∧ RdS w' base g none ∧ w.grownBy w' (some g) := by
  have HNUM := Lib.hid (number_none h hv)
  obtain ⟨A, n', c, K⟩ := h.knows
  have hc0 := K.c0
  have hc1 := K.c1
  have hf1 := K.f1
  clear hv h
  go_enter Try.func73, Try.ntmps73
  go_wp2_with fail
  refine HNUM.out.mono ?_
  rintro e w1 ⟨rfl, k, rfl⟩
  go_wp2_with fail
  go_ret
  exact ⟨rfl, ⟨l, rd_make (heap1 (.bool true) K.hg) K.hb K.hn K.hnc K.hcm K.hr K.hne (set1 w k g _)⟩, set1 w k g _⟩
theorem Row.cut {w : World} {B : Nat} {A : Option Addr} {l : List UInt8} (h : Row w B A (l.map b8)) {c n : Nat} (hn : n ≤ l.length) (hc : l.length ≤ c) :
    Row w B (if c = n then A else A.map (·.add n)) ((l.drop n).map b8) := by
  split
  · have : l.drop n = [] := List.drop_of_length_le (by omega)
    rw [this]
    exact Row.nil
  · rw [List.map_drop]
    rcases A with _ | ad
    · have := h.none_nil
      subst this
      simp [Row.nil]
    · exact Row.drop h n
theorem Row.cut0 {w : World} {B : Nat} {A : Option Addr} {l : List UInt8} (h : Row w B A (l.map b8)) {c n : Nat} (hn : n ≤ l.length) (hc : l.length ≤ c) (e : c = n) : Row w B A ((l.drop n).map b8) := by
  have := h.cut hn hc
  rwa [if_pos e] at this
theorem Row.cut1 {w : World} {B : Nat} {A : Option Addr} {l : List UInt8} (h : Row w B A (l.map b8)) {c n : Nat} (hn : n ≤ l.length) (hc : l.length ≤ c) (e : ¬ c = n) : Row w B (A.map (·.add n)) ((l.drop n).map b8) := by
  have := h.cut hn hc
  rwa [if_neg e] at this
theorem ne_add {A : Option Addr} {g n : Nat} {base : Nat × Nat} (h : ∀ ad, A = some ad → ad.block ≠ g ∧ base.1 ≤ ad.block ∧ ad.block < base.2) : ∀ ad, A.map (·.add n) = some ad → ad.block ≠ g ∧ base.1 ≤ ad.block ∧ ad.block < base.2 := by
  intro ad e
  rcases A with _ | a
  · cases e
  · simp only [Option.map_some, Option.some.injEq] at e
    subst e
    rw [add_block]
    exact h a rfl
set_option maxRecDepth 4000 in
set_option maxHeartbeats 400000 in
theorem uint_some (g : Nat) (l : List UInt8) (base : Nat × Nat) (w : World) (v n : Nat) (h : Rd w base g l false) (hv : BinP.num l = some (v, n)) :
    Calls Try.prog 73 #[.pointer (some ⟨g, 0, none⟩)] w fun e w' => e = .returned (.int .u64 (v : Int)) ∧ RdS w' base g (some (l.drop n)) ∧ w.grownBy w' (some g) := by
  have HNUM := Lib.hid (number_some h hv)
  have hbd := BinP.num_bound hv
  obtain ⟨A, n', c, K⟩ := h.knows
  have hc0 := K.c0
  have hc1 := K.c1
  have hf1 := K.f1
  have hf0 := K.f0
  have hnn : n ≤ n' := by rw [← K.hn]; exact hbd.2.1
  have hnc := K.hnc
  have hcm := K.hcm
  unfold maxLen at hcm
  clear hv h hbd
  go_enter Try.func73, Try.ntmps73
  go_wp2_with fail
  refine HNUM.out.mono ?_
  rintro e w1 ⟨rfl, k, rfl⟩
  go_wp2_with fail
  · have hcn : c = n := by assumption
    go_ret
    exact ⟨rfl, rd_make (heap10 _ _ K.hg) K.hb (by rw [List.length_drop, K.hn]) (by omega) (by unfold maxLen; omega) (K.hr.cut0 (by rw [K.hn]; exact hnn) (by rw [K.hn]; exact hnc) hcn) K.hne (set10 w k g _ _), set10 w k g _ _⟩
  · have hcn : ¬ c = n := by assumption
    go_ret
    exact ⟨rfl, rd_make (heap10 _ _ K.hg) K.hb (by rw [List.length_drop, K.hn]) (by omega) (by unfold maxLen; omega) (K.hr.cut1 (by rw [K.hn]; exact hnn) (by rw [K.hn]; exact hnc) hcn) (ne_add K.hne) (set10 w k g _ _), set10 w k g _ _⟩
theorem rd_uint (g : Nat) (st : BinP.St) (base : Nat × Nat) (w : World) (h : RdS w base g st) :
    Calls Try.prog 73 #[.pointer (some ⟨g, 0, none⟩)] w fun e w' => e = .returned (.int .u64 ((BinP.pUint st).1 : Int)) ∧ RdS w' base g (BinP.pUint st).2 ∧ w.grownBy w' (some g) := by
  rcases st with _ | l
  · obtain ⟨l, h⟩ := h
    exact uint_bad g l base w h
  · rcases hn : BinP.num l with _ | ⟨v, n⟩
    · have e : BinP.pUint (some l) = (0, none) := by simp [BinP.pUint, hn]
      rw [e]
      exact uint_none g l base w h hn
    · have e : BinP.pUint (some l) = (v, some (l.drop n)) := by simp [BinP.pUint, hn]
      rw [e]
      exact uint_some g l base w v n h hn
end Go.Proofs.Ytohgkadbajmphaa
namespace Go.Proofs.Ytohgkadbajmphaa
open Go.RowKit
set_option linter.unusedVariables false
theorem wf_i64' {a : Int} (h : (Lit.int .i64 a).wf = true) : -9223372036854775808 ≤ a ∧ a ≤ 9223372036854775807 := by
  simpa [Lit.wf, IntKind.min, IntKind.max, IntKind.signed, IntKind.bits] using h
set_option maxRecDepth 4000 in
set_option maxHeartbeats 400000 in
theorem int_bad (g : Nat) (l : List UInt8) (base : Nat × Nat) (w : World) (a : Int) (ha : (Lit.int .i64 a).wf = true) (h : Rd w base g l true) :
    Calls Try.prog 72 #[.pointer (some ⟨g, 0, none⟩), .int .i64 a] w fun e w' => e = .returned (.int .i64 0) ∧ RdS w' base g none ∧ w.grownBy w' (some g) := by
  have hnum : ∃ v n b, Calls Try.prog 90 #[.pointer (some ⟨g, 0, none⟩)] w fun e w' => e = .returned (.tuple #[.int .u64 v, .int .i64 n, .bool b]) ∧ ∃ k, w' = w.drewN k := ⟨_, _, _, rd_number g l true base w h⟩
  obtain ⟨v, n, b, hnum⟩ := hnum
  have HNUM := Lib.hid hnum
  obtain ⟨A, n', c, K⟩ := h.knows
  have hc0 := K.c0
  have hc1 := K.c1
  have hf1 := K.f1
  clear hnum h ha
  go_enter Try.func72, Try.ntmps72
  go_wp2_with fail
  refine HNUM.out.mono ?_
  rintro e w1 ⟨rfl, k, rfl⟩
  go_wp2_with fail
  go_ret
  exact ⟨rfl, ⟨l, rd_make (heap1 (.bool true) K.hg) K.hb K.hn K.hnc K.hcm K.hr K.hne (set1 w k g _)⟩, set1 w k g _⟩
set_option maxRecDepth 4000 in
set_option maxHeartbeats 400000 in
theorem int_none (g : Nat) (l : List UInt8) (base : Nat × Nat) (w : World) (a : Int) (ha : (Lit.int .i64 a).wf = true) (h : Rd w base g l false) (hv : BinP.num l = none) :
    Calls Try.prog 72 #[.pointer (some ⟨g, 0, none⟩), .int .i64 a] w fun e w' => e = .returned (.int .i64 0) ∧ RdS w' base g none ∧ w.grownBy w' (some g) := by
  have HNUM := Lib.hid (number_none h hv)
  obtain ⟨A, n', c, K⟩ := h.knows
  have hc0 := K.c0
  have hc1 := K.c1
  have hf1 := K.f1
  clear hv h ha
  go_enter Try.func72, Try.ntmps72
  go_wp2_with fail
  refine HNUM.out.mono ?_
  rintro e w1 ⟨rfl, k, rfl⟩
  go_wp2_with fail
  go_ret
  exact ⟨rfl, ⟨l, rd_make (heap1 (.bool true) K.hg) K.hb K.hn K.hnc K.hcm K.hr K.hne (set1 w k g _)⟩, set1 w k g _⟩
set_option maxRecDepth 4000 in
set_option maxHeartbeats 400000 in
theorem int_much (g : Nat) (l : List UInt8) (base : Nat × Nat) (w : World) (a : Int) (v n : Nat) (ha : (Lit.int .i64 a).wf = true) (h : Rd w base g l false) (hv : BinP.num l = some (v, n)) (hm : a < 0 ∨ a < (v : Int)) :
    Calls Try.prog 72 #[.pointer (some ⟨g, 0, none⟩), .int .i64 a] w fun e w' => e = .returned (.int .i64 0) ∧ RdS w' base g none ∧ w.grownBy w' (some g) := by
  have HNUM := Lib.hid (number_some h hv)
  have hbd := (BinP.num_bound hv).2.2.2
  obtain ⟨A, n', c, K⟩ := h.knows
  have hc0 := K.c0
  have hc1 := K.c1
  have hf1 := K.f1
  have hai := wf_i64' ha
  clear hv h ha
  by_cases hneg : a < 0
  · clear hbd hm
    go_enter Try.func72, Try.ntmps72
    go_wp2_with fail
    refine HNUM.out.mono ?_
    rintro e w1 ⟨rfl, k, rfl⟩
    go_wp2_with fail
    go_ret
    exact ⟨rfl, ⟨l, rd_make (heap1 (.bool true) K.hg) K.hb K.hn K.hnc K.hcm K.hr K.hne (set1 w k g _)⟩, set1 w k g _⟩
  · have hm2 : a < (v : Int) := by omega
    clear hbd hm
    go_enter Try.func72, Try.ntmps72
    go_wp2_with fail
    refine HNUM.out.mono ?_
    rintro e w1 ⟨rfl, k, rfl⟩
    go_wp2_with fail
    go_ret
    exact ⟨rfl, ⟨l, rd_make (heap1 (.bool true) K.hg) K.hb K.hn K.hnc K.hcm K.hr K.hne (set1 w k g _)⟩, set1 w k g _⟩
set_option maxRecDepth 4000 in
set_option maxHeartbeats 400000 in
theorem int_some (g : Nat) (l : List UInt8) (base : Nat × Nat) (w : World) (a : Int) (v n : Nat) (ha : (Lit.int .i64 a).wf = true) (h : Rd w base g l false) (hv : BinP.num l = some (v, n)) (hm : 0 ≤ a ∧ (v : Int) ≤ a) :
    Calls Try.prog 72 #[.pointer (some ⟨g, 0, none⟩), .int .i64 a] w fun e w' => e = .returned (.int .i64 (v : Int)) ∧ RdS w' base g (some (l.drop n)) ∧ w.grownBy w' (some g) := by
  have HNUM := Lib.hid (number_some h hv)
  have hbd := BinP.num_bound hv
  obtain ⟨A, n', c, K⟩ := h.knows
  have hc0 := K.c0
  have hc1 := K.c1
  have hf1 := K.f1
  have hf0 := K.f0
  have hnn : n ≤ n' := by rw [← K.hn]; exact hbd.2.1
  have hnc := K.hnc
  have hcm := K.hcm
  unfold maxLen at hcm
  obtain ⟨hm0, hm1⟩ := hm
  have hd1 : decide (a < 0) = false := by simp; omega
  have hd2 : decide (a < (v : Int)) = false := by simp; omega
  have hai := wf_i64' ha
  clear hv h hbd ha
  go_enter Try.func72, Try.ntmps72
  go_wp2_with fail
  refine HNUM.out.mono ?_
  rintro e w1 ⟨rfl, k, rfl⟩
  go_wp2_with fail
  · have hcn : c = n := by assumption
    go_ret
    exact ⟨rfl, rd_make (heap10 _ _ K.hg) K.hb (by rw [List.length_drop, K.hn]) (by omega) (by unfold maxLen; omega) (K.hr.cut0 (by rw [K.hn]; exact hnn) (by rw [K.hn]; exact hnc) hcn) K.hne (set10 w k g _ _), set10 w k g _ _⟩
  · have hcn : ¬ c = n := by assumption
    go_ret
    exact ⟨rfl, rd_make (heap10 _ _ K.hg) K.hb (by rw [List.length_drop, K.hn]) (by omega) (by unfold maxLen; omega) (K.hr.cut1 (by rw [K.hn]; exact hnn) (by rw [K.hn]; exact hnc) hcn) (ne_add K.hne) (set10 w k g _ _), set10 w k g _ _⟩
theorem rd_int (g : Nat) (st : BinP.St) (base : Nat × Nat) (w : World) (a : Int) (ha : (Lit.int .i64 a).wf = true) (h : RdS w base g st) :
    Calls Try.prog 72 #[.pointer (some ⟨g, 0, none⟩), .int .i64 a] w fun e w' => e = .returned (.int .i64 ((BinP.pInt a st).1 : Int)) ∧ RdS w' base g (BinP.pInt a st).2 ∧ w.grownBy w' (some g) := by
  rcases st with _ | l
  · obtain ⟨l, h⟩ := h
    exact int_bad g l base w a ha h
  · rcases hn : BinP.num l with _ | ⟨v, n⟩
    · have e : BinP.pInt a (some l) = (0, none) := by simp [BinP.pInt, hn]
      rw [e]
      exact int_none g l base w a ha h hn
    · by_cases hm : a < 0 ∨ a < (v : Int)
      · have e : BinP.pInt a (some l) = (0, none) := by simp [BinP.pInt, hn, hm]
        rw [e]
        exact int_much g l base w a v n ha h hn hm
      · have e : BinP.pInt a (some l) = (v, some (l.drop n)) := by simp [BinP.pInt, hn, hm]
        rw [e]
        exact int_some g l base w a v n ha h hn (by omega)
def BinP.endN : BinP.St → Int
  | some [] => 0
  | _ => 14
def BinP.errN : BinP.St → Int
  | some _ => 0
  | none => 14
theorem grown0 (w : World) (r : Option Nat) : w.grownBy w r := ⟨rfl, rfl, rfl, Nat.le_refl _, fun _ _ _ => rfl⟩
set_option maxRecDepth 4000 in
set_option maxHeartbeats 400000 in
theorem rd_end (g : Nat) (st : BinP.St) (base : Nat × Nat) (w : World) (h : RdS w base g st) :
    Calls Try.prog 74 #[.pointer (some ⟨g, 0, none⟩)] w fun e w' => e = .returned (.int .i64 (BinP.endN st)) ∧ w = w' := by
  rcases st with _ | l
  · obtain ⟨l, h⟩ := h
    obtain ⟨A, n, c, K⟩ := h.knows
    have hc1 := K.c1
    clear h
    go_enter Try.func74, Try.ntmps74
    go_wp2_with fail
    go_ret
    exact ⟨rfl, rfl⟩
  · obtain ⟨A, n, c, K⟩ := h.knows
    have hc0 := K.c0
    have hc1 := K.c1
    have hn := K.hn
    clear h
    rcases l with _ | ⟨x, r⟩
    · have hn0 : n < 1 := by rw [← hn]; simp
      clear hn
      go_enter Try.func74, Try.ntmps74
      go_wp2_with fail
      go_ret
      exact ⟨rfl, rfl⟩
    · have hn0 : 0 < n := by rw [← hn]; simp
      clear hn
      go_enter Try.func74, Try.ntmps74
      go_wp2_with fail
      go_ret
      exact ⟨rfl, rfl⟩
end Go.Proofs.Ytohgkadbajmphaa
namespace Go.Proofs.Ytohgkadbajmphaa
open Go.RowKit
set_option linter.unusedVariables false
namespace BinP
def pText (most : Int) (st : St) : List UInt8 × St :=
  match pInt most st with
  | (_, none) => ([], none)
  | (n, some l) => if l.length < n then ([], none) else (l.take n, some (l.drop n))
end BinP
theorem left_some (l : List UInt8) : BinP.left (some l) = l.length := rfl
theorem left_none : BinP.left none = 0 := rfl
theorem endN_nil : BinP.endN (some []) = 0 := rfl
theorem endN_cons (x : UInt8) (l : List UInt8) : BinP.endN (some (x :: l)) = 14 := rfl
theorem endN_none : BinP.endN none = 14 := rfl
theorem errN_some (l : List UInt8) : BinP.errN (some l) = 0 := rfl
theorem errN_none : BinP.errN none = 14 := rfl
theorem set1' (w : World) (g : Nat) (u : Value) : w.grownBy (w.setCell ⟨g, 1, none⟩ u) (some g) := grown_set w g 1 u
theorem set10' (w : World) (g : Nat) (u v : Value) : w.grownBy ((w.setCell ⟨g, 1, none⟩ u).setCell ⟨g, 0, none⟩ v) (some g) := grown_trans' (set1' w g u) (grown_set _ g 0 v)
theorem heap1' {w : World} {g : Nat} {a b : Value} {t : TypeId} (u : Value) (h : w.heap[g]? = some (.cells #[a, b] t (0, 0))) : (w.setCell ⟨g, 1, none⟩ u).heap[g]? = some (.cells #[a, u] t (0, 0)) := heap_setCell_at w g 1 _ t (0, 0) u h
theorem heap10' {w : World} {g : Nat} {a b : Value} {t : TypeId} (u v : Value) (h : w.heap[g]? = some (.cells #[a, b] t (0, 0))) : ((w.setCell ⟨g, 1, none⟩ u).setCell ⟨g, 0, none⟩ v).heap[g]? = some (.cells #[v, u] t (0, 0)) :=
  heap_setCell_at _ g 0 _ t (0, 0) v (heap1' u h)
theorem Row.cutTo {w : World} {B : Nat} {A : Option Addr} {l : List UInt8} (h : Row w B A (l.map b8)) (n : Nat) : Row w B A ((l.take n).map b8) := by
  rw [List.map_take]; exact h.take n
set_option maxRecDepth 4000 in
set_option maxHeartbeats 400000 in
/-- bin.Read: a new reader -/
theorem bin_read (A : Option Addr) (n c : Nat) (l : List UInt8) (B : Nat) (w : World) (hn : l.length = n) (hr : Row w B A (l.map b8)) (hB : B ≤ w.heap.size) (hm : n ≤ 140737488355328) :
    Calls Try.prog 71 #[.slice A n c] w fun e w' => ∃ g, e = .returned (.pointer (some ⟨g, 0, none⟩)) ∧ RdS w' (w.heap.size, w'.heap.size) g (some l) ∧ Below w.heap.size w w' := by
  have h1 := clone8 A n c l B w hn hr hB hm
  have H1 := Lib.hid h1
  clear h1 hr hn
  go_enter Try.func71, Try.ntmps71
  go_wp2_with fail
  refine H1.out.mono ?_
  rintro e w1 ⟨A1, n1, cap1, rfl, hO1, hB1⟩
  go_wp2_with fail
  go_ret
  have hs := hB1.size
  have hO := hO1.alloc (.cells #[.slice A1 n1 cap1, .bool false] 157)
  refine ⟨w1.heap.size, rfl, ⟨A1, n1, cap1, heap_alloc_new w1 _, ⟨hs, by simp⟩, hO1.len, hO1.le.1, hO1.le.2, hO.row, fun ad e => ?_⟩, hB1.alloc hs _⟩
  have := Own.lt hO1 ad.block (by rw [e]; rfl)
  exact ⟨by omega, this.1, by simp; omega⟩
end Go.Proofs.Ytohgkadbajmphaa
namespace Go.Proofs.Ytohgkadbajmphaa
open Go.RowKit
set_option linter.unusedVariables false
/-- what Get answers -/
def Got (w : World) (B : Nat) (l : List UInt8) (e : Ending) : Prop :=
  (BinP.num l = none ∧ ∃ v A n c, e = .returned (.tuple #[.int .u64 v, .slice A n c, .bool false])) ∨
  (∃ v k A n c, BinP.num l = some (v, k) ∧ e = .returned (.tuple #[.int .u64 (v : Int), .slice A n c, .bool true]) ∧ Sl w B A n c (l.drop k))
theorem add_round (acc : Nat) (x : UInt8) (k : Nat) (h : acc + x.toNat % 128 * 2 ^ (7 * k) < two64) :
    IntKind.u64.wrap ((acc : Int) + IntKind.u64.wrap ((x.toNat : Int) % 128 * 2 ^ (7 * k))) = ((acc + x.toNat % 128 * 2 ^ (7 * k) : Nat) : Int) := by
  have e : (x.toNat : Int) % 128 * 2 ^ (7 * k) = ((x.toNat % 128 * 2 ^ (7 * k) : Nat) : Int) := by
    rw [Int.natCast_mul, Int.natCast_emod, Int.natCast_pow]; rfl
  rw [e, wrap_u64n (by omega), ← Int.natCast_add, wrap_u64n h]
theorem add_round9 (acc : Nat) (x : UInt8) (h : acc + x.toNat % 128 * 2 ^ (7 * 9) < two64) :
    IntKind.u64.wrap ((acc : Int) + (x.toNat : Int) % 128 * 9223372036854775808) = ((acc + x.toNat % 128 * 2 ^ (7 * 9) : Nat) : Int) := by
  have e : (acc : Int) + (x.toNat : Int) % 128 * 9223372036854775808 = ((acc + x.toNat % 128 * 2 ^ (7 * 9) : Nat) : Int) := by
    have e2 : (2 : Nat) ^ (7 * 9) = 9223372036854775808 := by rfl
    rw [e2]
    omega
  rw [e, wrap_u64n h]
theorem wrap_i64s (k c : Nat) (h : k < c) (hc : c ≤ 2 ^ 63 - 1) : IntKind.i64.wrap ((k : Int) + 1) = ((k + 1 : Nat) : Int) := by
  rw [IntWalk.i64_in _ (by omega)]; omega
set_option maxRecDepth 4000 in
set_option maxHeartbeats 400000 in
theorem ref_get (A : Option Addr) (n c : Nat) (l : List UInt8) (B : Nat) (w : World) (h : Sl w B A n c l) :
    Calls Try.prog 57 #[.slice A n c] w fun e w' => Got w B l e ∧ ∃ k, w' = w.drewN k := by
  obtain ⟨hn, hnc, hcm, hr⟩ := h
  subst hn
  unfold maxLen at hcm
  have HNL : Hid (∀ k acc, BinP.numF k acc (l.drop k) = BinP.num l → (k = 10 ∨ k = l.length) → BinP.num l = none) := Lib.hid (by
    intro k acc h hk
    rcases hk with rfl | rfl
    · rw [← h, numF_ten]
    · rw [← h, List.drop_length]; rfl)
  go_enter Try.func57, Try.ntmps57
  go_wp2_with fail
  go_loop [5, 6] (fun v i => ∃ k acc : Nat, k ≤ 10 ∧ k ≤ l.length ∧ i = .int .i64 (k : Int) ∧ v = .int .u64 (acc : Int) ∧ BinP.numF k acc (l.drop k) = BinP.num l ∧ (k ≤ 9 → acc < 2 ^ (7 * k))) (fun _ i => 10 - (intOf i).toNat)
  case atStart => exact ⟨0, 0, by omega, by omega, rfl, rfl, rfl, by omega⟩
  case round =>
    obtain ⟨k, acc, hk10, hkl, rfl, rfl, hnum, hacc⟩ := hrel
    have HNUM := Lib.hid hnum
    have HACC := Lib.hid hacc
    clear hnum hacc
    by_cases hin : k < l.length ∧ k < 10
    · obtain ⟨hin2, hin1⟩ := hin
      obtain ⟨ad, hA, hab, hc⟩ := hr.at_ k (by rw [List.length_map]; exact hin2)
      subst hA
      rw [List.getElem_map] at hc
      obtain ⟨x, hx⟩ : ∃ x, x = l[k] := ⟨_, rfl⟩
      rw [← hx] at hc
      have hd : l.drop k = x :: l.drop (k + 1) := by rw [hx]; exact List.drop_eq_getElem_cons hin2
      have HD := Lib.hid hd
      have hxl := x.toNat_lt
      clear hx hd hab
      have e128 : x.toNat < 128 → x.toNat % 128 = x.toNat := fun h => Nat.mod_eq_of_lt h
      by_cases hnine : k = 9 ∧ 1 < x.toNat % 128
      · have hno : BinP.num l = none := by
          obtain ⟨rfl, h1⟩ := hnine
          rw [← HNUM.out, HD.out]
          by_cases h128 : 128 ≤ x.toNat
          · rw [numF_on (by omega) h128, numF_ten]
          · exact numF_bad (by omega) (by omega) (.inr ⟨rfl, by rwa [e128 (by omega)] at h1⟩)
        have HNO := Lib.hid hno
        have h9 : 9 ≤ k := by omega
        have h1 : 1 < (x.toNat : Int) % 128 := by omega
        clear hno hnine e128
        go_wp2_with fail
        go_ret3
        exact ⟨.inl ⟨HNO.out, _, _, _, _, rfl⟩, 0, rfl⟩
      · have hbd : acc + x.toNat % 128 * 2 ^ (7 * k) < two64 ∧ (k < 9 → acc + x.toNat % 128 * 2 ^ (7 * k) < 2 ^ (7 * (k + 1))) := by
          by_cases hk9 : k < 9
          · have := step_bound acc k x hk9 (HACC.out (by omega))
            exact ⟨this.2, fun _ => this.1⟩
          · obtain rfl : k = 9 := by omega
            have h1 : x.toNat % 128 ≤ 1 := by omega
            have h2 := HACC.out (by omega)
            have h3 : x.toNat % 128 * 2 ^ (7 * 9) ≤ 1 * 2 ^ (7 * 9) := Nat.mul_le_mul_right _ h1
            have h4 : 2 * 2 ^ (7 * 9) = two64 := by rfl
            refine ⟨?_, fun h => by omega⟩
            rw [← h4]
            clear h4
            generalize 2 ^ (7 * 9) = q at *
            omega
        have had := add_round acc x k hbd.1
        have had9 : k = 9 → IntKind.u64.wrap ((acc : Int) + (x.toNat : Int) % 128 * 9223372036854775808) = ((acc + x.toNat % 128 * 2 ^ (7 * k) : Nat) : Int) := by
          rintro rfl
          exact add_round9 acc x hbd.1
        have hgood := fun h h' => numF_good (k := k) (acc := acc) (x := x) (r := l.drop (k + 1)) hin1 h h'
        have hon := fun h => numF_on (k := k) (acc := acc) (x := x) (r := l.drop (k + 1)) hin1 h
        generalize acc + x.toNat % 128 * 2 ^ (7 * k) = z at hbd had had9 hgood hon
        have HBD := Lib.hid hbd
        have HAD9 := Lib.hid had9
        have HGOOD := Lib.hid hgood
        have HON := Lib.hid hon
        clear hbd had9 hgood hon
        by_cases h128 : 128 ≤ x.toNat
        · clear e128
          rcases (show k < 9 ∨ k = 9 by omega) with hk9 | rfl
          · clear hnine
            go_wp2_with fail
            go_round
            case rel => exact ⟨k + 1, z, by omega, by omega, by go_num, rfl, by rw [← HON.out h128, ← HD.out, HNUM.out], fun _ => HBD.out.2 hk9⟩
            case measure => simp [intOf]; omega
          · have h1 : ¬ 1 < (x.toNat : Int) % 128 := by omega
            have hc9 : w.cell? ⟨ad.block, ad.off + 9, none⟩ = some (b8 x) := hc
            have had9 := HAD9.out rfl
            clear hnine
            go_wp2_with fail
            go_round
            case rel => exact ⟨9 + 1, z, by omega, by omega, by go_num, rfl, by rw [← HON.out h128, ← HD.out, HNUM.out], fun h => by omega⟩
            case measure => simp [intOf]
        · have hws := wrap_i64s k c (by omega) hcm
          have hi1 : (0 : Int) ≤ (k : Int) + 1 := by omega
          have hi4 : (0 : Int) ≤ (k : Int) := by omega
          have hi5 : (k : Int) < (l.length : Int) := by omega
          have hi2 : (k : Int) + 1 ≤ (l.length : Int) := by omega
          have h1 : k < 9 ∨ ¬ 1 < (x.toNat : Int) % 128 := by omega
          have hsl0 : c = k + 1 → Sl w B (some ad) (l.length - (k + 1)) 0 (l.drop (k + 1)) := fun hcut => ⟨by simp, by omega, by unfold maxLen; omega, hr.cut0 (by omega) hnc hcut⟩
          have hsl1 : ¬ c = k + 1 → Sl w B (some (ad.add (k + 1))) (l.length - (k + 1)) (c - (k + 1)) (l.drop (k + 1)) := fun hcut => ⟨by simp, by omega, by unfold maxLen; omega, hr.cut1 (by omega) hnc hcut⟩
          have HSL0 := Lib.hid hsl0
          have HSL1 := Lib.hid hsl1
          have hw10 : IntKind.i64.wrap 10 = 10 := by rfl
          have hw1 : IntKind.i64.wrap 1 = 1 := by rfl
          clear hsl0 hsl1
          by_cases hx0 : 0 < x.toNat
          · have hgo : BinP.num l = some (z, k + 1) := by
              rw [← HNUM.out, HD.out]
              exact HGOOD.out (Nat.lt_of_not_le h128) (by have := e128 (Nat.lt_of_not_le h128); omega)
            have HGO := Lib.hid hgo
            have hd0 : decide ((0 : Int) < (x.toNat : Int)) = true := by simp; omega
            have hd1 : decide (0 < x.toNat) = true := by simp; omega
            clear hgo hnine e128
            rcases (show k < 9 ∨ k = 9 by omega) with hk9 | rfl
            · clear h1 HAD9
              by_cases hcut : c = k + 1
              · have HSL := Lib.hid (HSL0.out hcut)
                go_wp2_with fail
                go_quiet (fail)
                go_wp2_with fail
                go_ret3
                exact ⟨.inr ⟨_, _, _, _, _, HGO.out, rfl, HSL.out⟩, _, rfl⟩
              · have HSL := Lib.hid (HSL1.out hcut)
                go_wp2_with fail
                go_quiet (fail)
                go_wp2_with fail
                go_ret3
                exact ⟨.inr ⟨_, _, _, _, _, HGO.out, rfl, HSL.out⟩, _, rfl⟩
            · have had9 := HAD9.out rfl
              have h1' : ¬ 1 < (x.toNat : Int) % 128 := by omega
              have hi3 : (10 : Int) ≤ (l.length : Int) := by omega
              have hi6 : (9 : Int) < (l.length : Int) := by omega
              have hc9 : w.cell? ⟨ad.block, ad.off + 9, none⟩ = some (b8 x) := hc
              clear h1 HAD9
              by_cases hcut : c = 10
              · have HSL := Lib.hid (HSL0.out hcut)
                go_wp2_with fail
                go_quiet (fail)
                go_wp2_with fail
                go_ret3
                exact ⟨.inr ⟨_, _, _, _, _, HGO.out, rfl, HSL.out⟩, _, rfl⟩
              · have HSL := Lib.hid (HSL1.out hcut)
                go_wp2_with fail
                go_quiet (fail)
                go_wp2_with fail
                go_ret3
                exact ⟨.inr ⟨_, _, _, _, _, HGO.out, rfl, HSL.out⟩, _, rfl⟩
          · have hd0 : decide ((0 : Int) < (x.toNat : Int)) = false := by simp; omega
            have hd1 : decide (0 < x.toNat) = false := by simp; omega
            by_cases hk0 : 0 < k
            · have hno : BinP.num l = none := by
                rw [← HNUM.out, HD.out]
                exact numF_bad (by omega) (by omega) (.inl ⟨by omega, hk0⟩)
              have HNO := Lib.hid hno
              have hkb : ((k : Int) == 0) = false := by simp; omega
              clear hno hnine e128
              rcases (show k < 9 ∨ k = 9 by omega) with hk9 | rfl
              · clear h1 HAD9
                by_cases hcut : c = k + 1
                · go_wp2_with fail
                  go_quiet (fail)
                  go_wp2_with fail
                  go_ret3
                  exact ⟨.inl ⟨HNO.out, _, _, _, _, rfl⟩, _, rfl⟩
                · go_wp2_with fail
                  go_quiet (fail)
                  go_wp2_with fail
                  go_ret3
                  exact ⟨.inl ⟨HNO.out, _, _, _, _, rfl⟩, _, rfl⟩
              · have had9 := HAD9.out rfl
                have h1' : ¬ 1 < (x.toNat : Int) % 128 := by omega
                have hi3 : (10 : Int) ≤ (l.length : Int) := by omega
                have hi6 : (9 : Int) < (l.length : Int) := by omega
                have hc9 : w.cell? ⟨ad.block, ad.off + 9, none⟩ = some (b8 x) := hc
                clear h1 HAD9
                by_cases hcut : c = 10
                · go_wp2_with fail
                  go_quiet (fail)
                  go_wp2_with fail
                  go_ret3
                  exact ⟨.inl ⟨HNO.out, _, _, _, _, rfl⟩, _, rfl⟩
                · go_wp2_with fail
                  go_quiet (fail)
                  go_wp2_with fail
                  go_ret3
                  exact ⟨.inl ⟨HNO.out, _, _, _, _, rfl⟩, _, rfl⟩
            · have hgo : BinP.num l = some (z, k + 1) := by
                rw [← HNUM.out, HD.out]
                exact HGOOD.out (Nat.lt_of_not_le h128) (by omega)
              have HGO := Lib.hid hgo
              have hk1 : k < 1 := by omega
              have hkb : ((k : Int) == 0) = true := by simp; omega
              clear hgo hnine e128 h1 HAD9
              by_cases hcut : c = k + 1
              · have HSL := Lib.hid (HSL0.out hcut)
                go_wp2_with fail
                go_quiet (fail)
                go_wp2_with fail
                go_ret3
                exact ⟨.inr ⟨_, _, _, _, _, HGO.out, rfl, HSL.out⟩, _, rfl⟩
              · have HSL := Lib.hid (HSL1.out hcut)
                go_wp2_with fail
                go_quiet (fail)
                go_wp2_with fail
                go_ret3
                exact ⟨.inr ⟨_, _, _, _, _, HGO.out, rfl, HSL.out⟩, _, rfl⟩
    · have hkk : k = 10 ∨ k = l.length := by omega
      have hno := HNL.out k acc HNUM.out hkk
      have HNO := Lib.hid hno
      clear hkk hno
      go_wp2_with fail
      all_goals
        go_ret3
        exact ⟨.inl ⟨HNO.out, _, _, _, _, rfl⟩, 0, rfl⟩
end Go.Proofs.Ytohgkadbajmphaa
namespace Go.Proofs.Ytohgkadbajmphaa
open Go.RowKit
set_option linter.unusedVariables false
set_option maxRecDepth 100000 in
theorem wpQuiet_str8 {ops : Array Oper} {rest : List Oper} {a : Act} {w : World} {Q : Act → Prop} {dst : Option Tmp} {ty : TypeId} {x : Operand} {pos : String} {af : Array Edge} {g : Option (Nat × Bool)}
    (A : Option Addr) (n c B : Nat) (l : List UInt8) (hx : a.eval x = .slice A n c) (hw : Region.wanted ⟨dst, .convert 31 9 x, ty, pos, af, g⟩ (yielded ops a.tmps) = true)
    (hn : l.length = n) (hr : Row w B A (l.map b8)) (h : wpQuiet Try.prog ops (fun w' => ∃ n, w' = w.drewN n) Q rest (a.put dst (.string ⟨l.toArray⟩))) :
    wpQuiet Try.prog ops (fun w' => ∃ n, w' = w.drewN n) Q (⟨dst, .convert 31 9 x, ty, pos, af, g⟩ :: rest) a :=
  wpQuiet_step fun K hK => by
    rw [if_pos hw]
    refine ⟨.string ⟨l.toArray⟩, fun w' hw' => ?_, hK _ h⟩
    obtain ⟨m, rfl⟩ := hw'
    have := Row.toBytes (P := Try.prog) (c := c) 31 9 5 Try.underlying31 Try.underlying5 Try.underlying9 hn (hr.drewN m)
    unfold Oper.quietAt
    simp only [execOp, hx, Sem.run_bind, this, Result.andThen_ok, Sem.run_pure, Oper.quietUpon, and_self]
/-- what Small answers -/
def Smalled (w : World) (B : Nat) (l : List UInt8) (most : Int) (e : Ending) : Prop :=
  ((BinP.pInt most (some l)).2 = none ∧ e = .returned (.tuple #[.int .i64 0, .slice none 0 0, .bool false])) ∨
  (∃ (v : Nat) (r : List UInt8) (A : Option Addr) (n c : Nat), BinP.pInt most (some l) = (v, some r) ∧ e = .returned (.tuple #[.int .i64 (v : Int), .slice A n c, .bool true]) ∧ Sl w B A n c r)
set_option maxRecDepth 4000 in
set_option maxHeartbeats 400000 in
theorem ref_small (A : Option Addr) (n c : Nat) (l : List UInt8) (B : Nat) (w : World) (most : Int) (hmw : (Lit.int .i64 most).wf = true) (h : Sl w B A n c l) :
    Calls Try.prog 56 #[.slice A n c, .int .i64 most] w fun e w' => Smalled w B l most e ∧ ∃ k, w' = w.drewN k := by
  have H := Lib.hid (ref_get A n c l B w h)
  have hmi := wf_i64' hmw
  clear hmw h
  rcases hnum : BinP.num l with _ | ⟨v, k⟩
  · have HP := Lib.hid (show (BinP.pInt most (some l)).2 = none by simp [BinP.pInt, hnum])
    have HN := Lib.hid hnum
    clear hnum
    go_enter Try.func56, Try.ntmps56
    go_wp2_with fail
    refine H.out.mono ?_
    rintro e w1 ⟨hgot, k, rfl⟩
    rcases hgot with ⟨_, v, A', n', c', rfl⟩ | ⟨v, k', A', n', c', hv, _⟩
    · go_wp2_with fail
      go_ret3
      exact ⟨.inl ⟨HP.out, rfl⟩, _, rfl⟩
    · rw [HN.out] at hv
      cases hv
  · have HN := Lib.hid hnum
    have hvb := (BinP.num_bound hnum).2.2.2
    by_cases hm : most < 0 ∨ most < (v : Int)
    · have HP := Lib.hid (show (BinP.pInt most (some l)).2 = none by simp [BinP.pInt, hnum, hm])
      clear hnum
      by_cases hneg : most < 0
      · clear hm
        go_enter Try.func56, Try.ntmps56
        go_wp2_with fail
        refine H.out.mono ?_
        rintro e w1 ⟨hgot, k, rfl⟩
        rcases hgot with ⟨hv, _⟩ | ⟨v, k', A', n', c', hv, rfl, hsl⟩
        · rw [HN.out] at hv
          cases hv
        · clear hv
          go_wp2_with fail
          go_ret3
          exact ⟨.inl ⟨HP.out, rfl⟩, _, rfl⟩
      · have hmv : most < (v : Int) := by omega
        clear hm
        go_enter Try.func56, Try.ntmps56
        go_wp2_with fail
        refine H.out.mono ?_
        rintro e w1 ⟨hgot, k, rfl⟩
        rcases hgot with ⟨hv, _⟩ | ⟨v', k', A', n', c', hv, rfl, hsl⟩
        · rw [HN.out] at hv
          cases hv
        · rw [HN.out] at hv
          injection hv with hv
          injection hv with hv1 hv2
          subst hv1 hv2
          go_wp2_with fail
          go_ret3
          exact ⟨.inl ⟨HP.out, rfl⟩, _, rfl⟩
    · have HP := Lib.hid (show BinP.pInt most (some l) = (v, some (l.drop k)) by simp only [BinP.pInt, hnum]; rw [if_neg hm])
      have hm0 : 0 ≤ most := by omega
      have hm1 : (v : Int) ≤ most := by omega
      clear hnum hm
      go_enter Try.func56, Try.ntmps56
      go_wp2_with fail
      refine H.out.mono ?_
      rintro e w1 ⟨hgot, k, rfl⟩
      rcases hgot with ⟨hv, _⟩ | ⟨v', k', A', n', c', hv, rfl, hsl⟩
      · rw [HN.out] at hv
        cases hv
      · rw [HN.out] at hv
        injection hv with hv
        injection hv with hv1 hv2
        subst hv1 hv2
        go_wp2_with fail
        go_ret3
        exact ⟨.inr ⟨_, _, _, _, _, HP.out, rfl, hsl⟩, _, rfl⟩
end Go.Proofs.Ytohgkadbajmphaa
