/- A keeper's state; the walks of auth.New, Issued, Asked, Revoke, and of the counters. -/
import Derived.Test.YtohgkadbajmphaaAuthA
import Derived.Test.YtohgkadbajmphaaShaRead
import Derived.Maps.Own
import Derived.Maps.Views
import Derived.Laws.LoneSync
import Derived.Test.YtohgkadbajmphaaClass
namespace Go.Proofs.Ytohgkadbajmphaa
open Go.RowKit
set_option linter.unusedVariables false
theorem map_keyed : Maps.Keyed Try.prog 48 := Maps.int_keyed Try.underlying48
/-- block b holds the map of the tokens taken back -/
def RevAt (w : World) (b : Nat) (rev : Nat → Bool) (k : Nat) : Prop :=
  ∃ D : DataW Unit, w.ownsMap Try.prog 48 (plainElem Try.prog 4) b k D ∧ Maps.IsMap D ∧ ∀ i : Nat, i < two64 → D.atKey (.int .u64 (i : Int)) (.lit (.bool false)) = .lit (.bool (rev i))
theorem wf_u64 {i : Nat} (h : i < two64) : (Lit.int .u64 (i : Int)).wf = true := by
  unfold two64 at h
  simp [Lit.wf, IntKind.min, IntKind.max, IntKind.signed, IntKind.bits]
  omega
theorem key_u64 {i : Nat} (h : i < two64) : keyOf Try.prog 48 (.int .u64 (i : Int)) = some (.int .u64 (i : Int)) := Maps.keyOf_int_mk Try.underlying48 (wf_u64 h)
theorem RevAt.made (w : World) : RevAt (w.alloc (.map #[] 0)) w.heap.size (fun _ => false) 0 :=
  ⟨.map [], World.ownsMap_made w Try.prog _ _, Maps.isMap_empty, fun i _ => rfl⟩
theorem RevAt.lt {w : World} {b k : Nat} {rev : Nat → Bool} (h : RevAt w b rev k) : b < w.heap.size := by obtain ⟨D, h1, _⟩ := h; exact h1.lt
theorem RevAt.kept {w w' : World} {b k : Nat} {rev : Nat → Bool} (h : RevAt w b rev k) {row : Option Nat} (hg : w.grownBy w' row) (hne : some b ≠ row) : RevAt w' b rev k := by
  obtain ⟨D, h1, h2, h3⟩ := h
  exact ⟨D, h1.kept hg hne, h2, h3⟩
theorem RevAt.look {w : World} {b k : Nat} {rev : Nat → Bool} (h : RevAt w b rev k) {i : Nat} (hi : i < two64) : (Instr.lookup 100 (.map (some b)) (.int .u64 (i : Int)) false).run Try.prog w = .ok (.bool (rev i)) w := by
  obtain ⟨D, h1, h2, h3⟩ := h
  have hb : Try.prog.underlying 4 = some .bool := Try.underlying4
  have hz : plainElem (H := Unit) Try.prog 4 (.bool false) = some (.lit (.bool false), []) := by simp [plainElem, hb]
  obtain ⟨v, ps, hrun, hv⟩ := h1.lookup map_keyed Try.underlying100 (z := .bool false) (by kernel_rfl) hz (key_u64 hi)
  rw [h3 i hi] at hv
  have : v = .bool (rev i) := by
    unfold plainElem at hv
    rw [hb] at hv
    cases v <;> simp at hv
    obtain ⟨e, _⟩ := hv
    rw [e]
  rw [hrun, this]
/-- block g holds a keeper -/
def Keep (w : World) (base top g : Nat) (key : List UInt8) (issued asked : Nat) (rev : Nat → Bool) (k : Nat) : Prop :=
  ∃ A n c b e, w.heap[g]? = some (.cells #[.slice A n c, .int .u64 (issued : Int), .int .u64 (asked : Int), .map (some b)] e (0, 0)) ∧ base ≤ g ∧ base ≤ b ∧ b ≠ g ∧ (top ≤ w.heap.size ∧ g < top ∧ b < top) ∧
    Sl w w.heap.size A n c key ∧ (∀ ad, A = some ad → ad.block ≠ g ∧ ad.block ≠ b ∧ ad.block < top) ∧ RevAt w b rev k
section
variable {w w' : World} {base top g : Nat} {key : List UInt8} {issued asked k : Nat} {rev : Nat → Bool}
theorem Keep.lt (h : Keep w base top g key issued asked rev k) : base ≤ g ∧ g < w.heap.size ∧ top ≤ w.heap.size ∧ g < top := by
  obtain ⟨A, n, c, b, e, h1, h2, _, _, h5, _⟩ := h
  exact ⟨h2, lt_of_blk h1, h5.1, h5.2.1⟩
theorem Keep.grew (h : Keep w base top g key issued asked rev k) (hg : Grew w w') : Keep w' base top g key issued asked rev k := by
  obtain ⟨A, n, c, b, e, h1, h2, h3, h4, ht, h5, h6, h7⟩ := h
  have hgr : w.grownBy w' none := ⟨hg.os, hg.tape, hg.output, hg.size, fun k hk _ => hg.block k hk⟩
  exact ⟨A, n, c, b, e, (hg.block g (lt_of_blk h1)).trans h1, h2, h3, h4, ⟨Nat.le_trans ht.1 hg.size, ht.2⟩, h5.grew hg, h6, h7.kept hgr (by simp)⟩
theorem Keep.lower (h : Keep w base top g key issued asked rev k) {base' : Nat} (hb : base' ≤ base) : Keep w base' top g key issued asked rev k := by
  obtain ⟨A, n, c, b, e, h1, h2, h3, h4⟩ := h
  exact ⟨A, n, c, b, e, h1, by omega, by omega, h4⟩
/-- what a walk knows of it -/
structure Keep.Knows (w : World) (base top g : Nat) (key : List UInt8) (issued asked : Nat) (rev : Nat → Bool) (k : Nat) (A : Option Addr) (n c b : Nat) : Prop where
  c0 : w.cell? ⟨g, 0, none⟩ = some (.slice A n c)
  c1 : w.cell? ⟨g, 1, none⟩ = some (.int .u64 (issued : Int))
  c2 : w.cell? ⟨g, 2, none⟩ = some (.int .u64 (asked : Int))
  c3 : w.cell? ⟨g, 3, none⟩ = some (.map (some b))
  f : ∀ j, w.frozen? ⟨g, j, none⟩ = false
  sl : Sl w w.heap.size A n c key
  map : RevAt w b rev k
  bb : base ≤ b
  bt : b < top
  bg : b ≠ g
theorem Keep.knows (h : Keep w base top g key issued asked rev k) : ∃ A n c b, Keep.Knows w base top g key issued asked rev k A n c b := by
  obtain ⟨A, n, c, b, e, h1, h2, h3, h4, ht, h5, h6, h7⟩ := h
  exact ⟨A, n, c, b, by rw [cell_blk h1]; rfl, by rw [cell_blk h1]; rfl, by rw [cell_blk h1]; rfl, by rw [cell_blk h1]; rfl, fun j => Lib.frozen_of_heap h1 j, h5, h7, h3, ht.2.2, h4⟩
theorem sl_but {A : Option Addr} {n c : Nat} (h : Sl w w.heap.size A n c key) (hg : w.grownBy w' (some g)) (hne : ∀ ad, A = some ad → ad.block ≠ g) : Sl w' w'.heap.size A n c key :=
  ⟨h.1, h.2.1, h.2.2.1, fun j u hu => by
    obtain ⟨ad, e, hb, hc⟩ := h.2.2.2 j u hu
    exact ⟨ad, e, Nat.lt_of_lt_of_le hb hg.size, (World.cell?_of_block (hg.block (ad.add j).block (by rw [add_block]; exact hb) (fun e2 => hne ad e (by injection e2 with e2; rwa [add_block] at e2)))).trans hc⟩⟩
theorem Keep.setIssued (h : Keep w base top g key issued asked rev k) (v : Nat) : Keep (w.setCell ⟨g, 1, none⟩ (.int .u64 (v : Int))) base top g key v asked rev k := by
  obtain ⟨A, n, c, b, e, h1, h2, h3, h4, ht, h5, h6, h7⟩ := h
  have hg : w.grownBy (w.setCell ⟨g, 1, none⟩ (.int .u64 (v : Int))) (some g) := grown_cell w ⟨g, 1, none⟩ _
  exact ⟨A, n, c, b, e, heap_setCell_at w g 1 _ e (0, 0) _ h1, h2, h3, h4, ⟨Nat.le_trans ht.1 hg.size, ht.2⟩, sl_but h5 hg (fun ad e => (h6 ad e).1), h6, h7.kept hg (fun e => h4 (by injection e))⟩
theorem Keep.setAsked (h : Keep w base top g key issued asked rev k) (v : Nat) : Keep (w.setCell ⟨g, 2, none⟩ (.int .u64 (v : Int))) base top g key issued v rev k := by
  obtain ⟨A, n, c, b, e, h1, h2, h3, h4, ht, h5, h6, h7⟩ := h
  have hg : w.grownBy (w.setCell ⟨g, 2, none⟩ (.int .u64 (v : Int))) (some g) := grown_cell w ⟨g, 2, none⟩ _
  exact ⟨A, n, c, b, e, heap_setCell_at w g 2 _ e (0, 0) _ h1, h2, h3, h4, ⟨Nat.le_trans ht.1 hg.size, ht.2⟩, sl_but h5 hg (fun ad e => (h6 ad e).1), h6, h7.kept hg (fun e => h4 (by injection e))⟩
/-- a store elsewhere -/
theorem Keep.apart (h : Keep w base top g key issued asked rev k) {r : Nat} (hg : w.grownBy w' (some r)) (hr : top ≤ r) : Keep w' base top g key issued asked rev k := by
  obtain ⟨A, n, c, b, e, h1, h2, h3, h4, ht, h5, h6, h7⟩ := h
  exact ⟨A, n, c, b, e, (hg.block g (lt_of_blk h1) (fun e => by injection e; omega)).trans h1, h2, h3, h4, ⟨Nat.le_trans ht.1 hg.size, ht.2⟩, sl_but h5 hg (fun ad e => by have := (h6 ad e).2.2; omega), h6, h7.kept hg (fun e => by injection e; omega)⟩
theorem Keep.made {A : Option Addr} {n c : Nat} (w : World) (hs : base ≤ w.heap.size) (h : OwnB w base A n c key) :
    Keep ((w.alloc (.map #[] 0)).alloc (.cells #[.slice A n c, .int .u64 0, .int .u64 0, .map (some w.heap.size)] 105)) base (w.heap.size + 2) (w.heap.size + 1) key 0 0 (fun _ => false) 0 := by
  have hz : (w.alloc (.map #[] 0)).heap.size = w.heap.size + 1 := by simp
  have h1 := heap_alloc_new (w.alloc (.map #[] 0)) (.cells #[.slice A n c, .int .u64 0, .int .u64 0, .map (some w.heap.size)] 105)
  rw [hz] at h1
  refine ⟨A, n, c, w.heap.size, _, h1, by omega, hs, by omega, ⟨by simp, by omega, by omega⟩, ((h.alloc _).alloc _).sl, fun ad e => ?_, (RevAt.made w).kept (World.grownBy_alloc _ _ none) (by simp)⟩
  have := h.lt ad.block (by rw [e]; rfl)
  omega
end
set_option maxRecDepth 100000 in
set_option maxHeartbeats 1000000 in
theorem auth_new (A : Option Addr) (n c B : Nat) (key : List UInt8) (w : World) (h : Sl w B A n c key) (hB : B ≤ w.heap.size) (hm : n ≤ 140737488355328) :
    Calls Try.prog 29 #[.slice A n c] w fun e w' => ∃ g, e = .returned (.pointer (some ⟨g, 0, none⟩)) ∧ Keep w' w.heap.size w'.heap.size g key 0 0 (fun _ => false) 0 ∧ Grew w w' := by
  have H1 := Lib.hid (clone8 A n c key B w h.1 h.2.2.2 hB hm)
  have hmm := @run_makeMap Try.prog
  go_enter Try.func29, Try.ntmps29
  go_wp2_with fail
  refine H1.out.mono ?_
  rintro e w1 ⟨A1, n1, c1, rfl, hO1, hB1⟩
  go_wp2_with fail
  go_ret
  exact ⟨_, rfl, by have := Keep.made w1 hB1.size hO1; simpa using this, (hB1.alloc hB1.size _).alloc (by have := hB1.size; simp; omega) _⟩
set_option maxRecDepth 100000 in
set_option maxHeartbeats 1000000 in
theorem u64_load (a : Addr) (x : Int) (w : World) (hc : w.cell? a = some (.int .u64 x)) (g i : Nat) (ha : a = ⟨g, i, none⟩) :
    Calls Try.prog 53 #[.pointer (some a)] w fun e w' => e = .returned (.int .u64 x) ∧ w = w' := by
  subst ha
  have hl := run_call_load (P := Try.prog) Try.func75 (by kernel_rfl) (by kernel_rfl) (by kernel_rfl) .u64 (by kernel_rfl) hc
  go_enter Try.func53, Try.ntmps53
  go_wp2
  go_ret
  exact ⟨rfl, rfl⟩
set_option maxRecDepth 100000 in
set_option maxHeartbeats 1000000 in
theorem u64_add (g i : Nat) (x : Nat) (w : World) (hc : w.cell? ⟨g, i, none⟩ = some (.int .u64 (x : Int))) (hz : w.frozen? ⟨g, i, none⟩ = false) (hx : x + 1 < two64) :
    Calls Try.prog 50 #[.pointer (some ⟨g, i, none⟩), .int .u64 1] w fun e w' => e = .returned (.int .u64 ((x + 1 : Nat) : Int)) ∧ w' = w.setCell ⟨g, i, none⟩ (.int .u64 ((x + 1 : Nat) : Int)) := by
  have hw := wrap_u64n hx
  have hadd := run_call_add (P := Try.prog) Try.func65 (by kernel_rfl) (by kernel_rfl) (by kernel_rfl) .u64 (by kernel_rfl) (y := 1) (s := ((x + 1 : Nat) : Int)) hc hz (by
    rw [← hw]
    simp [go_sem])
  obtain ⟨S, hS⟩ : ∃ S : Int, S = ((x + 1 : Nat) : Int) := ⟨_, rfl⟩
  rw [← hS] at hadd ⊢
  have HS := Lib.hid hS
  clear hw hx hS
  go_enter Try.func50, Try.ntmps50
  go_wp2
  go_ret
  exact ⟨rfl, rfl⟩
set_option maxRecDepth 100000 in
set_option maxHeartbeats 1000000 in
theorem keep_issued (base top g : Nat) (key : List UInt8) (issued asked : Nat) (rev : Nat → Bool) (k : Nat) (w : World) (h : Keep w base top g key issued asked rev k) :
    Calls Try.prog 33 #[.pointer (some ⟨g, 0, none⟩)] w fun e w' => e = .returned (.int .u64 (issued : Int)) ∧ w = w' := by
  obtain ⟨A, n, c, b, K⟩ := h.knows
  have H := Lib.hid (u64_load ⟨g, 1, none⟩ issued w K.c1 g 1 rfl)
  clear h
  go_enter Try.func33, Try.ntmps33
  go_wp2_with (go_at_call 53; refine H.out.mono ?_; rintro e w' ⟨rfl, rfl⟩)
  go_ret
  exact ⟨rfl, rfl⟩
set_option maxRecDepth 100000 in
set_option maxHeartbeats 1000000 in
theorem keep_asked (base top g : Nat) (key : List UInt8) (issued asked : Nat) (rev : Nat → Bool) (k : Nat) (w : World) (h : Keep w base top g key issued asked rev k) :
    Calls Try.prog 37 #[.pointer (some ⟨g, 0, none⟩)] w fun e w' => e = .returned (.int .u64 (asked : Int)) ∧ w = w' := by
  obtain ⟨A, n, c, b, K⟩ := h.knows
  have H := Lib.hid (u64_load ⟨g, 2, none⟩ asked w K.c2 g 2 rfl)
  clear h
  go_enter Try.func37, Try.ntmps37
  go_wp2_with (go_at_call 53; refine H.out.mono ?_; rintro e w' ⟨rfl, rfl⟩)
  go_ret
  exact ⟨rfl, rfl⟩
/-- only blocks from base on, below top, may have turned -/
structure Out (base top : Nat) (w w' : World) : Prop where
  os : w'.os = w.os
  tape : w'.tape = w.tape
  output : w'.output = w.output
  size : w.heap.size ≤ w'.heap.size
  block : ∀ j, j < w.heap.size → (j < base ∨ top ≤ j) → w'.heap[j]? = w.heap[j]?
section
variable {base top : Nat} {w w' w'' : World}
theorem Out.refl (base top : Nat) (w : World) : Out base top w w := ⟨rfl, rfl, rfl, Nat.le_refl _, fun _ _ _ => rfl⟩
theorem Out.grew (h : Out base top w w') (hg : Grew w' w'') : Out base top w w'' :=
  ⟨hg.os.trans h.os, hg.tape.trans h.tape, hg.output.trans h.output, Nat.le_trans h.size hg.size, fun j hj hb => (hg.block j (Nat.lt_of_lt_of_le hj h.size)).trans (h.block j hj hb)⟩
theorem Out.trans (h : Out base top w w') (k : Out base top w' w'') : Out base top w w'' :=
  ⟨k.os.trans h.os, k.tape.trans h.tape, k.output.trans h.output, Nat.le_trans h.size k.size, fun j hj hb => (k.block j (Nat.lt_of_lt_of_le hj h.size) hb).trans (h.block j hj hb)⟩
theorem Out.row (h : Out base top w w') {r : Nat} (hg : w'.grownBy w'' (some r)) (hr : (base ≤ r ∧ r < top) ∨ w.heap.size ≤ r) : Out base top w w'' :=
  ⟨hg.os.trans h.os, hg.tape.trans h.tape, hg.output.trans h.output, Nat.le_trans h.size hg.size, fun j hj hb => (hg.block j (Nat.lt_of_lt_of_le hj h.size) (fun e => by injection e with e; omega)).trans (h.block j hj hb)⟩
theorem Out.below (h : Out base top w w') (hb : base ≤ w.heap.size) : Below base w w' := ⟨h.os, h.tape, h.output, h.size, fun j hj => h.block j (by omega) (.inl hj)⟩
theorem Out.arr (h : Out base top w w') {r : Nat} {xs : List Value} (ha : ArrV w r xs) (hr : top ≤ r) : ArrV w' r xs := ha.keep (h.block r ha.lt (.inr hr))
end
/-- how a revoking ends -/
def Revoked (w : World) (base top g : Nat) (key : List UInt8) (issued asked : Nat) (rev : Nat → Bool) (k num : Nat) (e : Ending) (w' : World) : Prop :=
  if num < 1 ∨ issued < num then e = .returned (.int .i64 1) ∧ w = w'
  else e = .returned (.int .i64 0) ∧ Keep w' base top g key issued asked (fun j => if j = num then true else rev j) (k + 1) ∧ Out base top w w'
theorem Keep.setRev {w w' : World} {base top g b : Nat} {key : List UInt8} {issued asked k num : Nat} {rev : Nat → Bool} {A : Option Addr} {n c : Nat} (h : Keep w base top g key issued asked rev k) (hK : Keep.Knows w base top g key issued asked rev k A n c b)
    (hg : w.grownBy w' (some b)) (hm : RevAt w' b (fun j => if j = num then true else rev j) (k + 1)) : Keep w' base top g key issued asked (fun j => if j = num then true else rev j) (k + 1) := by
  obtain ⟨A', n', c', b', e, h1, h2, h3, h4, ht, h5, h6, h7⟩ := h
  have hb : b' = b := by
    have := hK.c3
    rw [cell_blk h1] at this
    simpa using this
  subst hb
  refine ⟨A', n', c', b', e, (hg.block g (lt_of_blk h1) (fun e => h4 (by injection e with e; exact e.symm))).trans h1, h2, h3, h4, ⟨Nat.le_trans ht.1 hg.size, ht.2⟩, sl_but h5 hg (fun ad e => (h6 ad e).2.1), h6, hm⟩
set_option maxRecDepth 100000 in
set_option maxHeartbeats 1000000 in
theorem keep_revoke (base top g : Nat) (key : List UInt8) (issued asked : Nat) (rev : Nat → Bool) (k num : Nat) (w : World) (h : Keep w base top g key issued asked rev k) (hn : num < two64) (hk : k < 1000000) :
    Calls Try.prog 32 #[.pointer (some ⟨g, 0, none⟩), .int .u64 (num : Int)] w (Revoked w base top g key issued asked rev k num) := by
  obtain ⟨A, n, c, b, K⟩ := h.knows
  have HI := Lib.hid (keep_issued base top g key issued asked rev k w h)
  have HK := Lib.hid K
  have HH := Lib.hid h
  have c3 := K.c3
  clear K h
  by_cases h1 : num < 1
  · have hR : Hid (Revoked w base top g key issued asked rev k num (.returned (.int .i64 1)) w) := Lib.hid (by unfold Revoked; rw [if_pos (.inl h1)]; exact ⟨rfl, rfl⟩)
    have i1 : (num : Int) < 1 := by omega
    clear h1
    go_enter Try.func32, Try.ntmps32
    go_wp2_with (go_at_call 33; refine HI.out.mono ?_; rintro e w' ⟨rfl, rfl⟩)
    go_ret
    exact hR.out
  · have i1 : ¬ (num : Int) < 1 := by omega
    by_cases h2 : issued < num
    · have hR : Hid (Revoked w base top g key issued asked rev k num (.returned (.int .i64 1)) w) := Lib.hid (by unfold Revoked; rw [if_pos (.inr h2)]; exact ⟨rfl, rfl⟩)
      clear h1
      go_enter Try.func32, Try.ntmps32
      go_wp2_with (go_at_call 33; refine HI.out.mono ?_; rintro e w' ⟨rfl, rfl⟩)
      go_ret
      exact hR.out
    · have HN := Lib.hid (show ¬ (num < 1 ∨ issued < num) by omega)
      obtain ⟨D, m1, m2, m3⟩ := HK.out.map
      have HM := Lib.hid m1
      have HM2 := Lib.hid m2
      have HM3 := Lib.hid m3
      have hb : Try.prog.underlying 4 = some .bool := Try.underlying4
      have hv : plainElem (H := Unit) Try.prog 4 (.bool true) = some (.lit (.bool true), []) := by simp [plainElem, hb]
      have HV := Lib.hid hv
      have HKEY := Lib.hid (key_u64 hn)
      clear m1 m2 m3 hv hb h1
      go_enter Try.func32, Try.ntmps32
      go_wp2_with (first
        | (go_at_call 33; refine HI.out.mono ?_; rintro e w' ⟨rfl, rfl⟩)
        | (refine wpList_mapUpdate_own w rfl (.tmp 16) (.tmp 17) (.const (.bool true)) 100 rfl 48 4 map_keyed Try.underlying100 _ b k D rfl HM.out (by unfold maxLen; omega) _ _ _ rfl rfl HKEY.out _ _ HV.out ?_; intro w2 hM hg2))
      go_ret
      unfold Revoked
      rw [if_neg HN.out]
      refine ⟨rfl, HH.out.setRev HK.out hg2 ⟨_, hM, HM2.out.put _ _, fun i hi => ?_⟩, (Out.refl _ _ _).row hg2 (.inl ⟨HK.out.bb, HK.out.bt⟩)⟩
      by_cases hin : i = num
      · subst hin
        simp only [if_true]
        exact Maps.atKey_put_same HM2.out (by trivial) _ _
      · simp only [if_neg hin]
        rw [Maps.atKey_put_other (fun e => hin (by injection e; omega)), HM3.out i hi]
end Go.Proofs.Ytohgkadbajmphaa
namespace Go.Proofs.Ytohgkadbajmphaa
open Go.RowKit
set_option linter.unusedVariables false
/-- a claim's cells -/
def clv (c : AuthP.Cl) : List Value := [.int .i64 (c.dev : Int), .int .u64 (c.epoch : Int), .int .u64 (c.num : Int), .int .i64 (c.over : Int)]
theorem wrap_u64i {a : Int} (h0 : 0 ≤ a) (h : a < 18446744073709551616) : IntKind.u64.wrap a = a := IntWalk.u64_in _ (by omega)
set_option maxRecDepth 100000 in
set_option maxHeartbeats 1000000 in
theorem auth_body (c : AuthP.Cl) (w : World) (h : AuthP.good c) :
    Calls Try.prog 49 #[.agg #[.int .i64 (c.dev : Int), .int .u64 (c.epoch : Int), .int .u64 (c.num : Int), .int .i64 (c.over : Int)]] w (GivesB w (AuthP.body c)) := by
  obtain ⟨h1, h2, h3, h4, h5, h6⟩ := h
  have e64 := two64_eq
  have HV1 := Lib.hid (show c.dev < two64 by omega)
  have HV2 := Lib.hid (show c.epoch < two64 by omega)
  have HV3 := Lib.hid h4
  have HV4 := Lib.hid (show c.over < two64 by omega)
  have HW1 := Lib.hid (wrap_u64i (a := (c.dev : Int)) (by omega) (by omega))
  have HW4 := Lib.hid (wrap_u64i (a := (c.over : Int)) (by omega) (by omega))
  have HL1 := Lib.hid (BinP.enc_len c.dev)
  have HL2 := Lib.hid (BinP.enc_len c.epoch)
  have HL3 := Lib.hid (BinP.enc_len c.num)
  clear h1 h2 h3 h4 h5 h6 e64
  have hA := ArrV.made w #[.int .i64 (c.dev : Int), .int .u64 (c.epoch : Int), .int .u64 (c.num : Int), .int .i64 (c.over : Int)] 50
  obtain ⟨w1, hw1⟩ : ∃ w1, w1 = w.alloc (.cells #[.int .i64 (c.dev : Int), .int .u64 (c.epoch : Int), .int .u64 (c.num : Int), .int .i64 (c.over : Int)] 50) := ⟨_, rfl⟩
  have HB1 := Lib.hid (show Below w.heap.size w w1 by rw [hw1]; exact (Below.refl _ _).alloc (Nat.le_refl _) _)
  rw [← hw1] at hA
  have HA := Lib.hid hA
  have HW := Lib.hid hw1
  clear hA hw1
  go_enter Try.func49, Try.ntmps49
  go_wp2_with fail
  rw [← HW.out]
  refine wp_region_c (fun W => Grew w1 W) (by kernel_rfl) (Grew.drewN w1 1) ?_
  have HC := Lib.hid (Grew.drewN w1 1)
  have hq0 : ∀ x : { x : World // Grew w1 x }, x.1.cell? ⟨w.heap.size, 0, none⟩ = some (.int .i64 (c.dev : Int)) := fun x => (HA.out.grew x.2).atSome rfl
  have hq1 : ∀ x : { x : World // Grew w1 x }, x.1.cell? ⟨w.heap.size, 1, none⟩ = some (.int .u64 (c.epoch : Int)) := fun x => (HA.out.grew x.2).atSome rfl
  have hq2 : ∀ x : { x : World // Grew w1 x }, x.1.cell? ⟨w.heap.size, 2, none⟩ = some (.int .u64 (c.num : Int)) := fun x => (HA.out.grew x.2).atSome rfl
  have hq3 : ∀ x : { x : World // Grew w1 x }, x.1.cell? ⟨w.heap.size, 3, none⟩ = some (.int .i64 (c.over : Int)) := fun x => (HA.out.grew x.2).atSome rfl
  have HQ := Lib.hid (And.intro hq0 (And.intro hq1 (And.intro hq2 (And.intro hq3 (And.intro HW1.out HW4.out)))))
  clear hq0 hq1 hq2 hq3
  have hqq := HQ.out
  (refine wpAnyC_free 0 (oi := ⟨some 3, _, _, _, _, _⟩) (v := ?_) rfl (by kernel_rfl) (by kernel_rfl) (by kernel_rfl) HC.out rfl (fun x => ?_) ?_; rotate_left; (focus (simp [go_sem]; (try go_ints); first | done | (with_reducible rfl))); (simp only [Act.put, List.setIfInBounds_toArray, List.set_cons_succ, List.set_cons_zero]))
  (refine wpAnyC_free 1 (oi := ⟨some 4, _, _, _, _, _⟩) (v := ?_) rfl (by kernel_rfl) (by kernel_rfl) (by kernel_rfl) HC.out rfl (fun x => ?_) ?_; rotate_left; (focus (simp [go_sem, hqq]; (try go_ints); first | done | (with_reducible rfl))); (simp only [Act.put, List.setIfInBounds_toArray, List.set_cons_succ, List.set_cons_zero]))
  (refine wpAnyC_free 2 (oi := ⟨some 5, _, _, _, _, _⟩) (v := ?_) rfl (by kernel_rfl) (by kernel_rfl) (by kernel_rfl) HC.out rfl (fun x => ?_) ?_; rotate_left; (focus (simp [go_sem, hqq]; (try go_ints); first | done | (with_reducible rfl))); (simp only [Act.put, List.setIfInBounds_toArray, List.set_cons_succ, List.set_cons_zero]))
  (refine wpAnyC_free 4 (oi := ⟨some 7, _, _, _, _, _⟩) (v := ?_) rfl (by kernel_rfl) (by kernel_rfl) (by kernel_rfl) HC.out rfl (fun x => ?_) ?_; rotate_left; (focus (simp [go_sem]; (try go_ints); first | done | (with_reducible rfl))); (simp only [Act.put, List.setIfInBounds_toArray, List.set_cons_succ, List.set_cons_zero]))
  (refine wpAnyC_free 5 (oi := ⟨some 8, _, _, _, _, _⟩) (v := ?_) rfl (by kernel_rfl) (by kernel_rfl) (by kernel_rfl) HC.out rfl (fun x => ?_) ?_; rotate_left; (focus (simp [go_sem, hqq]; (try go_ints); first | done | (with_reducible rfl))); (simp only [Act.put, List.setIfInBounds_toArray, List.set_cons_succ, List.set_cons_zero]))
  (refine wpAnyC_free 7 (oi := ⟨some 10, _, _, _, _, _⟩) (v := ?_) rfl (by kernel_rfl) (by kernel_rfl) (by kernel_rfl) HC.out rfl (fun x => ?_) ?_; rotate_left; (focus (simp [go_sem]; (try go_ints); first | done | (with_reducible rfl))); (simp only [Act.put, List.setIfInBounds_toArray, List.set_cons_succ, List.set_cons_zero]))
  (refine wpAnyC_free 8 (oi := ⟨some 11, _, _, _, _, _⟩) (v := ?_) rfl (by kernel_rfl) (by kernel_rfl) (by kernel_rfl) HC.out rfl (fun x => ?_) ?_; rotate_left; (focus (simp [go_sem, hqq]; (try go_ints); first | done | (with_reducible rfl))); (simp only [Act.put, List.setIfInBounds_toArray, List.set_cons_succ, List.set_cons_zero]))
  (refine wpAnyC_free 10 (oi := ⟨some 13, _, _, _, _, _⟩) (v := ?_) rfl (by kernel_rfl) (by kernel_rfl) (by kernel_rfl) HC.out rfl (fun x => ?_) ?_; rotate_left; (focus (simp [go_sem]; (try go_ints); first | done | (with_reducible rfl))); (simp only [Act.put, List.setIfInBounds_toArray, List.set_cons_succ, List.set_cons_zero]))
  (refine wpAnyC_free 11 (oi := ⟨some 14, _, _, _, _, _⟩) (v := ?_) rfl (by kernel_rfl) (by kernel_rfl) (by kernel_rfl) HC.out rfl (fun x => ?_) ?_; rotate_left; (focus (simp [go_sem, hqq]; (try go_ints); first | done | (with_reducible rfl))); (simp only [Act.put, List.setIfInBounds_toArray, List.set_cons_succ, List.set_cons_zero]))
  (refine wpAnyC_free 12 (oi := ⟨some 15, _, _, _, _, _⟩) (v := ?_) rfl (by kernel_rfl) (by kernel_rfl) (by kernel_rfl) HC.out rfl (fun x => ?_) ?_; rotate_left; (focus (simp [go_sem, hqq]; (try go_ints); first | done | (with_reducible rfl))); (simp only [Act.put, List.setIfInBounds_toArray, List.set_cons_succ, List.set_cons_zero]))
  clear hqq
  change wpAnyC _ _ _ _ _ _ _ _ (World.drewN w1 1)
  refine wpAnyC_step 3 (o := ⟨some 6, _, _, _, _, _⟩) rfl (by kernel_rfl) rfl ?_
  refine wpList_callR rfl _ _ (fun v w' => ∃ A n cp, v = .slice A n cp ∧ OwnB w' (w1.drewN 1).heap.size A n cp ([] ++ BinP.enc c.dev) ∧ Below (w1.drewN 1).heap.size (w1.drewN 1) w') (by simp [go_sem]) ((bin_uint none 0 0 c.dev [] (w1.drewN 1).heap.size (w1.drewN 1) rfl Row.nil (Nat.le_refl _) (by have := HL1.out; have := HL2.out; have := HL3.out; omega) HV1.out).mono fun e w' ⟨A, n, cp, he, h1, h2⟩ => ⟨_, he, A, n, cp, rfl, h1, h2⟩) ?_
  rintro v w2 ⟨A2, n2, cp2, rfl, hO2, hB2⟩
  have HC := Lib.hid (Grew.trans HC.out hB2)
  have HO2 := Lib.hid hO2
  have hn2 := hO2.len
  have HN2 := Lib.hid hn2
  clear hO2 hB2 hn2
  (simp only [Act.put, List.setIfInBounds_toArray, List.set_cons_succ, List.set_cons_zero])
  refine wpList_nil ⟨rfl, HC.out, ?_⟩
  refine wpAnyC_step 6 (o := ⟨some 9, _, _, _, _, _⟩) rfl (by kernel_rfl) rfl ?_
  refine wpList_callR rfl _ _ (fun v w' => ∃ A n cp, v = .slice A n cp ∧ OwnB w' (w2).heap.size A n cp (([] ++ BinP.enc c.dev) ++ BinP.enc c.epoch) ∧ Below (w2).heap.size (w2) w') (by simp [go_sem]) ((bin_uint A2 n2 cp2 c.epoch _ (w2).heap.size (w2) HN2.out HO2.out.row (Nat.le_refl _) (by have := HL1.out; have := HL2.out; have := HL3.out; rw [← HN2.out]; simp; omega) HV2.out).mono fun e w' ⟨A, n, cp, he, h1, h2⟩ => ⟨_, he, A, n, cp, rfl, h1, h2⟩) ?_
  rintro v w3 ⟨A3, n3, cp3, rfl, hO3, hB3⟩
  have HC := Lib.hid (Grew.trans HC.out hB3)
  have HO3 := Lib.hid hO3
  have hn3 := hO3.len
  have HN3 := Lib.hid hn3
  clear hO3 hB3 hn3
  (simp only [Act.put, List.setIfInBounds_toArray, List.set_cons_succ, List.set_cons_zero])
  refine wpList_nil ⟨rfl, HC.out, ?_⟩
  refine wpAnyC_step 9 (o := ⟨some 12, _, _, _, _, _⟩) rfl (by kernel_rfl) rfl ?_
  refine wpList_callR rfl _ _ (fun v w' => ∃ A n cp, v = .slice A n cp ∧ OwnB w' (w3).heap.size A n cp ((([] ++ BinP.enc c.dev) ++ BinP.enc c.epoch) ++ BinP.enc c.num) ∧ Below (w3).heap.size (w3) w') (by simp [go_sem]) ((bin_uint A3 n3 cp3 c.num _ (w3).heap.size (w3) HN3.out HO3.out.row (Nat.le_refl _) (by have := HL1.out; have := HL2.out; have := HL3.out; rw [← HN3.out]; simp; omega) HV3.out).mono fun e w' ⟨A, n, cp, he, h1, h2⟩ => ⟨_, he, A, n, cp, rfl, h1, h2⟩) ?_
  rintro v w4 ⟨A4, n4, cp4, rfl, hO4, hB4⟩
  have HC := Lib.hid (Grew.trans HC.out hB4)
  have HO4 := Lib.hid hO4
  have hn4 := hO4.len
  have HN4 := Lib.hid hn4
  clear hO4 hB4 hn4
  (simp only [Act.put, List.setIfInBounds_toArray, List.set_cons_succ, List.set_cons_zero])
  refine wpList_nil ⟨rfl, HC.out, ?_⟩
  have HS4 := Lib.hid (Nat.le_trans HB1.out.size HC.out.size)
  refine wpAnyC_step 13 (o := ⟨some 16, _, _, _, _, _⟩) rfl (by kernel_rfl) rfl ?_
  refine wpList_callR rfl _ _ (fun v w' => ∃ A n cp, v = .slice A n cp ∧ OwnB w' (w4).heap.size A n cp (((([] ++ BinP.enc c.dev) ++ BinP.enc c.epoch) ++ BinP.enc c.num) ++ BinP.enc c.over) ∧ Below (w4).heap.size (w4) w') (by simp [go_sem]) ((bin_uint A4 n4 cp4 c.over _ (w4).heap.size (w4) HN4.out HO4.out.row (Nat.le_refl _) (by have := HL1.out; have := HL2.out; have := HL3.out; rw [← HN4.out]; simp; omega) HV4.out).mono fun e w' ⟨A, n, cp, he, h1, h2⟩ => ⟨_, he, A, n, cp, rfl, h1, h2⟩) ?_
  rintro v w5 ⟨A5, n5, cp5, rfl, hO5, hB5⟩
  have HC := Lib.hid (Grew.trans HC.out hB5)
  have HO5 := Lib.hid hO5
  have hn5 := hO5.len
  have HN5 := Lib.hid hn5
  clear hO5 hB5 hn5
  (simp only [Act.put, List.setIfInBounds_toArray, List.set_cons_succ, List.set_cons_zero])
  refine wpList_nil ⟨rfl, HC.out, ?_⟩
  (refine wpAnyC_free 14 (oi := ⟨some 2, _, _, _, _, _⟩) (v := ?_) rfl (by kernel_rfl) (by kernel_rfl) (by kernel_rfl) HC.out rfl (fun x => ?_) ?_; rotate_left; (focus (simp [go_sem]; (try go_ints); first | done | (with_reducible rfl))); (simp only [Act.put, List.setIfInBounds_toArray, List.set_cons_succ, List.set_cons_zero]))
  refine wpAnyC_done (by kernel_rfl) (fun _ => ?_) _
  go_wp2_with fail
  go_ret
  refine ⟨A5, n5, cp5, rfl, Own.lower HO5.out HS4.out, HB1.out.trans (HC.out.mono HB1.out.size)⟩
end Go.Proofs.Ytohgkadbajmphaa
namespace Go.Proofs.Ytohgkadbajmphaa
open Go.RowKit
set_option linter.unusedVariables false
def uok (s : List UInt8) : Bool := decide (s.length % 2 = 0) && s.all ShaP.isd
def uval (s : List UInt8) : List UInt8 := if uok s = true then ShaP.unhex s else []
theorem unhexed_cases {w w' : World} {s : List UInt8} {e : Ending} (h : Unhexed w s e w') : ∃ A n c, e = .returned (.tuple #[.slice A n c, .bool (uok s)]) ∧ OwnB w' w.heap.size A n c (uval s) ∧ Below w.heap.size w w' := by
  unfold Unhexed at h
  by_cases hc : s.length % 2 = 0 ∧ s.all ShaP.isd = true
  · rw [if_pos hc] at h
    have e1 : uok s = true := by unfold uok; simp [hc]
    obtain ⟨A, n, c, h1, h2, h3⟩ := h
    refine ⟨A, n, c, by rw [e1]; exact h1, ?_, h3⟩
    unfold uval
    rw [if_pos e1]
    exact h2
  · rw [if_neg hc] at h
    have e1 : uok s = false := by
      unfold uok
      rw [Bool.eq_false_iff]
      intro h2
      simp at h2
      exact hc ⟨h2.1, by simpa using h2.2⟩
    refine ⟨none, 0, 0, by rw [e1]; exact h.1, ?_, h.2⟩
    unfold uval
    rw [e1]
    exact Own.nil _ _ _ _
theorem uval_len (s : List UInt8) : (uval s).length = 32 → uok s = true → s.length = 64 := by
  intro h h2
  unfold uval at h
  rw [if_pos h2, ShaP.unhex_len] at h
  unfold uok at h2
  simp at h2
  omega
/-- how auth.read answers -/
def ReadA (w : World) (t : List UInt8) (e : Ending) (w' : World) : Prop :=
  match AuthP.parse t with
  | none => e = .returned (.tuple #[.agg (clv AuthP.none0).toArray, .slice none 0 0, .slice none 0 0, .int .i64 8]) ∧ Below w.heap.size w w'
  | some (c, b, s) => ∃ A n cp A' n' cp', e = .returned (.tuple #[.agg (clv c).toArray, .slice A n cp, .slice A' n' cp', .int .i64 0]) ∧ OwnB w' w.heap.size A n cp b ∧ OwnB w' w.heap.size A' n' cp' (ShaP.unhex s) ∧ Below w.heap.size w w'
theorem parse_eq (t : List UInt8) : AuthP.parse t =
    if (decide (t.take 3 = AuthP.head) && (AuthP.split (behind t)).isSome && uok (dotA (behind t)) && uok (dotB (behind t)) && decide ((uval (dotB (behind t))).length = 32)) = true
    then (AuthP.claim (ShaP.unhex (dotA (behind t)))).map fun c => (c, ShaP.unhex (dotA (behind t)), dotB (behind t)) else none := by
  unfold AuthP.parse
  by_cases h1 : t.take 3 = AuthP.head
  · have e1 : behind t = t.drop 3 := by unfold behind; rw [if_pos h1]
    rw [if_pos h1, decide_eq_true h1, e1]
    rcases hs : AuthP.split (t.drop 3) with _ | ⟨f, s⟩
    · simp
    · have e2 : dotA (t.drop 3) = f := by unfold dotA; rw [hs]
      have e3 : dotB (t.drop 3) = s := by unfold dotB; rw [hs]
      simp only [e2, e3, Option.isSome_some, Bool.true_and]
      by_cases hc : f.all ShaP.isd = true ∧ f.length % 2 = 0 ∧ s.all ShaP.isd = true ∧ s.length = 64
      · have u1 : uok f = true := by unfold uok; simp only [hc.1, hc.2.1]; rfl
        have u2 : uok s = true := by unfold uok; simp only [hc.2.2.1, hc.2.2.2]; rfl
        have u3 : (uval s).length = 32 := by unfold uval; rw [if_pos u2, ShaP.unhex_len, hc.2.2.2]
        rw [if_pos hc, u1, u2, decide_eq_true u3]
        rfl
      · rw [if_neg hc, if_neg]
        intro h2
        simp only [Bool.and_eq_true, decide_eq_true_eq] at h2
        refine hc ?_
        have h64 := uval_len s h2.2 h2.1.2
        obtain ⟨⟨h3, h4⟩, h5⟩ := h2
        unfold uok at h3 h4
        simp only [Bool.and_eq_true, decide_eq_true_eq] at h3 h4
        exact ⟨h3.2, h3.1, h4.2, h64⟩
  · rw [if_neg h1, decide_eq_false h1]
    simp
/-- a claim stored into its variable, and read -/
theorem claim_there {W : World} {g : Nat} {xs : List Value} (hA : ArrV W g xs) (hx : xs.length = 4) {C : List Value} (hl : C.length = 4) (h1 : ∀ v ∈ C, v.oneCell' = true) :
    W.there g 0 C.toArray.size ∧ (Try.prog.info? 50).map (·.size) = some C.toArray.size ∧ C.toArray.all (·.oneCell') = true ∧ ArrV (W.setCells g 0 C) g C := by
  refine ⟨?_, by rw [List.size_toArray, hl]; kernel_rfl, all_oneCell_toArray h1, hA.stored (by rw [hl, hx])⟩
  have := hA.there
  rw [hx] at this
  simpa [hl] using this
theorem claim_load {W : World} {g : Nat} {C : List Value} (hA : ArrV W g C) (hl : C.length = 4) : (loadVar 50 ⟨g, 0, none⟩).run Try.prog W = .ok (.agg C.toArray) W :=
  run_loadVar_mid (P := Try.prog) W g 0 50 C _ hA.range Try.underlying50 rfl (by rw [hl]; kernel_rfl)
theorem one_clv (c : AuthP.Cl) : ∀ v ∈ clv c, v.oneCell' = true := by
  intro v hv
  simp [clv] at hv
  rcases hv with rfl | rfl | rfl | rfl <;> rfl
theorem ArrV.but {w w' : World} {g g' : Nat} {xs : List Value} (h : ArrV w g xs) (hg : w.grownBy w' (some g')) (hne : g' ≠ g) : ArrV w' g xs := h.other hg (fun e => hne (by injection e))
set_option maxRecDepth 100000 in
set_option maxHeartbeats 2000000 in
theorem auth_read (t : List UInt8) (w : World) (hm : t.length ≤ 17592186044416) :
    Calls Try.prog 52 #[.string ⟨t.toArray⟩] w (ReadA w t) := by
  have hbl : (behind t).length ≤ t.length := by unfold behind; split <;> simp
  have hsp : (dotA (behind t)).length ≤ (behind t).length ∧ (dotB (behind t)).length ≤ (behind t).length := by
    unfold dotA dotB
    rcases hs : AuthP.split (behind t) with _ | ⟨f, s⟩
    · exact ⟨Nat.le_refl _, by simp⟩
    · have := (AuthP.split_eq hs).1
      have h2 := congrArg List.length this
      simp at h2
      simp only
      omega
  have HP := Lib.hid (parse_eq t)
  have HCP := Lib.hid (fun W => cut_prefix t W (by omega))
  have HCU := Lib.hid (fun W => strings_cut (behind t) W (by omega))
  obtain ⟨F, hF⟩ : ∃ F, F = dotA (behind t) := ⟨_, rfl⟩
  obtain ⟨S, hS⟩ : ∃ S, S = dotB (behind t) := ⟨_, rfl⟩
  obtain ⟨R, hR⟩ : ∃ R, R = behind t := ⟨_, rfl⟩
  obtain ⟨b1, hb1⟩ : ∃ b, b = decide (t.take 3 = AuthP.head) := ⟨_, rfl⟩
  obtain ⟨b2, hb2⟩ : ∃ b, b = (AuthP.split R).isSome := ⟨_, rfl⟩
  rw [← hF, ← hS] at hsp HP HCU
  rw [← hR] at HCP HCU hbl hsp HP
  rw [← hb1] at HCP HP
  rw [← hb2] at HCU HP
  have HU1 := Lib.hid (fun W => auth_unhex F W (by omega))
  have HU2 := Lib.hid (fun W => auth_unhex S W (by omega))
  have hFl : F.length ≤ 17592186044416 := by omega
  clear hF hS hR hb1 hb2 hsp hbl
  have hA0 := ArrV.made w #[.int .i64 0, .int .u64 0, .int .u64 0, .int .i64 0] 50
  obtain ⟨w1, hw1⟩ : ∃ w1, w1 = w.alloc (.cells #[.int .i64 0, .int .u64 0, .int .u64 0, .int .i64 0] 50) := ⟨_, rfl⟩
  have HB1 := Lib.hid (show Below w.heap.size w w1 by rw [hw1]; exact (Below.refl _ _).alloc (Nat.le_refl _) _)
  rw [← hw1] at hA0
  have HA0 := Lib.hid hA0
  have HW1 := Lib.hid hw1
  clear hA0 hw1
  go_enter Try.func52, Try.ntmps52
  go_upto_region 1 with fail
  rw [← HW1.out]
  go_upto_region 2 with (go_at_call 68; refine (HCP.out _).mono ?_; rintro e w2 ⟨rfl, rfl⟩)
  go_upto_region 3 with (go_at_call 69; refine (HCU.out _).mono ?_; rintro e w2 ⟨rfl, hB2⟩)
  have HB2 := Lib.hid (HB1.out.trans (hB2.mono HB1.out.size))
  have HA2 := Lib.hid (HA0.out.grew hB2)
  have hsz2 := hB2.size
  clear hB2
  go_upto_region 4 with (go_at_call 70; refine (HU1.out _).mono ?_; intro e w3 hU; obtain ⟨A1, n1, c1, he, hO1, hB3⟩ := unhexed_cases hU; subst he; clear hU)
  have HB3 := Lib.hid (HB2.out.trans (hB3.mono HB2.out.size))
  have HA3 := Lib.hid (HA2.out.grew hB3)
  have hsz3 := Nat.le_trans hsz2 hB3.size
  have HO1 := Lib.hid (show OwnB w3 w1.heap.size A1 n1 c1 (uval F) from Own.lower hO1 hsz2)
  clear hB3 hO1
  go_upto_region 5 with (go_at_call 70; refine (HU2.out _).mono ?_; intro e w4 hU; obtain ⟨A2, n2, c2, he, hO2, hB4⟩ := unhexed_cases hU; subst he; clear hU)
  have HB4 := Lib.hid (HB3.out.trans (hB4.mono HB3.out.size))
  have HA4 := Lib.hid (HA3.out.grew hB4)
  have HO1' := Lib.hid (HO1.out.below_all hB4)
  have HO2 := Lib.hid (show OwnB w4 w1.heap.size A2 n2 c2 (uval S) from Own.lower hO2 hsz3)
  have hn2 := hO2.len
  have hn1 := HO1'.out.len
  obtain ⟨b3, hb3⟩ : ∃ b, b = uok F := ⟨_, rfl⟩
  obtain ⟨b4, hb4⟩ : ∃ b, b = uok S := ⟨_, rfl⟩
  rw [← hb3, ← hb4] at HP ⊢
  have hw1 : w1.heap.size = w.heap.size + 1 := by rw [HW1.out]; simp
  have hsz4 := Nat.le_trans hsz3 hB4.size
  have HN1 := Lib.hid hn1
  have HN2 := Lib.hid hn2
  have hn1b : n1 ≤ 17592186044416 := by
    rw [← hn1]; unfold uval; split
    · rw [ShaP.unhex_len]; omega
    · simp
  have HB3' := Lib.hid hb3
  have HSZ := Lib.hid (And.intro hw1 hsz4)
  have HLE := Lib.hid HO1'.out.le
  clear hn1 hn2 hb3 hb4 hB4 hO2 HU1 HU2 HCP HCU hsz2 hsz3 hsz4 hw1 HO1 HA3 HA2 HA0 HB2 HB3
  have HST := Lib.hid (claim_there HA4.out rfl (C := [.int .i64 0, .int .u64 0, .int .u64 0, .int .i64 0]) rfl (by intro v hv; simp at hv; rcases hv with rfl | rfl | rfl | rfl <;> rfl))
  have HEND : Hid (AuthP.parse t = none → ReadA w t (.returned (.tuple #[.agg #[.int .i64 0, .int .u64 0, .int .u64 0, .int .i64 0], .slice none 0 0, .slice none 0 0, .int .i64 8])) (w4.setCells w.heap.size 0 [.int .i64 0, .int .u64 0, .int .u64 0, .int .i64 0])) := Lib.hid fun hp => by
    unfold ReadA
    rw [hp]
    exact ⟨rfl, HB4.out.trans (below_grown (grown_setCells w.heap.size _ 0 w4) HB4.out.size (fun g e => by injection e with e; omega))⟩
  have hld := claim_load HST.out.2.2.2 rfl
  have HLD : Hid (∀ W, W = w4.setCells w.heap.size 0 [.int .i64 0, .int .u64 0, .int .u64 0, .int .i64 0] → (loadVar 50 ⟨w.heap.size, 0, none⟩).run Try.prog W = .ok (.agg #[.int .i64 0, .int .u64 0, .int .u64 0, .int .i64 0]) W) := Lib.hid fun W e => by rw [e]; exact hld
  clear hld
  by_cases hall : (b1 && b2 && b3 && b4 && decide ((uval S).length = 32)) = true
  · have hP := HP.out
    rw [if_pos hall] at hP
    simp only [Bool.and_eq_true, decide_eq_true_eq] at hall
    obtain ⟨⟨⟨⟨rfl, rfl⟩, rfl⟩, rfl⟩, h32⟩ := hall
    obtain rfl : n2 = 32 := by rw [← HN2.out]; exact h32
    have eF : uval F = ShaP.unhex F := by unfold uval; rw [← HB3'.out]; rfl
    have HOB := Lib.hid (show OwnB w4 w1.heap.size A1 n1 c1 (ShaP.unhex F) by rw [← eF]; exact HO1'.out)
    have HN1' := Lib.hid (show (ShaP.unhex F).length = n1 by rw [← eF]; exact HN1.out)
    have HO2' := Lib.hid (show OwnB w4 w1.heap.size A2 32 c2 (ShaP.unhex S) by
      have e : uval S = ShaP.unhex S := by
        by_cases h : uok S = true
        · unfold uval; rw [if_pos h]
        · have : uval S = [] := by unfold uval; rw [if_neg h]
          rw [this] at h32; cases h32
      rw [← e]; exact HO2.out)
    obtain ⟨B, hB⟩ : ∃ B, B = ShaP.unhex F := ⟨_, rfl⟩
    rw [← hB] at hP HOB HN1'
    have HRD := Lib.hid (bin_read A1 n1 c1 B w4.heap.size w4 HN1'.out HOB.out.row (Nat.le_refl _) (by omega))
    obtain ⟨dv, hdv⟩ : ∃ x, x = (BinP.pInt 15 (some B)).1 := ⟨_, rfl⟩
    obtain ⟨s1, hs1⟩ : ∃ x, x = (BinP.pInt 15 (some B)).2 := ⟨_, rfl⟩
    have HInt : Hid (∀ W base g, RdS W base g (some B) → Calls Try.prog 72 #[.pointer (some ⟨g, 0, none⟩), .int .i64 15] W fun e w' => e = .returned (.int .i64 (dv : Int)) ∧ RdS w' base g s1 ∧ W.grownBy w' (some g)) := Lib.hid fun W base g h => by
      rw [hdv, hs1]; exact rd_int g (some B) base W 15 (by decide) h
    have HUint : Hid (∀ W base g st, RdS W base g st → Calls Try.prog 73 #[.pointer (some ⟨g, 0, none⟩)] W fun e w' => e = .returned (.int .u64 ((BinP.pUint st).1 : Int)) ∧ RdS w' base g (BinP.pUint st).2 ∧ W.grownBy w' (some g)) := Lib.hid fun W base g st h => rd_uint g st base W h
    unfold AuthP.claim at hP
    rw [← hdv, ← hs1] at hP
    have HPP := Lib.hid hP
    have hclear := hB
    clear hP hB hclear hdv hs1 eF h32 HEND HP HO1' HO2 HN1 HN2 HB3'
    go_upto_region 8 with (go_at_call 71; refine HRD.out.mono ?_; rintro e w5 ⟨g, rfl, hR5, hB5⟩)
    have hglt := hR5.base_le.1.1
    have HB5 := Lib.hid hB5
    clear hB5
    go_upto_region 9 with (first
      | (go_at_call 72; refine (HInt.out _ _ _ (by assumption)).mono ?_; rintro e w6 ⟨rfl, hR6, hg6⟩; have hG6 := hg6; clear hR5)
      | (go_at_call 73; refine (HUint.out _ _ _ _ (by assumption)).mono ?_; rintro e w6 ⟨rfl, hR6, hg6⟩; have hG6 := grown_trans' hG6 hg6))
    obtain ⟨ep, hep⟩ : ∃ x, x = (BinP.pUint s1).1 := ⟨_, rfl⟩
    obtain ⟨s2, hs2⟩ : ∃ x, x = (BinP.pUint s1).2 := ⟨_, rfl⟩
    rw [← hep, ← hs2] at HPP
    rw [← hs2] at hR6
    rw [← hep, ← hs2]
    obtain ⟨nu, hnu⟩ : ∃ x, x = (BinP.pUint s2).1 := ⟨_, rfl⟩
    obtain ⟨s3, hs3⟩ : ∃ x, x = (BinP.pUint s2).2 := ⟨_, rfl⟩
    rw [← hnu, ← hs3] at HPP
    rw [← hs3] at hR6
    rw [← hnu, ← hs3]
    obtain ⟨ov, hov⟩ : ∃ x, x = (BinP.pUint s3).1 := ⟨_, rfl⟩
    obtain ⟨s4, hs4⟩ : ∃ x, x = (BinP.pUint s3).2 := ⟨_, rfl⟩
    rw [← hov, ← hs4] at HPP
    rw [← hs4] at hR6
    rw [← hov]
    have hne : g ≠ w.heap.size := by have := HA4.out.lt; omega
    have HEnd := Lib.hid (rd_end g s4 _ w6 hR6)
    have HA6 := Lib.hid ((HA4.out.grew HB5.out).but hG6 hne)
    have HOB6 := Lib.hid ((HOB.out.below_all HB5.out).other hG6 (fun g1 e e2 => by have := (HOB.out.lt g1 e).2; injection e2 with e2; omega))
    have HO26 := Lib.hid ((HO2'.out.below_all HB5.out).other hG6 (fun g1 e e2 => by have := (HO2'.out.lt g1 e).2; injection e2 with e2; omega))
    have HB6 := Lib.hid (show Below w.heap.size w w6 from HB4.out.trans ((HB5.out.mono HB4.out.size).trans (below_grown hG6 (Nat.le_trans HB4.out.size HB5.out.size) (fun g1 e => by injection e with e; have := HB4.out.size; omega))))
    clear hep hs2 hnu hs3 hov hs4 hR6 hg6 hG6 HST HLD HA4 HO2' HOB HRD HInt HUint HB4 HB5 HB1 hne hglt
    have HST6 := Lib.hid (claim_there HA6.out rfl (C := [.int .i64 0, .int .u64 0, .int .u64 0, .int .i64 0]) rfl (by intro v hv; simp at hv; rcases hv with rfl | rfl | rfl | rfl <;> rfl))
    have HEND6 : Hid (AuthP.parse t = none → ReadA w t (.returned (.tuple #[.agg #[.int .i64 0, .int .u64 0, .int .u64 0, .int .i64 0], .slice none 0 0, .slice none 0 0, .int .i64 8])) (w6.setCells w.heap.size 0 [.int .i64 0, .int .u64 0, .int .u64 0, .int .i64 0])) := Lib.hid fun hp => by
      unfold ReadA
      rw [hp]
      exact ⟨rfl, HB6.out.trans (below_grown (grown_setCells w.heap.size _ 0 w6) HB6.out.size (fun g e => by injection e with e; omega))⟩
    have hld := claim_load HST6.out.2.2.2 rfl
    have HLD6 : Hid (∀ W, W = w6.setCells w.heap.size 0 [.int .i64 0, .int .u64 0, .int .u64 0, .int .i64 0] → (loadVar 50 ⟨w.heap.size, 0, none⟩).run Try.prog W = .ok (.agg #[.int .i64 0, .int .u64 0, .int .u64 0, .int .i64 0]) W) := Lib.hid fun W e => by rw [e]; exact hld
    clear hld
    by_cases q1 : s4 = some []
    · subst q1
      rw [endN_nil] at HEnd
      by_cases q2 : ep ≤ 1099511627776
      · have i2 : ¬ (1099511627776 : Int) < (ep : Int) := by omega
        by_cases q3 : 1 ≤ nu
        · have i3 : ¬ (nu : Int) < 1 := by omega
          by_cases q4 : 1 ≤ ov
          · have i4 : ¬ (ov : Int) < 1 := by omega
            by_cases q5 : ov ≤ 2305843009213693952
            · have i5 : ¬ (2305843009213693952 : Int) < (ov : Int) := by omega
              have i6 : (0 : Int) ≤ (ov : Int) := by omega
              have i7 : (ov : Int) ≤ 2305843009213693952 := by omega
              have HPS := Lib.hid (show AuthP.parse t = some (⟨dv, ep, nu, ov⟩, B, S) by rw [HPP.out, if_pos ⟨rfl, q2, q3, q4, q5⟩]; rfl)
              obtain ⟨C, hC⟩ : ∃ C : List Value, C = [.int .i64 (dv : Int), .int .u64 (ep : Int), .int .u64 (nu : Int), .int .i64 (ov : Int)] := ⟨_, rfl⟩
              have HS7 := Lib.hid (claim_there HA6.out rfl (C := C) (by rw [hC]; rfl) (by rw [hC]; exact one_clv ⟨dv, ep, nu, ov⟩))
              have hld := claim_load HS7.out.2.2.2 (by rw [hC]; rfl)
              have HLD7 : Hid (∀ W, W = w6.setCells w.heap.size 0 C → (loadVar 50 ⟨w.heap.size, 0, none⟩).run Try.prog W = .ok (.agg C.toArray) W) := Lib.hid fun W e => by rw [e]; exact hld
              have HEQ := Lib.hid (show (Value.agg #[.int .i64 (dv : Int), .int .u64 (ep : Int), .int .u64 (nu : Int), .int .i64 (ov : Int)]) = .agg C.toArray by rw [hC])
              have HE7 : Hid (ReadA w t (.returned (.tuple #[.agg C.toArray, .slice A1 n1 c1, .slice A2 32 c2, .int .i64 0])) (w6.setCells w.heap.size 0 C)) := Lib.hid (by
                unfold ReadA
                rw [HPS.out]
                have hgr := grown_setCells w.heap.size C 0 w6
                have hb := HSZ.out.1
                exact ⟨A1, n1, c1, A2, 32, c2, by rw [hC]; rfl, OwnB.other (show OwnB w6 w.heap.size A1 n1 c1 B from Own.lower HOB6.out (by omega)) hgr (fun g1 e e2 => by have := (HOB6.out.lt g1 e).1; injection e2 with e2; omega),
                  OwnB.other (show OwnB w6 w.heap.size A2 32 c2 (ShaP.unhex S) from Own.lower HO26.out (by omega)) hgr (fun g1 e e2 => by have := (HO26.out.lt g1 e).1; injection e2 with e2; omega),
                  HB6.out.trans (below_grown hgr HB6.out.size (fun g e => by injection e with e; omega))⟩)
              clear hC hld q2 q3 q4 q5
              go_wp2_with (first
                | (go_at_call 74; refine HEnd.out.mono ?_; rintro e w7 ⟨rfl, rfl⟩)
                | (refine wpList_store_mid rfl 50 (.tmp 2) (.tmp 94) rfl w.heap.size 0 C.toArray rfl HEQ.out HS7.out.1 HS7.out.2.1 HS7.out.2.2.1 ?_))
              have hres2 := HLD7.out (w6.setCells w.heap.size 0 C.toArray.toList) (by simp)
              refine bodyPost_ret (v := .tuple #[.agg C.toArray, .slice A1 n1 c1, .slice A2 32 c2, .int .i64 0]) (by simp [results, Try.results52, asAddr, hres2]) rfl (by simpa using HE7.out)
            · have i5 : (2305843009213693952 : Int) < (ov : Int) := by omega
              have HNOT := Lib.hid (show ¬ ((some ([] : List UInt8)) = some [] ∧ ep ≤ 1099511627776 ∧ 1 ≤ nu ∧ 1 ≤ ov ∧ ov ≤ 2305843009213693952) from fun h => q5 h.2.2.2.2)
              clear q2 q3 q4 q5
              go_wp2_with (first
                | (go_at_call 74; refine HEnd.out.mono ?_; rintro e w7 ⟨rfl, rfl⟩)
                | (refine wpList_store_mid rfl 50 (.tmp 2) (.tmp 88) rfl w.heap.size 0 #[.int .i64 0, .int .u64 0, .int .u64 0, .int .i64 0] rfl rfl HST6.out.1 HST6.out.2.1 HST6.out.2.2.1 ?_))
              have hres2 := HLD6.out _ rfl
              refine bodyPost_ret (v := .tuple #[.agg #[.int .i64 0, .int .u64 0, .int .u64 0, .int .i64 0], .slice none 0 0, .slice none 0 0, .int .i64 8]) (by simp [results, Try.results52, asAddr, hres2]) rfl (HEND6.out (by rw [HPP.out, if_neg (HNOT.out)]; rfl))
          · have i4 : (ov : Int) < 1 := by omega
            have HNOT := Lib.hid (show ¬ ((some ([] : List UInt8)) = some [] ∧ ep ≤ 1099511627776 ∧ 1 ≤ nu ∧ 1 ≤ ov ∧ ov ≤ 2305843009213693952) from fun h => q4 h.2.2.2.1)
            clear q2 q3 q4
            go_wp2_with (first
              | (go_at_call 74; refine HEnd.out.mono ?_; rintro e w7 ⟨rfl, rfl⟩)
              | (refine wpList_store_mid rfl 50 (.tmp 2) (.tmp 88) rfl w.heap.size 0 #[.int .i64 0, .int .u64 0, .int .u64 0, .int .i64 0] rfl rfl HST6.out.1 HST6.out.2.1 HST6.out.2.2.1 ?_))
            have hres2 := HLD6.out _ rfl
            refine bodyPost_ret (v := .tuple #[.agg #[.int .i64 0, .int .u64 0, .int .u64 0, .int .i64 0], .slice none 0 0, .slice none 0 0, .int .i64 8]) (by simp [results, Try.results52, asAddr, hres2]) rfl (HEND6.out (by rw [HPP.out, if_neg (HNOT.out)]; rfl))
        · have i3 : (nu : Int) < 1 := by omega
          have HNOT := Lib.hid (show ¬ ((some ([] : List UInt8)) = some [] ∧ ep ≤ 1099511627776 ∧ 1 ≤ nu ∧ 1 ≤ ov ∧ ov ≤ 2305843009213693952) from fun h => q3 h.2.2.1)
          clear q2 q3
          go_wp2_with (first
            | (go_at_call 74; refine HEnd.out.mono ?_; rintro e w7 ⟨rfl, rfl⟩)
            | (refine wpList_store_mid rfl 50 (.tmp 2) (.tmp 88) rfl w.heap.size 0 #[.int .i64 0, .int .u64 0, .int .u64 0, .int .i64 0] rfl rfl HST6.out.1 HST6.out.2.1 HST6.out.2.2.1 ?_))
          have hres2 := HLD6.out _ rfl
          refine bodyPost_ret (v := .tuple #[.agg #[.int .i64 0, .int .u64 0, .int .u64 0, .int .i64 0], .slice none 0 0, .slice none 0 0, .int .i64 8]) (by simp [results, Try.results52, asAddr, hres2]) rfl (HEND6.out (by rw [HPP.out, if_neg (HNOT.out)]; rfl))
      · have i2 : (1099511627776 : Int) < (ep : Int) := by omega
        have HNOT := Lib.hid (show ¬ ((some ([] : List UInt8)) = some [] ∧ ep ≤ 1099511627776 ∧ 1 ≤ nu ∧ 1 ≤ ov ∧ ov ≤ 2305843009213693952) from fun h => q2 h.2.1)
        clear q2
        go_wp2_with (first
          | (go_at_call 74; refine HEnd.out.mono ?_; rintro e w7 ⟨rfl, rfl⟩)
          | (refine wpList_store_mid rfl 50 (.tmp 2) (.tmp 88) rfl w.heap.size 0 #[.int .i64 0, .int .u64 0, .int .u64 0, .int .i64 0] rfl rfl HST6.out.1 HST6.out.2.1 HST6.out.2.2.1 ?_))
        have hres2 := HLD6.out _ rfl
        refine bodyPost_ret (v := .tuple #[.agg #[.int .i64 0, .int .u64 0, .int .u64 0, .int .i64 0], .slice none 0 0, .slice none 0 0, .int .i64 8]) (by simp [results, Try.results52, asAddr, hres2]) rfl (HEND6.out (by rw [HPP.out, if_neg (HNOT.out)]; rfl))
    · have e14 : BinP.endN s4 = 14 := by
        rcases s4 with _ | ⟨_ | ⟨x, r⟩⟩
        · rfl
        · exact absurd rfl q1
        · rfl
      rw [e14] at HEnd
      have HNOT := Lib.hid (show ¬ (s4 = some [] ∧ ep ≤ 1099511627776 ∧ 1 ≤ nu ∧ 1 ≤ ov ∧ ov ≤ 2305843009213693952) from fun h => q1 h.1)
      clear q1 e14
      go_wp2_with (first
        | (go_at_call 74; refine HEnd.out.mono ?_; rintro e w7 ⟨rfl, rfl⟩)
        | (refine wpList_store_mid rfl 50 (.tmp 2) (.tmp 88) rfl w.heap.size 0 #[.int .i64 0, .int .u64 0, .int .u64 0, .int .i64 0] rfl rfl HST6.out.1 HST6.out.2.1 HST6.out.2.2.1 ?_))
      have hres2 := HLD6.out _ rfl
      refine bodyPost_ret (v := .tuple #[.agg #[.int .i64 0, .int .u64 0, .int .u64 0, .int .i64 0], .slice none 0 0, .slice none 0 0, .int .i64 8]) (by simp [results, Try.results52, asAddr, hres2]) rfl (HEND6.out (by rw [HPP.out, if_neg (HNOT.out)]; rfl))
  · have hP := HP.out
    rw [if_neg hall] at hP
    have HE := Lib.hid (HEND.out hP)
    have hn32 : b1 = true → b2 = true → b3 = true → b4 = true → ¬ n2 = 32 := fun h1 h2 h3 h4 e => hall (by rw [h1, h2, h3, h4]; simp [HN2.out, e])
    clear hall hP HP HEND
    rcases b1 with _ | _
    · go_wp2_with (refine wpList_store_mid rfl 50 (.tmp 2) (.tmp 58) rfl w.heap.size 0 #[.int .i64 0, .int .u64 0, .int .u64 0, .int .i64 0] rfl rfl HST.out.1 HST.out.2.1 HST.out.2.2.1 ?_)
      have hres2 := HLD.out _ rfl
      refine bodyPost_ret (v := .tuple #[.agg #[.int .i64 0, .int .u64 0, .int .u64 0, .int .i64 0], .slice none 0 0, .slice none 0 0, .int .i64 8]) (by simp [results, Try.results52, asAddr, hres2]) rfl HE.out
    · rcases b2 with _ | _
      · go_wp2_with (refine wpList_store_mid rfl 50 (.tmp 2) (.tmp 58) rfl w.heap.size 0 #[.int .i64 0, .int .u64 0, .int .u64 0, .int .i64 0] rfl rfl HST.out.1 HST.out.2.1 HST.out.2.2.1 ?_)
        have hres2 := HLD.out _ rfl
        refine bodyPost_ret (v := .tuple #[.agg #[.int .i64 0, .int .u64 0, .int .u64 0, .int .i64 0], .slice none 0 0, .slice none 0 0, .int .i64 8]) (by simp [results, Try.results52, asAddr, hres2]) rfl HE.out
      · rcases b3 with _ | _
        · go_wp2_with (refine wpList_store_mid rfl 50 (.tmp 2) (.tmp 58) rfl w.heap.size 0 #[.int .i64 0, .int .u64 0, .int .u64 0, .int .i64 0] rfl rfl HST.out.1 HST.out.2.1 HST.out.2.2.1 ?_)
          have hres2 := HLD.out _ rfl
          refine bodyPost_ret (v := .tuple #[.agg #[.int .i64 0, .int .u64 0, .int .u64 0, .int .i64 0], .slice none 0 0, .slice none 0 0, .int .i64 8]) (by simp [results, Try.results52, asAddr, hres2]) rfl HE.out
        · rcases b4 with _ | _
          · go_wp2_with (refine wpList_store_mid rfl 50 (.tmp 2) (.tmp 58) rfl w.heap.size 0 #[.int .i64 0, .int .u64 0, .int .u64 0, .int .i64 0] rfl rfl HST.out.1 HST.out.2.1 HST.out.2.2.1 ?_)
            have hres2 := HLD.out _ rfl
            refine bodyPost_ret (v := .tuple #[.agg #[.int .i64 0, .int .u64 0, .int .u64 0, .int .i64 0], .slice none 0 0, .slice none 0 0, .int .i64 8]) (by simp [results, Try.results52, asAddr, hres2]) rfl HE.out
          · have hI : ¬ (n2 : Int) = 32 := by have := hn32 rfl rfl rfl rfl; omega
            clear hn32
            go_wp2_with (refine wpList_store_mid rfl 50 (.tmp 2) (.tmp 58) rfl w.heap.size 0 #[.int .i64 0, .int .u64 0, .int .u64 0, .int .i64 0] rfl rfl HST.out.1 HST.out.2.1 HST.out.2.2.1 ?_)
            have hres2 := HLD.out _ rfl
            refine bodyPost_ret (v := .tuple #[.agg #[.int .i64 0, .int .u64 0, .int .u64 0, .int .i64 0], .slice none 0 0, .slice none 0 0, .int .i64 8]) (by simp [results, Try.results52, asAddr, hres2]) rfl HE.out
end Go.Proofs.Ytohgkadbajmphaa
