/- cmp.Compare on keys and numbers, cmp.Or of two; the reference's order of items. -/
import Derived.Test.YtemckkcbakccnaaItem
import Derived.Test.YtemckkcbakccnaaExt
import Derived.Test.YtemckkcbakccnaaSt
import Derived.Deep.CutRange
namespace Go.Proofs.Ytemckkcbakccnaa
open Go.RowKit
set_option linter.unusedVariables false
theorem grew_new (w : World) (o : Obj) : Grew w (w.alloc o) := (Below.refl w.heap.size w).alloc (Nat.le_refl _) o
theorem bdrew {B : Nat} {a w : World} (h : Below B a w) (n : Nat) : Below B a (w.drewN n) := ⟨h.os, h.tape, h.output, h.size, h.block⟩
/-- the cells of an item, in every world that grew -/
theorem grew_cells {w wr : World} {B g o : Nat} {xi : It} (hr : w.rangeAt g o (itv xi)) (hB : Below B w wr) (hg : g < B) (hBw : B ≤ wr.heap.size) :
    ∀ x : GrewOf wr, x.1.cell? ⟨g, o, none⟩ = some (sv xi.key) ∧ x.1.cell? ⟨g, o + 1, none⟩ = some (.int .u64 (xi.seq : Int)) ∧ x.1.cell? ⟨g, o + 2, none⟩ = some (.bool xi.gone) ∧ x.1.cell? ⟨g, o + 3, none⟩ = some (sv xi.val) := fun x =>
  range_cells (range_below hr (Below.trans hB (Below.mono x.2 hBw)) hg)
/-- the same of a block of its own -/
theorem grew_cells0 {w wr : World} {B g : Nat} {xi : It} (hr : w.rangeAt g 0 (itv xi)) (hB : Below B w wr) (hg : g < B) (hBw : B ≤ wr.heap.size) :
    ∀ x : GrewOf wr, x.1.cell? ⟨g, 0, none⟩ = some (sv xi.key) ∧ x.1.cell? ⟨g, 1, none⟩ = some (.int .u64 (xi.seq : Int)) ∧ x.1.cell? ⟨g, 2, none⟩ = some (.bool xi.gone) ∧ x.1.cell? ⟨g, 3, none⟩ = some (sv xi.val) := grew_cells (o := 0) hr hB hg hBw
theorem isNaN_s (a : List UInt8) (w : World) : Calls Try.prog 46 #[sv a] w fun e w' => e = .returned (.bool false) ∧ w = w' := by
  go_enter Try.func46, Try.ntmps46
  go_wp2
  go_ret
  exact ⟨by simp, rfl⟩
theorem isNaN_u (a : Int) (w : World) : Calls Try.prog 47 #[.int .u64 a] w fun e w' => e = .returned (.bool false) ∧ w = w' := by
  go_enter Try.func47, Try.ntmps47
  go_wp2
  go_ret
  exact ⟨by simp, rfl⟩
set_option maxHeartbeats 400000 in
theorem cmp_s (a b : List UInt8) (w : World) : Calls Try.prog 38 #[sv a, sv b] w fun e w' => e = .returned (.int .i64 (ItP.cmpK a b)) ∧ w = w' := by
  by_cases h1 : ItP.lessK a b = true
  · have q1 : Op.bytesLess a b = true := h1
    have H := Lib.hid (show ItP.cmpK a b = -1 by unfold ItP.cmpK; rw [if_pos h1])
    clear h1
    go_enter Try.func38, Try.ntmps38
    go_wp2_with (go_at_call 46; refine (isNaN_s _ _).mono ?_; rintro e w' ⟨rfl, rfl⟩)
    go_ret
    exact ⟨by rw [H.out]; rfl, rfl⟩
  · have q1 : Op.bytesLess a b = false := by simpa using h1
    by_cases h2 : a = b
    · subst h2
      have H := Lib.hid (ItP.cmpK_self a)
      clear h1
      go_enter Try.func38, Try.ntmps38
      go_wp2_with (go_at_call 46; refine (isNaN_s _ _).mono ?_; rintro e w' ⟨rfl, rfl⟩)
      go_ret
      exact ⟨by rw [H.out]; rfl, rfl⟩
    · have q2 : (a == b) = false := by simpa using h2
      have h3 := (ItP.less_total h2).resolve_left h1
      have H := Lib.hid (show ItP.cmpK a b = 1 by unfold ItP.cmpK; rw [if_neg h1, if_pos h3])
      clear h1 h2 h3
      go_enter Try.func38, Try.ntmps38
      go_wp2_with (go_at_call 46; refine (isNaN_s _ _).mono ?_; rintro e w' ⟨rfl, rfl⟩)
      go_ret
      exact ⟨by rw [H.out]; rfl, rfl⟩
set_option maxHeartbeats 400000 in
theorem cmp_u (a b : Nat) (w : World) : Calls Try.prog 39 #[.int .u64 (a : Int), .int .u64 (b : Int)] w fun e w' => e = .returned (.int .i64 (ItP.cmpN a b)) ∧ w = w' := by
  rcases Nat.lt_trichotomy a b with h1 | h1 | h1
  · have H := Lib.hid (show ItP.cmpN a b = -1 by unfold ItP.cmpN; rw [if_pos h1])
    have q1 : (a : Int) < (b : Int) := by omega
    go_enter Try.func39, Try.ntmps39
    go_wp2_with (go_at_call 47; refine (isNaN_u _ _).mono ?_; rintro e w' ⟨rfl, rfl⟩)
    go_ret
    exact ⟨by rw [H.out]; rfl, rfl⟩
  · subst h1
    have H := Lib.hid (show ItP.cmpN a a = 0 by unfold ItP.cmpN; rw [if_neg (by omega), if_neg (by omega)])
    have q1 : ¬ (a : Int) < (a : Int) := by omega
    go_enter Try.func39, Try.ntmps39
    go_wp2_with (go_at_call 47; refine (isNaN_u _ _).mono ?_; rintro e w' ⟨rfl, rfl⟩)
    go_ret
    exact ⟨by rw [H.out]; rfl, rfl⟩
  · have H := Lib.hid (show ItP.cmpN a b = 1 by unfold ItP.cmpN; rw [if_neg (by omega), if_pos h1])
    have q1 : ¬ (a : Int) < (b : Int) := by omega
    have q2 : (b : Int) < (a : Int) := by omega
    go_enter Try.func39, Try.ntmps39
    go_wp2_with (go_at_call 47; refine (isNaN_u _ _).mono ?_; rintro e w' ⟨rfl, rfl⟩)
    go_ret
    exact ⟨by rw [H.out]; rfl, rfl⟩
set_option maxHeartbeats 400000 in
theorem cmp_or (g c : Nat) (x y : Int) (w : World) (h0 : w.cell? ⟨g, 0, none⟩ = some (.int .i64 x)) (h1 : w.cell? ⟨g, 1, none⟩ = some (.int .i64 y)) :
    Calls Try.prog 37 #[.slice (some ⟨g, 0, none⟩) 2 c] w fun e w' => e = .returned (.int .i64 (if x = 0 then y else x)) ∧ w = w' := by
  go_enter Try.func37, Try.ntmps37
  go_wp2_with fail
  go_loop [5, 8] (fun _ i => (i = .int .i64 0) ∨ (i = .int .i64 1 ∧ x = 0) ∨ (i = .int .i64 2 ∧ x = 0 ∧ y = 0)) (fun _ i => 2 - (intOf i).toNat)
  case atStart => exact .inl rfl
  case round =>
    rcases hrel with rfl | ⟨rfl, hx⟩ | ⟨rfl, hx, hy⟩
    · by_cases hx : x = 0
      · subst hx
        go_wp2_with fail
        go_round
        case rel => simp
        case measure => simp [intOf]
      · have q : (x == 0) = false := by simpa using hx
        have q' : (x != 0) = true := by simpa using hx
        go_wp2_with fail
        go_ret
        exact ⟨rfl, rfl⟩
    · subst hx
      by_cases hy : y = 0
      · subst hy
        go_wp2_with fail
        go_round
        case rel => simp
        case measure => simp [intOf]
      · have q : (y == 0) = false := by simpa using hy
        have q' : (y != 0) = true := by simpa using hy
        go_wp2_with fail
        go_ret
        exact ⟨by simp, rfl⟩
    · subst hx
      subst hy
      go_wp2_with fail
      go_ret
      exact ⟨by simp, rfl⟩
theorem cmp_or_r (g c : Nat) (x y r : Int) (hr : (if x = 0 then y else x) = r) (w : World) (h0 : w.cell? ⟨g, 0, none⟩ = some (.int .i64 x)) (h1 : w.cell? ⟨g, 1, none⟩ = some (.int .i64 y)) :
    Calls Try.prog 37 #[.slice (some ⟨g, 0, none⟩) 2 c] w fun e w' => e = .returned (.int .i64 r) ∧ w = w' := by
  rw [← hr]
  exact cmp_or g c x y w h0 h1
set_option maxHeartbeats 400000 in
theorem ref_ahead (x y : It) (w : World) : Calls Try.prog 31 #[iv x, iv y] w fun e w' => e = .returned (.bool (ItP.ahead x y)) ∧ Below w.heap.size w w' := by
  by_cases hk : x.key = y.key
  · obtain ⟨kx, sx, gx, vx⟩ := x
    obtain ⟨ky, sy, gy, vy⟩ := y
    simp only at hk
    subst hk
    have H := Lib.hid (show ItP.ahead ⟨kx, sx, gx, vx⟩ ⟨kx, sy, gy, vy⟩ = decide (sy < sx) by simp [ItP.ahead])
    go_enter Try.func31, Try.ntmps31
    go_wp2_with fail
    go_ret
    exact ⟨by rw [H.out]; rfl, (((Below.refl _ _).alloc (Nat.le_refl _) _).alloc (by simp) _)⟩
  · have q : (x.key == y.key) = false := by simpa using hk
    have q' : (x.key != y.key) = true := by simpa using hk
    have H := Lib.hid (show ItP.ahead x y = Op.bytesLess x.key y.key by unfold ItP.ahead; rw [if_neg hk])
    clear hk
    go_enter Try.func31, Try.ntmps31
    go_wp2_with fail
    go_ret
    exact ⟨by rw [H.out]; rfl, (((Below.refl _ _).alloc (Nat.le_refl _) _).alloc (by simp) _)⟩
end Go.Proofs.Ytemckkcbakccnaa
