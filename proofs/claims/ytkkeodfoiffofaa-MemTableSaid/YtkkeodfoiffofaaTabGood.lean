/- May an item be? -/
import Derived.Test.YtkkeodfoiffofaaItemCmp
namespace Go.Proofs.Ytkkeodfoiffofaa
open Go.RowKit
set_option linter.unusedVariables false
set_option maxRecDepth 100000 in
set_option maxHeartbeats 1000000 in
theorem table_good (x : It) (w : World) : Calls Try.prog 49 #[iv x] w fun e w' => e = .returned (.bool (ItP.may x)) ∧ Below w.heap.size w w' := by
  obtain ⟨k, q, g, v⟩ := x
  have hk := ba_size k
  have hv := ba_size v
  by_cases a1 : 1 ≤ k.length
  · by_cases a2 : k.length ≤ 256
    · by_cases a3 : v.length ≤ 4096
      · have p1 : (1 : Int) ≤ (k.length : Int) := by omega
        have p2 : (k.length : Int) ≤ 256 := by omega
        have p3 : (v.length : Int) ≤ 4096 := by omega
        cases g with
        | false =>
          have H := Lib.hid (show ItP.may ⟨k, q, false, v⟩ = true by simp [ItP.may, a1, a2, a3])
          go_enter Try.func49, Try.ntmps49
          go_wp2_with fail
          go_ret
          exact ⟨by rw [H.out]; rfl, (Below.refl _ _).alloc (Nat.le_refl _) _⟩
        | true =>
          cases v with
          | nil =>
            have H := Lib.hid (show ItP.may ⟨k, q, true, []⟩ = true by simp [ItP.may, a1, a2])
            go_enter Try.func49, Try.ntmps49
            go_wp2_with fail
            go_ret
            exact ⟨by rw [H.out]; rfl, (Below.refl _ _).alloc (Nat.le_refl _) _⟩
          | cons b r =>
            have H := Lib.hid (show ItP.may ⟨k, q, true, b :: r⟩ = false by simp [ItP.may])
            go_enter Try.func49, Try.ntmps49
            go_wp2_with fail
            go_ret
            exact ⟨by rw [H.out]; rfl, (Below.refl _ _).alloc (Nat.le_refl _) _⟩
      · have p1 : (1 : Int) ≤ (k.length : Int) := by omega
        have p2 : (k.length : Int) ≤ 256 := by omega
        have p3 : ¬ (v.length : Int) ≤ 4096 := by omega
        have H := Lib.hid (show ItP.may ⟨k, q, g, v⟩ = false by simp [ItP.may, a3])
        go_enter Try.func49, Try.ntmps49
        go_wp2_with fail
        go_ret
        exact ⟨by rw [H.out]; rfl, (Below.refl _ _).alloc (Nat.le_refl _) _⟩
    · have p1 : (1 : Int) ≤ (k.length : Int) := by omega
      have p2 : ¬ (k.length : Int) ≤ 256 := by omega
      have H := Lib.hid (show ItP.may ⟨k, q, g, v⟩ = false by simp [ItP.may, a2])
      go_enter Try.func49, Try.ntmps49
      go_wp2_with fail
      go_ret
      exact ⟨by rw [H.out]; rfl, (Below.refl _ _).alloc (Nat.le_refl _) _⟩
  · have p1 : ¬ (1 : Int) ≤ (k.length : Int) := by omega
    have H := Lib.hid (show ItP.may ⟨k, q, g, v⟩ = false by simp [ItP.may, a1])
    go_enter Try.func49, Try.ntmps49
    go_wp2_with fail
    go_ret
    exact ⟨by rw [H.out]; rfl, (Below.refl _ _).alloc (Nat.le_refl _) _⟩
end Go.Proofs.Ytkkeodfoiffofaa
