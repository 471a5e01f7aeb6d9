/- The walk of rolodexlaw4.FrameKnown. -/
import Derived.Test.YtkcadkkbgahgaaaAwake4
namespace Go.Proofs.Ytkcadkkbgahgaaa
open Go.RowKit
set_option linter.unusedVariables false
theorem step_known : FrameP.step [0, 0, 0, 0, 1, 2, 3, 4] = .inl 2 := by decide +kernel
set_option maxRecDepth 4000 in
set_option maxHeartbeats 1000000 in
theorem frameKnown_walk (w : World) : Calls Try.prog 9 #[] w fun e w' => e = .returned (.bool true) ∧ Below w.heap.size w w' := by
  have HSC := Lib.hid FrameP.scan_nil
  have HSK := Lib.hid (FrameP.scan_end step_known)
  go_enter Try.func9, Try.ntmps9
  go_wp2_with fail
  refine (awake4 w).mono ?_
  rintro e w1 ⟨rfl, hB1⟩
  have hs1 := hB1.size
  go_wp2_with (refine wpList_make8 (dst := some 12) w.heap.size 65537 .i64 .i64 rfl rfl rfl hs1 (by omega) ?_; intro w2 hO2 hB2 hs2)
  have hBw2 := hB1.trans (hB2.mono hs1)
  refine (frame_append_no none 0 0 _ 65537 65537 w2 (by omega)).mono ?_
  rintro e w3 ⟨rfl, rfl⟩
  clear hO2
  go_wp2_with fail
  refine (frame_scan none 0 0 0 [] w2 (Sl.nil _ _) (Nat.zero_le _) (by omega)).mono ?_
  rintro e w3 ⟨A3, n3, c3, rfl, hO3, hB3⟩
  rw [HSC.out] at hO3 ⊢
  have hn3 : n3 = 0 := by have := hO3.len; simpa using this.symm
  subst hn3
  have hBw3 := hBw2.trans (hB3.mono hBw2.size)
  clear hO3
  go_wp2_with fail
  refine (frame_scan _ 8 8 (w3.heap.size + 1) [0, 0, 0, 0, 1, 2, 3, 4] _ ⟨rfl, Nat.le_refl _, by decide, Row.new _ _ _ _ _ _ rfl (by simp) _ rfl⟩ (by simp) (by omega)).mono ?_
  rintro e w4 ⟨A4, n4, c4, rfl, hO4, hB4⟩
  rw [HSK.out] at hO4 ⊢
  have hBw4 : Below w.heap.size w w4 := (hBw3.alloc hBw3.size _).trans (hB4.mono (by have := hBw3.size; simp; omega))
  clear hO4
  go_wp2_with fail
  go_ret
  exact ⟨rfl, hBw4⟩
end Go.Proofs.Ytkcadkkbgahgaaa
