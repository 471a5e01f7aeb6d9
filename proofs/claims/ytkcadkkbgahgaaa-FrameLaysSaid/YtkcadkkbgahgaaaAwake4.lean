/- The walk of rolodexlaw4.awake. -/
import Derived.Test.YtkcadkkbgahgaaaFrame6
import Derived.Lib.SmallJoins
namespace Go.Proofs.Ytkcadkkbgahgaaa
open Go.RowKit
set_option linter.unusedVariables false
theorem frame_a : ∃ x y z u : UInt8, FrameP.frame [97] = [1, 0, 0, 0, x, y, z, u, 97] := ⟨_, _, _, _, by
  have e : FrameP.le4 (FrameP.len32 [(97 : UInt8)].length) = [1, 0, 0, 0] := by decide +kernel
  unfold FrameP.frame
  rw [e]
  rfl⟩
set_option maxRecDepth 4000 in
set_option maxHeartbeats 1000000 in
theorem awake4 (w : World) : Calls Try.prog 19 #[] w fun e w' => e = .returned (.bool true) ∧ Below w.heap.size w w' := by
  obtain ⟨x, y, z, u, hfa⟩ := frame_a
  have hsc : FrameP.scan (FrameP.frame [97]) = ([[97]], 9, 0) := by
    have := FrameP.scan_all [[97]] (by intro p hp; simp at hp; subst hp; decide)
    simp only [FrameP.frames, List.append_nil] at this
    rw [this, FrameP.frame_len]
    rfl
  have hcut : FrameP.scan ((FrameP.frame [97]).take 3) = ([], 0, 1) := FrameP.scan_end (FrameP.step_cut [97] 3 (by decide) (by decide) (by decide))
  have hl9 : (FrameP.frame [97]).length = 9 := FrameP.frame_len _
  have HFA := Lib.hid hfa
  have HSC := Lib.hid hsc
  have HCUT := Lib.hid hcut
  have HL9 := Lib.hid hl9
  clear hfa hsc hcut hl9
  have kc := fun (w : World) (C : Array Value) (n c g : Nat) (hg : g = w.heap.size) => Go.Joins.run_convert_bytes_const_at (P := Try.prog) w 25 5 C n c g hg Try.underlying25 Try.underlying5
  go_enter Try.func19, Try.ntmps19
  go_wp2_with fail
  refine (frame_append none 0 0 [] (some ⟨w.heap.size, 0, none⟩) 1 1 [97] _ (Sl.nil _ _) ⟨rfl, Nat.le_refl _, by decide, Row.new _ _ _ _ _ _ rfl (by simp) _ rfl⟩ (by omega) (by omega)).mono ?_
  rintro e w1 ⟨A1, n1, c1, rfl, hO1, hB1⟩
  rw [List.nil_append] at hO1
  have hn1 : n1 = 9 := by rw [← hO1.len, HL9.out]
  subst hn1
  have hBw1 : Below w.heap.size w w1 := ((Below.refl _ _).alloc (Nat.le_refl _) _).trans (hB1.mono (by simp))
  have hs1 := hBw1.size
  have hle1 := hO1.le
  have hS1 := hO1.sl
  have hr1 := hS1.2.2.2
  rw [HFA.out] at hr1
  obtain ⟨ad, hA, _, hc0⟩ := hr1 0 (.int .u8 1) rfl
  obtain ⟨ad', hA', _, hc8⟩ := hr1 8 (.int .u8 97) rfl
  subst hA
  injection hA' with hA'
  subst hA'
  have hc0' : w1.cell? ad = some (.int .u8 1) := hc0
  have hc8' : w1.cell? ⟨ad.block, ad.off + 8, none⟩ = some (.int .u8 97) := hc8
  have hS3 := hS1.mid 0 3 (by omega) (by omega)
  clear hO1 hB1 hr1 hc0 hc8
  have hle3 : 3 ≤ c1 := by omega
  go_wp2_with fail
  refine (frame_scan (some ad) 9 c1 w1.heap.size _ w1 hS1 (Nat.le_refl _) (by omega)).mono ?_
  rintro e w2 ⟨A2, n2, c2, rfl, hO2, hB2⟩
  rw [HSC.out] at hO2 ⊢
  have hs2 := hB2.size
  have hBw2 := hBw1.trans (hB2.mono hs1)
  go_wp2_with fail
  refine (frame_scan (some ad) 3 c1 w1.heap.size ((FrameP.frame [97]).take 3) w2 (hS3.below hB2) hs2 (by omega)).mono ?_
  rintro e w3 ⟨A3, n3, c3, rfl, hO3, hB3⟩
  rw [HCUT.out] at hO3 ⊢
  have hBw3 := hBw2.trans (hB3.mono hBw2.size)
  have hO23 := hO2.below hB3
  have hn2 : n2 = 1 := by have := hO23.len; simpa using this.symm
  subst hn2
  obtain ⟨ad2, A4, c4, hA2, _, hc2, h42, h43, hr4⟩ := hO23.lrow 0 [97] rfl
  subst hA2
  have hc2' : w3.cell? ad2 = some (.slice A4 1 c4) := hc2
  clear hO2 hO23 hO3 hc2
  go_wp2_with (refine wpList_str8 (dst := some 54) A4 1 c4 w3.heap.size [97] rfl rfl rfl hr4 ?_)
  go_ret
  exact ⟨rfl, hBw3⟩
end Go.Proofs.Ytkcadkkbgahgaaa
