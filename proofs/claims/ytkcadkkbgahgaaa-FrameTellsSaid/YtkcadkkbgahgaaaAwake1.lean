/- The walk of rolodexlaw1.awake. -/
import Derived.Test.YtkcadkkbgahgaaaOwn
import Derived.Test.YtkcadkkbgahgaaaCrc
import Derived.Lib.SmallJoins
namespace Go.Proofs.Ytkcadkkbgahgaaa
open Go.RowKit
theorem awake_sum : CrcP.sum [49, 50, 51, 52, 53, 54, 55, 56, 57] = 3808858755#32 := by decide +kernel
theorem awake_more : CrcP.more (CrcP.sum [49, 50, 51, 52]) [53, 54, 55, 56, 57] = 3808858755#32 := by decide +kernel
set_option maxHeartbeats 400000 in
theorem awake1 (w : World) : Calls Try.prog 14 #[] w fun e w' => e = .returned (.bool true) ∧ Below w.heap.size w w' := by
  have kc := fun (w : World) (C : Array Value) (n c g : Nat) (hg : g = w.heap.size) => Go.Joins.run_convert_bytes_const_at (P := Try.prog) w 25 5 C n c g hg Try.underlying25 Try.underlying5
  have h1 : bv32 (CrcP.sum [49, 50, 51, 52, 53, 54, 55, 56, 57]) = 3808858755 := by rw [awake_sum]; rfl
  have h2 : bv32 (CrcP.more (CrcP.sum [49, 50, 51, 52]) [53, 54, 55, 56, 57]) = 3808858755 := by rw [awake_more]; rfl
  have hx : (3808858755 : Int) == 3808858755 := by decide
  go_enter Try.func14, Try.ntmps14
  go_wp2_with fail
  refine (crc_sum _ 9 9 [49, 50, 51, 52, 53, 54, 55, 56, 57] (w.heap.size + 1) _ rfl ?_ (by decide)).mono ?_
  · exact Row.new _ _ _ _ _ _ rfl (by omega) _ rfl
  rintro e w1 ⟨rfl, rfl⟩
  go_wp2_with fail
  refine (crc_sum _ 4 4 [49, 50, 51, 52] (w.heap.size + 2) _ rfl ?_ (by decide)).mono ?_
  · exact Row.new _ _ _ _ _ _ (by simp) (by omega) _ rfl
  rintro e w1 ⟨rfl, rfl⟩
  go_wp2_with fail
  refine (crc_more _ 5 5 (CrcP.sum [49, 50, 51, 52]) [53, 54, 55, 56, 57] (w.heap.size + 3) _ rfl ?_ (by decide)).mono ?_
  · exact Row.new _ _ _ _ _ _ (by simp) (by omega) _ rfl
  rintro e w1 ⟨rfl, rfl⟩
  go_wp2_with fail
  go_ret
  exact ⟨rfl, (((Below.refl _ _).alloc (Nat.le_refl _) _).alloc (by simp) _).alloc (by simp; omega) _⟩
end Go.Proofs.Ytkcadkkbgahgaaa
