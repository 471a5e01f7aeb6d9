/- The walk of rolodexlaw1.CrcKnown. -/
import Derived.Test.YtkcadkkbgahgaaaAwake1
namespace Go.Proofs.Ytkcadkkbgahgaaa
open Go.RowKit
set_option maxHeartbeats 400000 in
theorem crcKnown_walk (w : World) : Calls Try.prog 3 #[] w fun e w' => e = .returned (.bool true) ∧ Below w.heap.size w w' := by
  have h0 : bv32 (CrcP.sum []) = 0 := by rfl
  go_enter Try.func3, Try.ntmps3
  go_wp2_with fail
  refine (awake1 w).mono ?_
  rintro e w1 ⟨rfl, hb⟩
  go_wp2_with fail
  refine (crc_sum _ 0 0 [] 0 _ rfl Row.nil (by decide)).mono ?_
  rintro e w2 ⟨rfl, rfl⟩
  go_wp2_with fail
  go_ret
  exact ⟨rfl, hb⟩
end Go.Proofs.Ytkcadkkbgahgaaa
