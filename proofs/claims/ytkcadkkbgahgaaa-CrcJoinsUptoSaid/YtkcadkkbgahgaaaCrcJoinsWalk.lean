/- The walk of rolodexlaw1.CrcJoins. -/
import Derived.Test.YtkcadkkbgahgaaaAwake1
import Derived.Test.YtkcadkkbgahgaaaBytes
namespace Go.Proofs.Ytkcadkkbgahgaaa
open Go.RowKit
set_option linter.unusedVariables false
set_option maxHeartbeats 400000 in
theorem crcJoins_walk (A0 : Option Addr) (n0 c0 : Nat) (l0 : List UInt8) (A1 : Option Addr) (n1 c1 : Nat) (l1 : List UInt8) (w : World)
    (b0 : BytesIn w A0 n0 c0 l0) (z0 : n0 * 1 ≤ 140737488351232) (b1 : BytesIn w A1 n1 c1 l1) (z1 : n1 * 1 ≤ 140737488351232) (hup : n0 + n1 ≤ 1048576) :
    Calls Try.prog 5 #[.slice A0 n0 c0, .slice A1 n1 c1] w fun e w' => e = .returned (.bool true) ∧ Below w.heap.size w w' := by
  obtain ⟨hn0, hnc0, hc0, hr0⟩ := b0
  obtain ⟨hn1, hnc1, hc1, hr1⟩ := b1
  unfold maxLen at hc0 hc1
  subst hn0 hn1
  have e1 : (bv32 (CrcP.more (CrcP.sum l0) l1) == bv32 (CrcP.sum (l0 ++ l1))) = true := by rw [CrcP.sum_append]; simp
  go_enter Try.func5, Try.ntmps5
  go_wp2_with fail
  refine (awake1 w).mono ?_
  rintro e w3 ⟨rfl, hb3⟩
  have hr3 := hr0.below hb3
  have hr4 := hr1.below hb3
  have hs3 := hb3.size
  clear hr0 hr1
  go_wp2_with fail
  refine (crc_sum _ _ _ l0 _ _ rfl hr3 (by unfold maxLen; omega)).mono ?_
  rintro e w6 ⟨rfl, rfl⟩
  go_wp2_with fail
  refine (crc_more _ _ _ (CrcP.sum l0) l1 _ _ rfl hr4 (by unfold maxLen; omega)).mono ?_
  rintro e w6 ⟨rfl, rfl⟩
  have hO0 : OwnB (w3.alloc (.cells #[] 5)) w.heap.size (some ⟨w3.heap.size, 0, none⟩) 0 0 [] := Own.made w3 #[] _ (0, 0) 1 0 0 [] hs3 rfl (Nat.le_refl _) (Nat.zero_le _) (Nat.zero_le _) (.inr rfl) (fun j u hu => by simp at hu)
  go_wp2_with (first | (at_builtin; refine wpList_app8 rfl (.tmp 11) (.tmp 12) 25 rfl (.inl ⟨_, Try.underlying25⟩) w.heap.size _ _ _ [] rfl hO0 l0.length l0 (Src.slice (by simp) (hr3.alloc hs3 _)) (.inl (by omega)) (by simp; omega) ?_; intro A2 cap2 w4 hO4 hg4 hB4 hb4; simp only [List.nil_append, Nat.zero_add] at hO4) | (at_builtin; refine wpList_app8 rfl (.tmp 13) (.tmp 14) 25 rfl (.inl ⟨_, Try.underlying25⟩) w.heap.size _ _ _ l0 rfl hO4 l1.length l1 (Src.slice (by simp) ((hr4.alloc hs3 _).below hB4)) (.inl (by omega)) (by have := hB4.size; simp at this; omega) ?_; intro A5 cap5 w5 hO5 hg5 hB5 hb5))
  have hrow := hO5.row
  have hB : Below w.heap.size w w5 := ((hb3.alloc hs3 _).trans hB4).trans hB5
  clear hO0 hO4 hO5 hg4 hg5 hB4 hB5 hb4 hb5 hr3 hr4
  refine (crc_sum _ _ _ (l0 ++ l1) _ _ (by simp) hrow (by unfold maxLen; omega)).mono ?_
  rintro e w6 ⟨rfl, rfl⟩
  go_wp2_with fail
  go_ret
  exact ⟨rfl, hB⟩
end Go.Proofs.Ytkcadkkbgahgaaa
