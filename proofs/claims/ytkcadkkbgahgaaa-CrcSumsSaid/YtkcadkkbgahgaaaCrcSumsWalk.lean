/- The walk of rolodexlaw1.CrcSums. -/
import Derived.Test.YtkcadkkbgahgaaaAwake1
import Derived.Test.YtkcadkkbgahgaaaCrcRef
import Derived.Test.YtkcadkkbgahgaaaBytes
namespace Go.Proofs.Ytkcadkkbgahgaaa
open Go.RowKit
attribute [local go_sem] ba_append
set_option maxHeartbeats 400000 in
theorem crcSums_walk (A : Option Addr) (n c : Nat) (l : List UInt8) (a1 : Int) (w : World) (b0 : BytesIn w A n c l) (z0 : n * 1 ≤ 140737488351232) (w1 : (Lit.int .u32 a1).wf = true) :
    Calls Try.prog 4 #[.slice A n c, .int .u32 a1] w fun e w' => e = .returned (.bool true) ∧ Below w.heap.size w w' := by
  obtain ⟨s, rfl⟩ := u32_arg w1
  obtain ⟨hn, hnc, hc, hr⟩ := b0
  subst hn
  clear w1
  have hln : l.length ≤ maxLen := by unfold maxLen; omega
  unfold maxLen at hc
  go_enter Try.func4, Try.ntmps4
  go_wp2_with (first | (refine wpList_str8 (dst := some 7) A l.length c w.heap.size l rfl rfl rfl hr ?_) | (refine wpList_bytes8 (dst := some 8) w.heap.size l rfl rfl (Nat.le_refl _) hln ?_; intro cap1 w1 hO1 hB1 hs1) | (at_builtin; refine wpList_app8 rfl (.tmp 8) (.tmp 9) 25 rfl (.inl ⟨_, Try.underlying25⟩) w.heap.size _ _ _ l rfl (hO1.alloc _) 1 [7] (Src.slice rfl (Row.new _ _ _ _ (w1.heap.size + 1) _ rfl (by omega) _ rfl)) (.inr ⟨rfl, by omega⟩) (by simp; omega) ?_; intro A2 cap2 w2 hO2 hg2 hB2 hb2))
  have hBw : Below w.heap.size w w2 := (hB1.alloc (by omega) _).trans hB2
  clear hB1 hB2 hg2 hb2 hO1
  refine (awake1 w2).mono ?_
  rintro e w3 ⟨rfl, hb3⟩
  have hO3 := hO2.below_all hb3
  have hBw3 : Below w.heap.size w w3 := hBw.trans (hb3.mono hBw.size)
  have hr3 := hr.below hBw3
  have hrow := hO3.row
  have hcap : l.length + 1 ≤ cap2 := hO3.le.1
  clear hO2 hb3 hBw hs1 hO3 hr
  go_wp2_with fail
  refine (crc_sum _ _ _ l _ _ rfl hrow.pre8 (by unfold maxLen; omega)).mono ?_
  rintro e w4 ⟨rfl, rfl⟩
  go_wp2_with fail
  refine (ref_sum _ _ _ l _ _ rfl hr3 (by unfold maxLen; omega)).mono ?_
  rintro e w4 ⟨rfl, rfl⟩
  go_wp2_with fail
  refine (crc_more _ _ _ s l _ _ rfl hrow.pre8 (by unfold maxLen; omega)).mono ?_
  rintro e w4 ⟨rfl, rfl⟩
  go_wp2_with fail
  refine (ref_more _ _ _ s l _ _ rfl hr3 (by unfold maxLen; omega)).mono ?_
  rintro e w4 ⟨rfl, rfl⟩
  go_wp2_with (first | (refine wpList_str8 (dst := some 36) _ _ _ _ (l ++ [7]) rfl rfl (by simp) hrow ?_) | (refine wpList_str8 (dst := some 38) _ _ _ _ l rfl rfl rfl hr3 ?_))
  go_ret
  exact ⟨rfl, hBw3⟩
end Go.Proofs.Ytkcadkkbgahgaaa
