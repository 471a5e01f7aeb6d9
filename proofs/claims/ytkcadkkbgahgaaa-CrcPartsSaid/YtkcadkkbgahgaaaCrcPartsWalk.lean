/- The walk of rolodexlaw1.CrcParts. -/
import Derived.Test.YtkcadkkbgahgaaaAwake1
import Derived.Test.YtkcadkkbgahgaaaBytes
import Derived.Test.YtkcadkkbgahgaaaOpenL
namespace Go.Proofs.Ytkcadkkbgahgaaa
open Go.RowKit
set_option linter.unusedVariables false
theorem flat_succ (ll : List (List UInt8)) (k : Nat) (l : List UInt8) (h : ll[k]? = some l) : (ll.take (k + 1)).flatten = (ll.take k).flatten ++ l := by
  rw [List.take_add_one, h]; simp
set_option maxHeartbeats 400000 in
theorem crcParts_walk (A0 : Option Addr) (n0 c0 : Nat) (ll : List (List UInt8)) (w : World) (b0 : LBytesIn w A0 n0 c0 ll) (z0 : n0 * 24 ≤ 140737488351232) :
    Calls Try.prog 8 #[.slice A0 n0 c0] w fun e w' => e = .returned (.bool true) ∧ Below w.heap.size w w' := by
  obtain ⟨hn0, hnc0, hc0, hr0⟩ := b0
  unfold maxLen at hc0
  by_cases h50 : 50 < n0
  · clear hn0 hr0
    go_enter Try.func8, Try.ntmps8
    go_wp2_with fail
    refine (awake1 w).mono ?_
    rintro e w3 ⟨rfl, hb3⟩
    go_wp2_with fail
    go_ret
    exact ⟨rfl, hb3⟩
  · have HN := Lib.hid hn0
    clear hn0
    have h0 : bv32 (CrcP.sum []) = 0 := by rfl
    have H0 := Lib.hid h0
    clear h0
    go_enter Try.func8, Try.ntmps8
    go_wp2_with fail
    refine (awake1 w).mono ?_
    rintro e w3 ⟨rfl, hb3⟩
    go_wp2_with fail
    refine (crc_sum _ 0 0 [] 0 _ rfl Row.nil (by decide)).mono ?_
    rintro e w4 ⟨rfl, rfl⟩
    go_wp2_with fail
    go_loopw [3, 4, 5] (fun r v i wr => ∃ k A cap, k ≤ n0 ∧ i = .int .i64 (k : Nat) ∧ r = .int .u32 (bv32 (CrcP.sum (ll.take k).flatten)) ∧ v = .slice A (ll.take k).flatten.length cap ∧ OwnB wr w.heap.size A (ll.take k).flatten.length cap (ll.take k).flatten ∧ (ll.take k).flatten.length ≤ 1000 * k ∧ Below w.heap.size w wr) (fun _ _ i _ => n0 - (intOf i).toNat)
    case atStart => exact ⟨0, none, 0, by omega, rfl, rfl, rfl, Own.nil _ _ _ _, by simp, hb3⟩
    case round =>
      obtain ⟨k, A, cap, hk, rfl, rfl, rfl, hO, hle, hBr⟩ := hrel
      obtain ⟨F, hF⟩ : ∃ F, F = (ll.take k).flatten := ⟨_, rfl⟩
      rw [← hF] at hO hle ⊢
      have HF := Lib.hid hF
      clear hF hb3
      by_cases hlt : k < n0
      · obtain ⟨l, hl⟩ : ∃ l, ll[k]? = some l := ⟨_, List.getElem?_eq_getElem (by rw [HN.out]; exact hlt)⟩
        obtain ⟨ad, A', c', hA, _, hc, h1, h2, h3⟩ := (hr0.below hBr) k l hl
        have HLk := Lib.hid hl
        unfold maxLen at h2
        subst hA
        clear hl
        by_cases hbig : 1000 < l.length
        · go_wp2_with fail
          go_ret
          exact ⟨rfl, hBr⟩
        · go_wp2_with fail
          refine (crc_more _ _ _ (CrcP.sum F) l _ _ rfl h3 (by unfold maxLen; omega)).mono ?_
          rintro e w5 ⟨rfl, rfl⟩
          go_wp2_with (at_builtin; refine wpList_app8 rfl (.tmp 30) (.tmp 34) 25 rfl (.inl ⟨_, Try.underlying25⟩) w.heap.size _ _ _ F rfl hO l.length l (Src.slice (by simp) h3) (.inl (by omega)) hBr.size ?_; intro A2 cap2 w6 hO6 hg6 hB6 hb6)
          go_roundw
          case rel =>
            have hB6' := hBr.trans hB6
            refine ⟨k + 1, A2, cap2, by omega, by go_num, ?_, ?_, ?_, ?_, hB6'⟩
            · rw [flat_succ ll k l HLk.out, CrcP.sum_append, HF.out]
            · rw [flat_succ ll k l HLk.out, List.length_append, HF.out]
            · rw [flat_succ ll k l HLk.out, List.length_append, ← HF.out]; exact hO6
            · rw [flat_succ ll k l HLk.out, List.length_append, ← HF.out]; omega
          case measure => simp [intOf]; omega
      · obtain rfl : k = n0 := by omega
        have hrow := hO.row
        clear hO hr0
        have e1 : (bv32 (CrcP.sum F) == bv32 (CrcP.sum F)) = true := by simp
        go_wp2_with fail
        refine (crc_sum _ _ _ F _ _ rfl hrow (by unfold maxLen; omega)).mono ?_
        rintro e w6 ⟨rfl, rfl⟩
        go_wp2_with fail
        go_ret
        exact ⟨rfl, hBr⟩
end Go.Proofs.Ytkcadkkbgahgaaa
