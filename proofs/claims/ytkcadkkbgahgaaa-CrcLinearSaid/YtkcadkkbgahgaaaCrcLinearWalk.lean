/- The walk of rolodexlaw1.CrcLinear. -/
import Derived.Test.YtkcadkkbgahgaaaAwake1
import Derived.Test.YtkcadkkbgahgaaaBytes
namespace Go.Proofs.Ytkcadkkbgahgaaa
open Go.RowKit
set_option linter.unusedVariables false
attribute [local go_sem] u8_xor_nat' u32_xor_bv
theorem xor3_eq (x y z : UInt8) : bits .xor .u8 ((x.toNat ^^^ y.toNat : Nat) : Int) (z.toNat : Int) = ((x ^^^ y ^^^ z).toNat : Int) := by
  rw [← UInt8.toNat_xor, u8_xor_nat']
theorem set_fill (X : List UInt8) (n k : Nat) (hk : k < n) (hX : X.length = n) : (X.take k ++ List.replicate (n - k) 0).set k (X.getD k 0) = X.take (k + 1) ++ List.replicate (n - (k + 1)) 0 := by
  rw [List.set_append, if_neg (by simp; omega), List.take_succ_eq_append_getElem (by omega), List.append_assoc]
  congr 1
  rw [show n - k = (n - (k + 1)) + 1 from by omega, List.replicate_succ]
  simp [show min k X.length = k from by omega, List.getElem?_eq_getElem (show k < X.length by omega)]
set_option maxHeartbeats 400000 in
theorem crcLinear_walk (A0 : Option Addr) (n0 c0 : Nat) (l0 : List UInt8) (A1 : Option Addr) (n1 c1 : Nat) (l1 : List UInt8) (A2 : Option Addr) (n2 c2 : Nat) (l2 : List UInt8) (w : World)
    (b0 : BytesIn w A0 n0 c0 l0) (z0 : n0 * 1 ≤ 140737488351232) (b1 : BytesIn w A1 n1 c1 l1) (z1 : n1 * 1 ≤ 140737488351232) (b2 : BytesIn w A2 n2 c2 l2) (z2 : n2 * 1 ≤ 140737488351232) :
    Calls Try.prog 7 #[.slice A0 n0 c0, .slice A1 n1 c1, .slice A2 n2 c2] w fun e w' => e = .returned (.bool true) ∧ Below w.heap.size w w' := by
  obtain ⟨hn0, hnc0, hc0, hr0⟩ := b0
  obtain ⟨hn1, hnc1, hc1, hr1⟩ := b1
  obtain ⟨hn2, hnc2, hc2, hr2⟩ := b2
  unfold maxLen at hc0 hc1 hc2
  by_cases h1 : n0 = n1
  · by_cases h2 : n0 = n2
    · subst h1; subst h2
      have HN0 := Lib.hid hn0
      have HN1 := Lib.hid hn1
      have HN2 := Lib.hid hn2
      clear hn0 hn1 hn2
      go_enter Try.func7, Try.ntmps7
      go_wp2_with fail
      refine (awake1 w).mono ?_
      rintro e w3 ⟨rfl, hb3⟩
      go_wp2_with (refine wpList_make8 (dst := some 25) w.heap.size n0 .i64 .i64 rfl rfl rfl hb3.size (by omega) ?_; intro w4 hO4 hB4 hs4)
      have hB : Below w.heap.size w w4 := hb3.trans (hB4.mono hb3.size)
      clear hb3 hB4
      obtain ⟨X, hX⟩ : ∃ X, X = List.zipWith (· ^^^ ·) (List.zipWith (· ^^^ ·) l0 l1) l2 := ⟨_, rfl⟩
      have hXl : X.length = n0 := by rw [hX]; simp only [List.length_zipWith, HN0.out, HN1.out, HN2.out]; omega
      have hXe : ∀ k (h0 : k < l0.length) (h1 : k < l1.length) (h2 : k < l2.length), X.getD k 0 = l0[k] ^^^ l1[k] ^^^ l2[k] := by
        intro k h0 h1 h2; rw [hX, List.getD_eq_getElem?_getD, List.getElem?_eq_getElem (by simp only [List.length_zipWith]; omega)]; simp
      have HX := Lib.hid hX
      have HXL := Lib.hid hXl
      have HXE := Lib.hid hXe
      clear hX hXl hXe
      go_loopw [8] (fun i wr => ∃ k : Nat, k ≤ n0 ∧ i = .int .i64 k ∧ OwnB wr w.heap.size (some ⟨w3.heap.size, 0, none⟩) n0 n0 (X.take k ++ List.replicate (n0 - k) 0) ∧ Below w.heap.size w wr) (fun i _ => n0 - (intOf i).toNat)
      case atStart => exact ⟨0, by omega, rfl, by simpa using hO4, hB⟩
      case round =>
        obtain ⟨k, hk, rfl, hO, hBr⟩ := hrel
        clear hO4 hB hs4
        by_cases hlt : k < n0
        · have k0 : k < l0.length := by rw [HN0.out]; exact hlt
          have k1 : k < l1.length := by rw [HN1.out]; exact hlt
          have k2 : k < l2.length := by rw [HN2.out]; exact hlt
          obtain ⟨ad0, hA0, _, hc0'⟩ := (hr0.below hBr).at_ k (by rw [List.length_map]; exact k0)
          obtain ⟨ad1, hA1, _, hc1'⟩ := (hr1.below hBr).at_ k (by rw [List.length_map]; exact k1)
          obtain ⟨ad2, hA2, _, hc2'⟩ := (hr2.below hBr).at_ k (by rw [List.length_map]; exact k2)
          subst hA0 hA1 hA2
          rw [List.getElem_map] at hc0' hc1' hc2'
          obtain ⟨v, hcv⟩ : ∃ v, wr.cell? ⟨w3.heap.size, k, none⟩ = some v := ⟨_, hO.cell (j := k) (by simp; have := HXL.out; omega)⟩
          have hf := hO.frozen hlt
          have hset := hO.set hlt (l0[k] ^^^ l1[k] ^^^ l2[k])
          rw [← HXE.out k k0 k1 k2, set_fill X n0 k hlt HXL.out, HXE.out k k0 k1 k2] at hset
          have hg := hO.base_le
          have hki : (k : Int) < (n0 : Int) := by omega
          clear hO hr0 hr1 hr2
          go_wp2
          go_region
          go_wp2
          go_roundw
          case rel => exact ⟨k + 1, by omega, by go_num, by rw [xor3_eq]; exact hset.drew, (hBr.setCell (by show _ ≤ w3.heap.size; omega) _).drew⟩
          case measure => simp [intOf]; omega
        · obtain rfl : k = n0 := by omega
          have hrow := hO.row
          rw [Nat.sub_self, List.replicate_zero, List.append_nil, List.take_of_length_le (by rw [HXL.out]; exact Nat.le_refl _)] at hrow
          have hr5 := hr0.below hBr
          have hr6 := hr1.below hBr
          have hr7 := hr2.below hBr
          have hfin : CrcP.sum X = CrcP.sum l0 ^^^ CrcP.sum l1 ^^^ CrcP.sum l2 := by rw [HX.out]; exact CrcP.sum_xor3 _ _ _ (by rw [HN0.out, HN1.out]) (by rw [HN0.out, HN2.out])
          have e1 : (bv32 (CrcP.sum X) == bv32 (CrcP.sum l0 ^^^ CrcP.sum l1 ^^^ CrcP.sum l2)) = true := by rw [hfin]; simp
          clear hfin hr0 hr1 hr2 hO
          go_wp2_with fail
          refine (crc_sum _ _ _ X _ _ HXL.out hrow (by unfold maxLen; omega)).mono ?_
          rintro e w6 ⟨rfl, rfl⟩
          go_wp2_with fail
          refine (crc_sum _ _ _ l0 _ _ HN0.out hr5 (by unfold maxLen; omega)).mono ?_
          rintro e w6 ⟨rfl, rfl⟩
          go_wp2_with fail
          refine (crc_sum _ _ _ l1 _ _ HN1.out hr6 (by unfold maxLen; omega)).mono ?_
          rintro e w6 ⟨rfl, rfl⟩
          go_wp2_with fail
          refine (crc_sum _ _ _ l2 _ _ HN2.out hr7 (by unfold maxLen; omega)).mono ?_
          rintro e w6 ⟨rfl, rfl⟩
          go_wp2_with fail
          go_ret
          exact ⟨rfl, hBr⟩
    · subst h1
      clear hn0 hn1 hn2 hr0 hr1 hr2
      go_enter Try.func7, Try.ntmps7
      go_wp2_with fail
      refine (awake1 w).mono ?_
      rintro e w3 ⟨rfl, hb3⟩
      go_wp2_with fail
      go_ret
      exact ⟨rfl, hb3⟩
  · clear hn0 hn1 hn2 hr0 hr1 hr2
    go_enter Try.func7, Try.ntmps7
    go_wp2_with fail
    refine (awake1 w).mono ?_
    rintro e w3 ⟨rfl, hb3⟩
    go_wp2_with fail
    go_ret
    exact ⟨rfl, hb3⟩
end Go.Proofs.Ytkcadkkbgahgaaa
