/- The walk of rolodexlaw1.CrcTells. -/
import Derived.Test.YtkcadkkbgahgaaaAwake1
import Derived.Test.YtkcadkkbgahgaaaBytes
namespace Go.Proofs.Ytkcadkkbgahgaaa
open Go.RowKit
set_option linter.unusedVariables false
attribute [local go_sem] u8_xor_part
/-- the bytes behind k rounds -/
def told (l : List UInt8) (at_ : Nat) (s : BitVec 32) : Nat → List UInt8
  | 0 => l
  | k + 1 => (told l at_ s k).set (at_ + k) ((told l at_ s k).getD (at_ + k) 0 ^^^ byteOf s k)
theorem told_len (l : List UInt8) (at_ : Nat) (s : BitVec 32) : ∀ k, (told l at_ s k).length = l.length
  | 0 => rfl
  | k + 1 => by rw [told, List.length_set, told_len l at_ s k]
theorem four_at (l : List UInt8) (at_ : Nat) (h : at_ + 4 ≤ l.length) : ∃ p q b0 b1 b2 b3, l = p ++ [b0, b1, b2, b3] ++ q ∧ p.length = at_ := by
  refine ⟨l.take at_, l.drop (at_ + 4), l[at_], l[at_ + 1], l[at_ + 2], l[at_ + 3], ?_, by simp; omega⟩
  have h1 : l.drop at_ = l[at_] :: l[at_ + 1] :: l[at_ + 2] :: l[at_ + 3] :: l.drop (at_ + 4) := by
    rw [List.drop_eq_getElem_cons (by omega), List.drop_eq_getElem_cons (by omega), List.drop_eq_getElem_cons (by omega), List.drop_eq_getElem_cons (by omega)]
  have h2 := List.take_append_drop at_ l
  rw [h1] at h2
  simp
theorem told_four (p q : List UInt8) (b0 b1 b2 b3 : UInt8) (s : BitVec 32) :
    told (p ++ [b0, b1, b2, b3] ++ q) p.length s 4 = p ++ [b0 ^^^ byteOf s 0, b1 ^^^ byteOf s 1, b2 ^^^ byteOf s 2, b3 ^^^ byteOf s 3] ++ q := by
  simp [told]
theorem told_iff (l : List UInt8) (at_ : Nat) (s : BitVec 32) (h : at_ + 4 ≤ l.length) : CrcP.sum (told l at_ s 4) = CrcP.sum l ↔ s = 0#32 := by
  obtain ⟨p, q, b0, b1, b2, b3, rfl, rfl⟩ := four_at l at_ h
  rw [told_four, ← byteOf_zero]
  exact CrcP.tells 0 p q b0 b1 b2 b3 _ _ _ _
set_option maxHeartbeats 400000 in
theorem crcTells_walk (A : Option Addr) (n c : Nat) (l : List UInt8) (a1 a2 : Int) (w : World) (b0 : BytesIn w A n c l) (z0 : n * 1 ≤ 140737488351232) (w1 : (Lit.int .i64 a1).wf = true) (w2 : (Lit.int .u32 a2).wf = true) :
    Calls Try.prog 6 #[.slice A n c, .int .i64 a1, .int .u32 a2] w fun e w' => e = .returned (.bool true) ∧ Below w.heap.size w w' := by
  obtain ⟨s, rfl⟩ := u32_arg w2
  obtain ⟨hn, hnc, hc, hr⟩ := b0
  subst hn
  clear w1 w2
  have hln : l.length ≤ maxLen := by unfold maxLen; omega
  unfold maxLen at hc
  by_cases ha : a1 < 0
  · go_enter Try.func6, Try.ntmps6
    go_wp2_with fail
    refine (awake1 w).mono ?_
    rintro e w3 ⟨rfl, hb3⟩
    go_wp2_with fail
    go_ret
    exact ⟨rfl, hb3⟩
  · obtain ⟨at_, rfl⟩ := Int.eq_ofNat_of_zero_le (show 0 ≤ a1 by omega)
    by_cases hb : (at_ : Int) > (l.length : Int) - 4
    · go_enter Try.func6, Try.ntmps6
      go_wp2_with fail
      refine (awake1 w).mono ?_
      rintro e w3 ⟨rfl, hb3⟩
      go_wp2_with fail
      go_ret
      exact ⟨rfl, hb3⟩
    · have hat : at_ + 4 ≤ l.length := by omega
      have hti := told_iff l at_ s hat
      have HT := Lib.hid hti
      clear hti
      go_enter Try.func6, Try.ntmps6
      go_wp2_with fail
      refine (awake1 w).mono ?_
      rintro e w3 ⟨rfl, hb3⟩
      have hr3 := hr.below hb3
      go_wp2_with (first | (refine wpList_str8 (dst := some 21) A l.length c w.heap.size l rfl rfl rfl hr3 ?_) | (refine wpList_bytes8 (dst := some 22) w.heap.size l rfl rfl hb3.size hln ?_; intro cap4 w4 hO4 hB4 hs4))
      have hB : Below w.heap.size w w4 := hb3.trans (hB4.mono hb3.size)
      clear hb3 hr3 hB4
      go_loopw [8] (fun i wr => ∃ k : Nat, k ≤ 4 ∧ i = .int .i64 k ∧ OwnB wr w.heap.size (some ⟨w3.heap.size, 0, none⟩) l.length cap4 (told l at_ s k) ∧ Below w.heap.size w wr) (fun i _ => 4 - (intOf i).toNat)
      case atStart => exact ⟨0, by omega, rfl, hO4, hB⟩
      case round =>
        obtain ⟨k, hk, rfl, hO, hBr⟩ := hrel
        clear hO4 hB hs4
        by_cases hlt : k < 4
        · have hl := told_len l at_ s k
          obtain ⟨t, ht⟩ : ∃ t, t = told l at_ s k := ⟨_, rfl⟩
          rw [← ht] at hO hl
          have HTK := Lib.hid ht
          have HL := Lib.hid hl
          have hk2 : at_ + k < t.length := by omega
          have hc1 := hO.cell hk2
          have hf1 := hO.frozen (show at_ + k < l.length by omega)
          have hset := hO.set (show at_ + k < l.length by omega) (t[at_ + k] ^^^ byteOf s k)
          have hg := hO.base_le
          clear ht hl hO
          go_wp2
          go_roundw
          case rel =>
            refine ⟨k + 1, by omega, by go_num, ?_, hBr.setCell (by show _ ≤ w3.heap.size; omega) _⟩
            rw [told, ← HTK.out, List.getD_eq_getElem?_getD, List.getElem?_eq_getElem hk2]
            exact hset
          case measure => simp [intOf]; omega
        · obtain rfl : k = 4 := by omega
          have hrow := hO.row
          have hr5 := hr.below hBr
          have hl4 := told_len l at_ s 4
          obtain ⟨t, ht⟩ : ∃ t, t = told l at_ s 4 := ⟨_, rfl⟩
          rw [← ht] at hrow hl4
          have HTK := Lib.hid ht
          have HL := Lib.hid hl4
          clear ht hl4
          by_cases hs : s = 0#32
          · have e1 : (bv32 (CrcP.sum t) == bv32 (CrcP.sum l)) = true := by rw [beq_iff_eq, u32_inj, HTK.out]; exact HT.out.2 hs
            have e2 : (bv32 s == 0) = true := by rw [hs]; rfl
            clear hs
            go_wp2_with fail
            refine (crc_sum _ _ _ t _ _ HL.out hrow (by unfold maxLen; omega)).mono ?_
            rintro e w6 ⟨rfl, rfl⟩
            go_wp2_with fail
            refine (crc_sum _ _ _ l _ _ rfl hr5 (by unfold maxLen; omega)).mono ?_
            rintro e w6 ⟨rfl, rfl⟩
            go_wp2_with fail
            go_ret
            exact ⟨rfl, hBr⟩
          · have e1 : (bv32 (CrcP.sum t) == bv32 (CrcP.sum l)) = false := by rw [beq_eq_false_iff_ne, ne_eq, u32_inj, HTK.out]; exact fun h => hs (HT.out.1 h)
            have e2 : (bv32 s == 0) = false := by rw [beq_eq_false_iff_ne, ne_eq, show (0 : Int) = bv32 0#32 from rfl, u32_inj]; exact hs
            clear hs
            go_wp2_with fail
            refine (crc_sum _ _ _ t _ _ HL.out hrow (by unfold maxLen; omega)).mono ?_
            rintro e w6 ⟨rfl, rfl⟩
            go_wp2_with fail
            refine (crc_sum _ _ _ l _ _ rfl hr5 (by unfold maxLen; omega)).mono ?_
            rintro e w6 ⟨rfl, rfl⟩
            go_wp2_with fail
            go_ret
            exact ⟨rfl, hBr⟩
end Go.Proofs.Ytkcadkkbgahgaaa
