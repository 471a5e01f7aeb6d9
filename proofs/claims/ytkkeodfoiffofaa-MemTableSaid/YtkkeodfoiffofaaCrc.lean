/- The walks of crc.More and crc.Sum: what they compute. -/
import Derived.Test.YtkkeodfoiffofaaRows
import Derived.Test.YtkkeodfoiffofaaMem
import Derived.Test.YtkkeodfoiffofaaNum
import Derived.Test.YtkkeodfoiffofaaCrcPlain
namespace Go.Proofs.Ytkkeodfoiffofaa
open Go.RowKit
attribute [local go_sem] u32_xor_bv u32_not_bv u32_xor_byte byte_mod32
def halfs : Nat → BitVec 32 → BitVec 32
  | 0, c => c
  | k + 1, c => CrcP.bit1 (halfs k c)
theorem bit1_odd {c : BitVec 32} (h : c.getLsbD 0 = true) : bv32 (CrcP.bit1 c) = bits .xor .u32 (bv32 c / 2) 2197175160 := by
  rw [u32_half_bv, show (2197175160 : Int) = ((2197175160 : Nat) : Int) from rfl, u32_xor_lit _ _ (by decide)]
  unfold CrcP.bit1
  rw [if_pos h]
theorem bit1_even {c : BitVec 32} (h : ¬ c.getLsbD 0 = true) : bv32 (CrcP.bit1 c) = bv32 c / 2 := by
  rw [u32_half_bv]
  unfold CrcP.bit1
  rw [if_neg h]
theorem reg_take (s : BitVec 32) (l : List UInt8) (k : Nat) (hk : k < l.length) : CrcP.reg s (l.take (k + 1)) = halfs 8 (CrcP.reg s (l.take k) ^^^ BitVec.ofNat 32 l[k].toNat) := by
  rw [List.take_succ_eq_append_getElem hk, CrcP.reg_append]
  rfl
set_option maxHeartbeats 400000 in
theorem crc_more (A : Option Addr) (n c : Nat) (s : BitVec 32) (l : List UInt8) (B : Nat) (w : World) (hn : l.length = n) (hr : Row w B A (l.map b8)) (hm : n ≤ maxLen) :
    Calls Try.prog 72 #[.int .u32 (bv32 s), .slice A n c] w fun e w' => e = .returned (.int .u32 (bv32 (CrcP.more s l))) ∧ w = w' := by
  unfold maxLen at hm
  have HN := Lib.hid hn
  clear hn
  have HR := Lib.hid hr
  clear hr
  go_enter Try.func72, Try.ntmps72
  go_wp2
  go_loop [5, 13] (fun r i => ∃ k : Nat, k ≤ n ∧ i = .int .i64 k ∧ r = .int .u32 (bv32 (CrcP.reg (~~~ s) (l.take k)))) (fun _ i => n - (intOf i).toNat)
  case atStart => exact ⟨0, Nat.zero_le _, rfl, rfl⟩
  case round =>
    obtain ⟨k, hk, rfl, rfl⟩ := hrel
    by_cases hlt : k < n
    · have hkl : k < l.length := by rw [HN.out]; exact hlt
      obtain ⟨ad, hA, _, hc⟩ := HR.out.at_ k (by rw [List.length_map]; exact hkl)
      subst hA
      rw [List.getElem_map] at hc
      go_wp2
      go_loop [5, 21] (fun r i => ∃ j : Nat, j ≤ 8 ∧ i = .int .i64 j ∧ r = .int .u32 (bv32 (halfs j (CrcP.reg (~~~ s) (l.take k) ^^^ BitVec.ofNat 32 l[k].toNat)))) (fun _ i => 8 - (intOf i).toNat)
      case atStart => exact ⟨0, Nat.zero_le _, rfl, rfl⟩
      case round =>
        obtain ⟨j, hj, rfl, rfl⟩ := hrel
        by_cases hlt8 : j < 8
        · obtain ⟨C, hC⟩ : ∃ C, C = halfs j (CrcP.reg (~~~ s) (l.take k) ^^^ BitVec.ofNat 32 l[k].toNat) := ⟨_, rfl⟩
          rw [← hC]
          have HC := Lib.hid hC
          clear hC
          by_cases hb : C.getLsbD 0 = true
          · have H1 : bits .and .u32 (bv32 C) 1 = 1 := by rw [u32_low, if_pos hb]
            have H2 := Lib.hid (bit1_odd hb)
            clear hb
            go_wp2
            go_round
            case rel => exact ⟨j + 1, by omega, by go_num, by rw [halfs, ← HC.out, H2.out]⟩
            case measure => simp [intOf]; omega
          · have H1 : bits .and .u32 (bv32 C) 1 = 0 := by rw [u32_low, if_neg hb]
            have H2 := Lib.hid (bit1_even hb)
            clear hb
            go_wp2
            go_round
            case rel => exact ⟨j + 1, by omega, by go_num, by rw [halfs, ← HC.out, H2.out]⟩
            case measure => simp [intOf]; omega
        · have h8 : j = 8 := by omega
          subst h8
          go_wp2
          go_round
          case rel => exact ⟨k + 1, by omega, by go_num, by rw [reg_take _ _ _ hkl]⟩
          case measure => simp [intOf]; omega
    · have hk' : k = n := by omega
      subst hk'
      go_wp2
      go_ret
      exact ⟨by rw [List.take_of_length_le (by rw [HN.out]; exact Nat.le_refl _)]; rfl, rfl⟩
set_option maxHeartbeats 400000 in
theorem crc_sum (A : Option Addr) (n c : Nat) (l : List UInt8) (B : Nat) (w : World) (hn : l.length = n) (hr : Row w B A (l.map b8)) (hm : n ≤ maxLen) :
    Calls Try.prog 56 #[.slice A n c] w fun e w' => e = .returned (.int .u32 (bv32 (CrcP.sum l))) ∧ w = w' := by
  have h := crc_more A n c 0#32 l B w hn hr hm
  rw [show bv32 0#32 = 0 from rfl] at h
  have H := Lib.hid h
  clear h hn hr hm
  go_enter Try.func56, Try.ntmps56
  go_wp2_with fail
  refine H.out.mono ?_
  rintro e w' ⟨rfl, rfl⟩
  go_wp2_with fail
  go_ret
  exact ⟨rfl, rfl⟩
end Go.Proofs.Ytkkeodfoiffofaa
