/- The walks of rolodexref1.bit, More and Sum: what they compute. -/
import Derived.Test.YtkcadkkbgahgaaaCrc
namespace Go.Proofs.Ytkcadkkbgahgaaa
open Go.RowKit
attribute [local go_sem] u32_xor_bv u32_not_bv' byte_mod32
theorem rbit_odd {c b : BitVec 32} (h : (c ^^^ b).getLsbD 0 = true) : bv32 (CrcP.rbit c b) = bits .xor .u32 (bv32 c / 2) 2197175160 := by
  rw [u32_half_bv, show (2197175160 : Int) = ((2197175160 : Nat) : Int) from rfl, u32_xor_lit _ _ (by decide)]
  unfold CrcP.rbit
  rw [if_pos h]
theorem rbit_even {c b : BitVec 32} (h : ¬ (c ^^^ b).getLsbD 0 = true) : bv32 (CrcP.rbit c b) = bv32 c / 2 := by
  rw [u32_half_bv]
  unfold CrcP.rbit
  rw [if_neg h]
set_option maxHeartbeats 400000 in
theorem ref_bit (c b : BitVec 32) (w : World) : Calls Try.prog 25 #[.int .u32 (bv32 c), .int .u32 (bv32 b)] w fun e w' => e = .returned (.int .u32 (bv32 (CrcP.rbit c b))) ∧ w = w' := by
  by_cases hb : (c ^^^ b).getLsbD 0 = true
  · have H1 : bits .and .u32 (bv32 (c ^^^ b)) 1 = 1 := by rw [u32_low, if_pos hb]
    have H2 := Lib.hid (rbit_odd hb)
    clear hb
    go_enter Try.func25, Try.ntmps25
    go_wp2
    go_ret
    exact ⟨by rw [H2.out]; rfl, rfl⟩
  · have H1 : bits .and .u32 (bv32 (c ^^^ b)) 1 = 0 := by rw [u32_low, if_neg hb]
    have H2 := Lib.hid (rbit_even hb)
    clear hb
    go_enter Try.func25, Try.ntmps25
    go_wp2
    go_ret
    exact ⟨by rw [H2.out]; rfl, rfl⟩
theorem and_nth (x : UInt8) (j : Nat) : bits .and .u32 ((x.toNat : Int) / 2 ^ j % 4294967296) 1 = bv32 (CrcP.nth x j) := by
  have hx := x.toNat_lt
  have h1 : (x.toNat : Int) / 2 ^ j = ((x.toNat / 2 ^ j : Nat) : Int) := by norm_cast
  have h2 : x.toNat / 2 ^ j ≤ x.toNat := Nat.div_le_self _ _
  rw [h1]
  unfold CrcP.nth
  generalize x.toNat / 2 ^ j = y at *
  have h3 : (y : Int) % 4294967296 = (y : Int) := by omega
  rw [h3, show (1 : Int) = ((1 : Nat) : Int) from rfl, u32_and_nat _ _ (by omega) (by omega), Nat.and_one_is_mod]
  unfold bv32
  rw [BitVec.toNat_ofNat, Nat.mod_eq_of_lt (show y % 2 < 2 ^ 32 by omega)]
theorem rreg_take (s : BitVec 32) (l : List UInt8) (k : Nat) (hk : k < l.length) : CrcP.rreg s (l.take (k + 1)) = CrcP.rbits (CrcP.rreg s (l.take k)) l[k] 8 := by
  rw [List.take_succ_eq_append_getElem hk, CrcP.rreg, List.foldl_append]
  rfl
set_option maxHeartbeats 400000 in
theorem ref_more (A : Option Addr) (n c : Nat) (s : BitVec 32) (l : List UInt8) (B : Nat) (w : World) (hn : l.length = n) (hr : Row w B A (l.map b8)) (hm : n ≤ maxLen) :
    Calls Try.prog 18 #[.int .u32 (bv32 s), .slice A n c] w fun e w' => e = .returned (.int .u32 (bv32 (CrcP.more s l))) ∧ w = w' := by
  unfold maxLen at hm
  have HN := Lib.hid hn
  clear hn
  have HR := Lib.hid hr
  clear hr
  go_enter Try.func18, Try.ntmps18
  go_wp2
  go_loop [5, 6] (fun r i => ∃ k : Nat, k ≤ n ∧ i = .int .i64 k ∧ r = .int .u32 (bv32 (CrcP.rreg (~~~ s) (l.take k)))) (fun _ i => n - (intOf i).toNat)
  case atStart => exact ⟨0, Nat.zero_le _, rfl, rfl⟩
  case round =>
    obtain ⟨k, hk, rfl, rfl⟩ := hrel
    by_cases hlt : k < n
    · have hkl : k < l.length := by rw [HN.out]; exact hlt
      obtain ⟨ad, hA, _, hc⟩ := HR.out.at_ k (by rw [List.length_map]; exact hkl)
      subst hA
      rw [List.getElem_map] at hc
      go_wp2
      go_loop [5, 7] (fun r i => ∃ j : Nat, j ≤ 8 ∧ i = .int .i64 j ∧ r = .int .u32 (bv32 (CrcP.rbits (CrcP.rreg (~~~ s) (l.take k)) l[k] j))) (fun _ i => 8 - (intOf i).toNat)
      case atStart => exact ⟨0, Nat.zero_le _, rfl, rfl⟩
      case round =>
        obtain ⟨j, hj, rfl, rfl⟩ := hrel
        by_cases hlt8 : j < 8
        · go_wp2_with fail
          rw [and_nth]
          refine (ref_bit _ _ _).mono ?_
          rintro e w1 ⟨rfl, rfl⟩
          go_wp2_with fail
          go_round
          case rel => exact ⟨j + 1, by omega, by go_num, rfl⟩
          case measure => simp [intOf]; omega
        · have h8 : j = 8 := by omega
          subst h8
          go_wp2
          go_round
          case rel => exact ⟨k + 1, by omega, by go_num, by rw [rreg_take _ _ _ hkl]⟩
          case measure => simp [intOf]; omega
    · have hk' : k = n := by omega
      subst hk'
      go_wp2
      go_ret
      exact ⟨by rw [List.take_of_length_le (by rw [HN.out]; exact Nat.le_refl _), CrcP.rreg_eq]; rfl, rfl⟩
set_option maxHeartbeats 400000 in
theorem ref_sum (A : Option Addr) (n c : Nat) (l : List UInt8) (B : Nat) (w : World) (hn : l.length = n) (hr : Row w B A (l.map b8)) (hm : n ≤ maxLen) :
    Calls Try.prog 16 #[.slice A n c] w fun e w' => e = .returned (.int .u32 (bv32 (CrcP.sum l))) ∧ w = w' := by
  have h := ref_more A n c 0#32 l B w hn hr hm
  rw [show bv32 0#32 = 0 from rfl] at h
  have H := Lib.hid h
  clear h hn hr hm
  go_enter Try.func16, Try.ntmps16
  go_wp2_with fail
  refine H.out.mono ?_
  rintro e w' ⟨rfl, rfl⟩
  go_wp2_with fail
  go_ret
  exact ⟨rfl, rfl⟩
end Go.Proofs.Ytkcadkkbgahgaaa
