/- The walks of the reference's prime, of, above, times. -/
import Derived.Test.YtohgkadbajmphaaRefPlain
import Derived.Test.YtohgkadbajmphaaShaRead
import Derived.Test.YtohgkadbajmphaaShaLib
import Derived.IntWalk
namespace Go.Proofs.Ytohgkadbajmphaa
open Go.RowKit
set_option linter.unusedVariables false
theorem isPrime_none {n : Nat} (h : ∀ d, 2 ≤ d → d * d ≤ n → n % d ≠ 0) : RefP.isPrime n = decide (1 < n) := by
  unfold RefP.isPrime
  have : ((List.range n).all fun d => decide (d < 2) || decide (n < d * d) || decide (n % d ≠ 0)) = true := by
    rw [List.all_eq_true]
    intro d _
    by_cases h1 : d < 2
    · simp [h1]
    · by_cases h2 : n < d * d
      · simp [h2]
      · have := h d (by omega) (by omega)
        simp [this]
  rw [this, Bool.true_and]
theorem isPrime_some {n d : Nat} (h1 : 2 ≤ d) (h2 : d * d ≤ n) (h3 : n % d = 0) : RefP.isPrime n = false := by
  unfold RefP.isPrime
  have hd : d < n := by have : d * 2 ≤ d * d := Nat.mul_le_mul_left _ h1; omega
  have : ((List.range n).all fun d => decide (d < 2) || decide (n < d * d) || decide (n % d ≠ 0)) = false := by
    rw [Bool.eq_false_iff]
    intro h
    have := List.all_eq_true.1 h d (List.mem_range.2 hd)
    simp [h3] at this
    omega
  rw [this, Bool.false_and]
set_option maxHeartbeats 400000 in
theorem ref_prime (n : Nat) (hn : n ≤ 1000) (w : World) : Calls Try.prog 82 #[.int .i64 (n : Int)] w fun e w' => e = .returned (.bool (RefP.isPrime n)) ∧ w = w' := by
  go_enter Try.func82, Try.ntmps82
  go_wp2_with fail
  go_loop [3] (fun i => ∃ d : Nat, 2 ≤ d ∧ d ≤ n + 2 ∧ i = .int .i64 (d : Int) ∧ ∀ d', 2 ≤ d' → d' < d → n % d' ≠ 0) (fun i => n + 3 - (intOf i).toNat)
  case atStart => exact ⟨2, by omega, by omega, rfl, by omega⟩
  case round =>
    obtain ⟨d, hd, hdn, rfl, hno⟩ := hrel
    obtain ⟨q, hq⟩ : ∃ q, q = d * d := ⟨_, rfl⟩
    have hqd : d * d ≤ 1002 * 1002 := Nat.mul_le_mul (by omega) (by omega)
    have hdq : d ≤ q := by rw [hq]; have : d * 1 ≤ d * d := Nat.mul_le_mul_left _ (by omega); omega
    have hqq : (d : Int) * (d : Int) = (q : Int) := by rw [hq, Int.natCast_mul]
    have hq2 : q ≤ 1004004 := by omega
    have HNO := Lib.hid hno
    have HQ := Lib.hid hq
    clear hno hq hqd
    by_cases hle : q ≤ n
    · obtain ⟨m, hm⟩ : ∃ m, m = n % d := ⟨_, rfl⟩
      have e1 : Int.tmod (n : Int) (d : Int) = (m : Int) := by rw [hm, Int.natCast_emod]; exact Int.tmod_eq_emod_of_nonneg (by omega)
      have e2 : (n : Int) % (d : Int) = (m : Int) := by rw [hm, Int.natCast_emod]
      have e3 : ¬ (d : Int) = 0 := by omega
      have i1 : (q : Int) ≤ (n : Int) := by omega
      have HM := Lib.hid hm
      by_cases hm0 : m = 0
      · have HF := Lib.hid (isPrime_some (n := n) hd (by have := HQ.out; omega) (by have := HM.out; omega))
        have hb : ((m : Int) == 0) = true := by rw [hm0]; rfl
        clear hm hm0
        go_wp2_with fail
        go_ret
        exact ⟨by rw [HF.out]; rfl, rfl⟩
      · have hb : ((m : Int) == 0) = false := by rw [beq_eq_false_iff_ne]; omega
        clear hm
        go_wp2_with fail
        go_round
        case rel => exact ⟨d + 1, by omega, by omega, by go_num, fun d' h1 h2 => by
          by_cases h3 : d' = d
          · subst h3; have := HM.out; omega
          · exact HNO.out d' h1 (by omega)⟩
        case measure => simp [intOf]; omega
    · have i1 : ¬ (q : Int) ≤ (n : Int) := by omega
      have HF := Lib.hid (isPrime_none (n := n) (fun d' h1 h2 => HNO.out d' h1 (by
        rcases Nat.lt_or_ge d' d with h | h
        · exact h
        · have : d * d ≤ d' * d' := Nat.mul_le_mul h h
          have := HQ.out
          omega)))
      clear hle
      go_wp2_with fail
      go_ret
      refine ⟨?_, rfl⟩
      rw [HF.out]
      show Ending.returned (.bool (decide ((1 : Int) < (n : Int)))) = _
      congr 2
      rw [Bool.eq_iff_iff, decide_eq_true_iff, decide_eq_true_iff]
      omega
abbrev u64v (xs : List Nat) : List Value := xs.map fun (x : Nat) => Value.int .u64 (x : Int)
theorem u64_low (v : Nat) (h : v < 18446744073709551616) : bits .and .u64 (v : Int) 65535 = ((v % 65536 : Nat) : Int) := by
  rw [show (65535 : Int) = ((65535 : Nat) : Int) from rfl, u64_and_nat _ _ h (by omega), show 65535 = 2 ^ 16 - 1 from rfl, Nat.and_two_pow_sub_one_eq_mod]
theorem dg3 (v : Nat) (h : v < 281474976710656) : RefP.dg v = [v % 65536, v / 65536 % 65536, v / 4294967296, 0, 0, 0, 0, 0] := by
  have e : RefP.dg v = [RefP.dig v 0, RefP.dig v 1, RefP.dig v 2, RefP.dig v 3, RefP.dig v 4, RefP.dig v 5, RefP.dig v 6, RefP.dig v 7] := rfl
  have e2 : RefP.dig v 2 = v / 4294967296 := by unfold RefP.dig; rw [show 65536 ^ 2 = 4294967296 from rfl]; omega
  have z : ∀ m, 3 ≤ m → RefP.dig v m = 0 := fun m hm => by
    unfold RefP.dig
    obtain ⟨d, rfl⟩ : ∃ d, m = 3 + d := ⟨m - 3, by omega⟩
    rw [Nat.pow_add, ← Nat.div_div_eq_div_mul, show v / 65536 ^ 3 = 0 from Nat.div_eq_of_lt (by rw [show 65536 ^ 3 = 281474976710656 from rfl]; exact h)]
    simp
  rw [e, e2, z 3 (by omega), z 4 (by omega), z 5 (by omega), z 6 (by omega), z 7 (by omega)]
  unfold RefP.dig
  simp
set_option maxRecDepth 100000 in
set_option maxHeartbeats 400000 in
theorem ref_of (v : Nat) (h : v < 281474976710656) (w : World) : Calls Try.prog 84 #[.int .u64 (v : Int)] w fun e w' => e = .returned (.agg (u64v (RefP.dg v)).toArray) ∧ Grew w w' := by
  have HV := Lib.hid (show (u64v (RefP.dg v)).toArray = #[.int .u64 ((v % 65536 : Nat) : Int), .int .u64 ((v / 65536 % 65536 : Nat) : Int), .int .u64 ((v / 4294967296 : Nat) : Int), .int .u64 0, .int .u64 0, .int .u64 0, .int .u64 0, .int .u64 0] by rw [dg3 v h]; rfl)
  obtain ⟨x, hx⟩ : ∃ x, x = v / 65536 := ⟨_, rfl⟩
  obtain ⟨y, hy⟩ : ∃ y, y = v / 4294967296 := ⟨_, rfl⟩
  obtain ⟨p, hp⟩ : ∃ p, p = v % 65536 := ⟨_, rfl⟩
  obtain ⟨q, hq⟩ : ∃ q, q = x % 65536 := ⟨_, rfl⟩
  have g1 : (v : Int) / 65536 = (x : Int) := by omega
  have g2 : (v : Int) / 4294967296 = (y : Int) := by omega
  have g3 := u64_low v (by omega)
  have g4 := u64_low x (by omega)
  rw [← hp] at g3
  rw [← hq] at g4
  have hyb : y ≤ 65535 := by omega
  have hpb : p ≤ 65535 := by omega
  have hqb : q ≤ 65535 := by omega
  have HV2 := Lib.hid (show (u64v (RefP.dg v)).toArray = #[.int .u64 (p : Int), .int .u64 (q : Int), .int .u64 (y : Int), .int .u64 0, .int .u64 0, .int .u64 0, .int .u64 0, .int .u64 0] by rw [HV.out, hp, hq, hx, hy])
  clear HV hx hy hp hq
  go_enter Try.func84, Try.ntmps84
  go_wp2_with fail
  refine bodyPost_ret (v := .agg #[.int .u64 (p : Int), .int .u64 (q : Int), .int .u64 (y : Int), .int .u64 0, .int .u64 0, .int .u64 0, .int .u64 0, .int .u64 0]) (by simp [results, Try.results84, go_sem]) rfl ⟨by rw [HV2.out], ?_⟩
  exact grew_alloc w _
end Go.Proofs.Ytohgkadbajmphaa
