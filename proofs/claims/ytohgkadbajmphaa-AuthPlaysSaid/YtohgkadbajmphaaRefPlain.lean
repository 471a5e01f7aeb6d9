/- Plain law: the reference's constants by roots. No program in sight. -/
import Derived.Test.YtohgkadbajmphaaShaP
namespace Go.Proofs.Ytohgkadbajmphaa.RefP
set_option linter.unusedVariables false
/-- a digit in base 2^16 -/
def dig (v m : Nat) : Nat := v / 65536 ^ m % 65536
def dg (v : Nat) : List Nat := (List.range 8).map (dig v)
theorem dg_len (v : Nat) : (dg v).length = 8 := rfl
theorem dig_lt (v m : Nat) : dig v m < 65536 := Nat.mod_lt _ (by omega)
theorem dg_at (v m : Nat) (h : m < 8) : (dg v)[m]? = some (dig v m) := by
  unfold dg
  rw [List.getElem?_map, List.getElem?_range h]
  rfl
/-- the product of the first i digits, and of the i-th with the first j -/
def low (a b i : Nat) : Nat := a % 65536 ^ i * b
def mid (a b i j : Nat) : Nat := low a b i + dig a i * (b % 65536 ^ j) * 65536 ^ i
/-- the digits, within the multiplying -/
def part (a b i j : Nat) : List Nat := (List.range 8).map fun m => if m < i + j then dig (mid a b i j) m else dig (low a b i) m
def carry (a b i j : Nat) : Nat := mid a b i j / 65536 ^ (i + j) - low a b i / 65536 ^ (i + j)
theorem part_len (a b i j : Nat) : (part a b i j).length = 8 := rfl
theorem pow_pos' (n : Nat) : 0 < 65536 ^ n := Nat.pow_pos (by omega)
theorem mod_step (x n : Nat) : x % 65536 ^ (n + 1) = x % 65536 ^ n + dig x n * 65536 ^ n := by
  unfold dig
  rw [Nat.pow_succ, Nat.mod_mul, Nat.mul_comm (65536 ^ n)]
theorem mid_step (a b i j : Nat) : mid a b i (j + 1) = mid a b i j + dig a i * dig b j * 65536 ^ (i + j) := by
  unfold mid
  rw [mod_step b j, Nat.pow_add, Nat.mul_add, Nat.add_mul]
  have : dig a i * (dig b j * 65536 ^ j) * 65536 ^ i = dig a i * dig b j * (65536 ^ i * 65536 ^ j) := by
    rw [← Nat.mul_assoc, Nat.mul_assoc (dig a i * dig b j), Nat.mul_comm (65536 ^ j)]
  omega
theorem low_le_mid (a b i j : Nat) : low a b i ≤ mid a b i j := Nat.le_add_right _ _
/-- what the machine adds up -/
theorem sum_eq (a b i j : Nat) : mid a b i (j + 1) / 65536 ^ (i + j) = carry a b i j + dig (low a b i) (i + j) + dig a i * dig b j + 65536 * (low a b i / 65536 ^ (i + j) / 65536) := by
  rw [mid_step, Nat.add_mul_div_right _ _ (pow_pos' _)]
  unfold carry dig
  have h := Nat.div_le_div_right (c := 65536 ^ (i + j)) (low_le_mid a b i j)
  have h2 := Nat.div_add_mod (low a b i / 65536 ^ (i + j)) 65536
  unfold dig at h2
  omega
theorem carry_step (a b i j : Nat) : carry a b i (j + 1) = (carry a b i j + dig (low a b i) (i + j) + dig a i * dig b j) / 65536 := by
  have h := sum_eq a b i j
  have e : carry a b i (j + 1) = mid a b i (j + 1) / 65536 ^ (i + j) / 65536 - low a b i / 65536 ^ (i + j) / 65536 := by
    unfold carry
    rw [show i + (j + 1) = i + j + 1 by omega, Nat.pow_succ, ← Nat.div_div_eq_div_mul, ← Nat.div_div_eq_div_mul]
  rw [e, h, Nat.add_mul_div_left _ _ (by omega : 0 < 65536)]
  omega
theorem carry_zero (a b i : Nat) : carry a b i 0 = 0 := by
  unfold carry mid
  simp [Nat.mod_one]
theorem carry_lt (a b i : Nat) : ∀ j, carry a b i j < 65536
  | 0 => by rw [carry_zero]; omega
  | j + 1 => by
    rw [carry_step]
    have h1 := carry_lt a b i j
    have h2 := dig_lt (low a b i) (i + j)
    have h3 := dig_lt a i
    have h4 := dig_lt b j
    have h5 : dig a i * dig b j ≤ 65535 * 65535 := Nat.mul_le_mul (by omega) (by omega)
    omega
theorem dig_mid_low (a b i j m : Nat) (h : m < i + j) : dig (mid a b i (j + 1)) m = dig (mid a b i j) m := by
  rw [mid_step]
  generalize dig a i * dig b j = q
  unfold dig
  obtain ⟨d, hd⟩ : ∃ d, i + j = m + 1 + d := ⟨i + j - m - 1, by omega⟩
  rw [hd, Nat.pow_add, Nat.pow_succ]
  have : q * (65536 ^ m * 65536 * 65536 ^ d) = (q * 65536 ^ d * 65536) * 65536 ^ m := by
    rw [Nat.mul_assoc (65536 ^ m), Nat.mul_comm (65536 ^ m), ← Nat.mul_assoc, Nat.mul_comm 65536, ← Nat.mul_assoc]
  rw [this, Nat.add_mul_div_right _ _ (pow_pos' _), Nat.add_mul_mod_self_right]
theorem part_set (a b i j : Nat) (h : i + j < 8) : (part a b i j).set (i + j) ((carry a b i j + dig (low a b i) (i + j) + dig a i * dig b j) % 65536) = part a b i (j + 1) := by
  apply List.ext_getElem?
  intro m
  rw [List.getElem?_set, part_len]
  by_cases hm : i + j = m
  · subst hm
    rw [if_pos rfl, if_pos h]
    unfold part
    rw [List.getElem?_map, List.getElem?_range h]
    simp only [Option.map_some]
    rw [if_pos (by omega)]
    have e : dig (mid a b i (j + 1)) (i + j) = (carry a b i j + dig (low a b i) (i + j) + dig a i * dig b j) % 65536 := by
      show mid a b i (j + 1) / 65536 ^ (i + j) % 65536 = _
      rw [sum_eq, Nat.add_mul_mod_self_left]
    rw [e]
  · rw [if_neg hm]
    unfold part
    by_cases h8 : m < 8
    · rw [List.getElem?_map, List.getElem?_map, List.getElem?_range h8]
      simp only [Option.map_some]
      by_cases h1 : m < i + j
      · rw [if_pos h1, if_pos (by omega), dig_mid_low a b i j m h1]
      · rw [if_neg h1, if_neg (by omega)]
    · rw [List.getElem?_eq_none (by simp; omega), List.getElem?_eq_none (by simp; omega)]
theorem part_start (a b i : Nat) : part a b i 0 = dg (low a b i) := by
  unfold part dg
  apply List.map_congr_left
  intro m hm
  have e : mid a b i 0 = low a b i := by unfold mid; simp [Nat.mod_one]
  rw [e]
  simp
theorem dig_mod (v m n : Nat) (h : m < n) : dig (v % 65536 ^ n) m = dig v m := by
  unfold dig
  obtain ⟨d, rfl⟩ : ∃ d, n = m + 1 + d := ⟨n - m - 1, by omega⟩
  rw [Nat.pow_add, Nat.pow_succ, Nat.mul_assoc, Nat.mod_mul_right_div_self, Nat.mod_mod_of_dvd _ (Nat.dvd_mul_right _ _)]
theorem part_end (a b i : Nat) (h : i < 8) : part a b i (8 - i) = dg (low a b (i + 1)) := by
  unfold part dg
  apply List.map_congr_left
  intro m hm
  have hm : m < 8 := by simpa using hm
  rw [if_pos (by omega), ← dig_mod (mid a b i (8 - i)) m 8 hm, ← dig_mod (low a b (i + 1)) m 8 hm]
  congr 1
  unfold mid low
  rw [mod_step a i, Nat.add_mul, Nat.add_mod, Nat.add_mod (a % 65536 ^ i * b)]
  congr 2
  have e1 : dig a i * (b % 65536 ^ (8 - i)) * 65536 ^ i = dig a i * (b % 65536 ^ (8 - i) * 65536 ^ i) := by rw [Nat.mul_assoc]
  have e2 : dig a i * 65536 ^ i * b = dig a i * (b * 65536 ^ i) := by rw [Nat.mul_assoc, Nat.mul_comm b]
  have e3 : b % 65536 ^ (8 - i) * 65536 ^ i = b * 65536 ^ i % 65536 ^ 8 := by
    rw [Nat.mul_comm b, show 65536 ^ 8 = 65536 ^ i * 65536 ^ (8 - i) by rw [← Nat.pow_add]; congr 1; omega, Nat.mul_mod_mul_left, Nat.mul_comm]
  rw [e1, e2, e3, Nat.mul_mod, Nat.mod_mod, ← Nat.mul_mod]
theorem low_end (a b : Nat) (h : a < 65536 ^ 8) : low a b 8 = a * b := by unfold low; rw [Nat.mod_eq_of_lt h]
theorem low_zero (a b : Nat) : low a b 0 = 0 := by unfold low; simp [Nat.mod_one]
/-- the greatest first -/
def gt : Nat → Nat → Nat → Bool
  | 0, _, _ => false
  | n + 1, a, b => if dig a n ≠ dig b n then decide (dig b n < dig a n) else gt n a b
theorem gt_spec : ∀ (n a b : Nat), gt n a b = decide (b % 65536 ^ n < a % 65536 ^ n)
  | 0, a, b => by simp [gt, Nat.mod_one]
  | n + 1, a, b => by
    rw [gt, mod_step a n, mod_step b n]
    have ha := Nat.mod_lt a (pow_pos' n)
    have hb := Nat.mod_lt b (pow_pos' n)
    split
    · rename_i h
      rw [Bool.eq_iff_iff, decide_eq_true_iff, decide_eq_true_iff]
      constructor
      · intro hlt
        have : (dig b n + 1) * 65536 ^ n ≤ dig a n * 65536 ^ n := Nat.mul_le_mul_right _ hlt
        rw [Nat.add_mul] at this
        omega
      · intro hlt
        rcases Nat.lt_or_ge (dig b n) (dig a n) with h1 | h1
        · exact h1
        · have h2 : dig a n + 1 ≤ dig b n := by omega
          have : (dig a n + 1) * 65536 ^ n ≤ dig b n * 65536 ^ n := Nat.mul_le_mul_right _ h2
          rw [Nat.add_mul] at this
          omega
    · rename_i h
      have h : dig a n = dig b n := by simpa using h
      rw [gt_spec n a b, h, Bool.eq_iff_iff, decide_eq_true_iff, decide_eq_true_iff]
      omega
theorem gt8 (a b : Nat) (ha : a < 65536 ^ 8) (hb : b < 65536 ^ 8) : gt 8 a b = decide (b < a) := by rw [gt_spec, Nat.mod_eq_of_lt ha, Nat.mod_eq_of_lt hb]
/-- the root, bit by bit -/
def okR (p : Nat) (cube : Bool) (t : Nat) : Bool := if cube then decide (t * t * t ≤ p * 65536 ^ 6) else decide (t * t ≤ p * 65536 ^ 4)
def rootR (p : Nat) (cube : Bool) : Nat → Nat → Nat
  | 0, r => r
  | k + 1, r => rootR p cube k (if okR p cube (r + 2 ^ k) then r + 2 ^ k else r)
def root (p : Nat) (cube : Bool) : Nat := rootR p cube 37 0 % 4294967296
def isPrime (n : Nat) : Bool := (List.range n).all (fun d => decide (d < 2) || decide (n < d * d) || decide (n % d ≠ 0)) && decide (1 < n)
def primesTo (i : Nat) : List Nat := (List.range i).filter isPrime
def primes : List Nat := primesTo 312
theorem primes_len : primes.length = 64 := by decide +kernel
theorem primes_less : ∀ i, i < 312 → (primesTo i).length < 64 := by decide +kernel
theorem consts_h : (primes.take 8).map (fun p => BitVec.ofNat 32 (root p false)) = ShaP.H0 := by decide +kernel
theorem consts_k : primes.map (fun p => BitVec.ofNat 32 (root p true)) = ShaP.K := by decide +kernel
theorem primes_small : ∀ p ∈ primes, 1 < p ∧ p < 400 := by decide +kernel
end Go.Proofs.Ytohgkadbajmphaa.RefP
