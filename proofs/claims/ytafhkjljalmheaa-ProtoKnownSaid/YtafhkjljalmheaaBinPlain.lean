/- Plain law of canonical numbers in base 128: how they are laid and read, over lists of bytes. No program in sight. -/
namespace Go.Proofs.Ytafhkjljalmheaa.BinP
/-- a number's bytes, at most f of them -/
def encF : Nat → Nat → List UInt8
  | 0, _ => []
  | f + 1, v => if v < 128 then [UInt8.ofNat v] else UInt8.ofNat (v % 128 + 128) :: encF f (v / 128)
def enc (v : Nat) : List UInt8 := encF 10 v
def text (s : List UInt8) : List UInt8 := enc s.length ++ s
/-- the number that bytes begin with, and how many bytes it has; from the i-th byte on -/
def numF : Nat → Nat → List UInt8 → Option (Nat × Nat)
  | _, _, [] => none
  | i, acc, x :: r =>
    if 10 ≤ i then none
    else if 128 ≤ x.toNat then numF (i + 1) (acc + (x.toNat % 128) * 2 ^ (7 * i)) r
    else if (x.toNat = 0 ∧ 0 < i) ∨ (i = 9 ∧ 1 < x.toNat) then none
    else some (acc + (x.toNat % 128) * 2 ^ (7 * i), i + 1)
def num (l : List UInt8) : Option (Nat × Nat) := numF 0 0 l

theorem encF_len : ∀ f v, (encF f v).length ≤ f
  | 0, _ => by simp [encF]
  | f + 1, v => by
    unfold encF
    split
    · simp
    · have := encF_len f (v / 128); simp; omega
theorem enc_len (v : Nat) : (enc v).length ≤ 10 := encF_len 10 v
theorem encF_pos (f v : Nat) : 0 < (encF (f + 1) v).length := by
  unfold encF; split <;> simp
/-- reading gives back what was laid -/
theorem num_encF : ∀ (f i acc v : Nat) (r : List UInt8), f + i = 10 → v < 2 ^ (64 - 7 * i) → 0 < f → (0 < i → 0 < v) →
    numF i acc (encF f v ++ r) = some (acc + v * 2 ^ (7 * i), i + (encF f v).length)
  | f + 1, i, acc, v, r, hf, hv, _, hz => by
    unfold encF
    by_cases h : v < 128
    · rw [if_pos h]
      simp only [List.cons_append, List.nil_append, numF, List.length_cons, List.length_nil]
      have hx : (UInt8.ofNat v).toNat = v := by rw [UInt8.toNat_ofNat']; omega
      rw [hx, if_neg (by omega), if_neg (by omega), if_neg, Nat.mod_eq_of_lt h]
      rintro (⟨h0, h1⟩ | ⟨h0, h1⟩)
      · have := hz h1; omega
      · subst h0; simp at hv; omega
    · rw [if_neg h]
      have hx : (UInt8.ofNat (v % 128 + 128)).toNat = v % 128 + 128 := by rw [UInt8.toNat_ofNat']; omega
      have hi : i < 9 := by
        rcases Nat.lt_or_ge i 9 with h9 | h9
        · exact h9
        · have : i = 9 := by omega
          subst this
          simp at hv
          omega
      simp only [List.cons_append, numF, List.length_cons]
      rw [hx, if_neg (by omega), if_pos (by omega)]
      have hp : 2 ^ (64 - 7 * i) = 128 * 2 ^ (64 - 7 * (i + 1)) := by
        rw [show 64 - 7 * i = 7 + (64 - 7 * (i + 1)) from by omega, Nat.pow_add]
      rw [num_encF f (i + 1) _ (v / 128) r (by omega) (by rw [hp] at hv; omega) (by omega) (by intro _; omega)]
      have e1 : (v % 128 + 128) % 128 = v % 128 := by omega
      rw [e1]
      have e2 : 2 ^ (7 * (i + 1)) = 128 * 2 ^ (7 * i) := by rw [Nat.mul_add, Nat.pow_add, Nat.mul_comm]
      rw [e2]
      congr 2
      · have := Nat.div_add_mod v 128
        generalize 2 ^ (7 * i) = q at *
        rw [Nat.add_assoc, ← Nat.mul_assoc, ← Nat.add_mul]
        congr 2
        omega
      · omega
theorem num_enc (v : Nat) (r : List UInt8) (h : v < 18446744073709551616) : num (enc v ++ r) = some (v, (enc v).length) := by
  have := num_encF 10 0 0 v r (by omega) (by simpa using h) (by omega) (by omega)
  simpa [num, enc] using this
theorem encF_split (f v : Nat) (h : 128 ≤ v) : encF (f + 1) v = UInt8.ofNat (v % 128 + 128) :: encF f (v / 128) := by
  rw [encF, if_neg (by omega)]
theorem encF_last (f v : Nat) (h : v < 128) : encF (f + 1) v = [UInt8.ofNat v] := by
  rw [encF, if_pos h]
/-- a number that is read stays below 2^64, and its bytes are there -/
theorem numF_bound : ∀ (l : List UInt8) (i acc v n : Nat), numF i acc l = some (v, n) → acc < 2 ^ (7 * i) → i < n ∧ n ≤ i + l.length ∧ n ≤ 10 ∧ v < 18446744073709551616
  | [], _, _, _, _, h, _ => by simp [numF] at h
  | x :: r, i, acc, v, n, h, ha => by
    have hx := x.toNat_lt
    simp only [numF] at h
    by_cases h10 : 10 ≤ i
    · rw [if_pos h10] at h; cases h
    · rw [if_neg h10] at h
      have hm : x.toNat % 128 < 128 := Nat.mod_lt _ (by decide)
      have hp : 2 ^ (7 * (i + 1)) = 128 * 2 ^ (7 * i) := by rw [Nat.mul_add, Nat.pow_add, Nat.mul_comm]
      have hb : acc + (x.toNat % 128) * 2 ^ (7 * i) < 2 ^ (7 * (i + 1)) := by
        rw [hp]
        have : (x.toNat % 128) * 2 ^ (7 * i) ≤ 127 * 2 ^ (7 * i) := Nat.mul_le_mul_right _ (by omega)
        omega
      by_cases h128 : 128 ≤ x.toNat
      · rw [if_pos h128] at h
        have := numF_bound r (i + 1) _ v n h hb
        simp only [List.length_cons]
        omega
      · rw [if_neg h128] at h
        split at h
        · cases h
        · rename_i hno
          simp only [Option.some.injEq, Prod.mk.injEq] at h
          obtain ⟨rfl, rfl⟩ := h
          refine ⟨by omega, by simp only [List.length_cons]; omega, by omega, ?_⟩
          rcases Nat.lt_or_ge i 9 with h9 | h9
          · have hq : 2 ^ (7 * (i + 1)) ≤ 2 ^ 63 := Nat.pow_le_pow_right (by decide) (by omega)
            omega
          · obtain rfl : i = 9 := by omega
            have hx1 : x.toNat ≤ 1 := by omega
            have e : x.toNat % 128 = x.toNat := Nat.mod_eq_of_lt (by omega)
            rw [e]
            have h1 : x.toNat * 2 ^ (7 * 9) ≤ 1 * 2 ^ (7 * 9) := Nat.mul_le_mul_right _ hx1
            have h2 : 2 * 2 ^ (7 * 9) = 18446744073709551616 := by rfl
            rw [← h2]
            clear h2 hb hp
            generalize 2 ^ (7 * 9) = q at *
            omega
theorem num_bound {l : List UInt8} {v n : Nat} (h : num l = some (v, n)) : 0 < n ∧ n ≤ l.length ∧ n ≤ 10 ∧ v < 18446744073709551616 := by
  have := numF_bound l 0 0 v n h (by simp)
  omega
end Go.Proofs.Ytafhkjljalmheaa.BinP
