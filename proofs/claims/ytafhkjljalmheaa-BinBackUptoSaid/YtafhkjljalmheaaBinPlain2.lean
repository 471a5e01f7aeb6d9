/- Plain law: what is laid and cut is read with an error; what is laid is read back. No program in sight. -/
import Derived.Test.YtafhkjljalmheaaBinRd3
namespace Go.Proofs.Ytafhkjljalmheaa.BinP
theorem numF_cut : ∀ (f i acc v k : Nat), k < (encF f v).length → numF i acc ((encF f v).take k) = none
  | 0, i, acc, v, k, h => by simp [encF] at h
  | f + 1, i, acc, v, k, h => by
    rcases k with _ | k
    · simp [numF]
    · by_cases hv : v < 128
      · rw [encF_last _ _ hv] at h
        simp at h
      · rw [encF_split _ _ (by omega)] at h ⊢
        simp only [List.length_cons, Nat.add_lt_add_iff_right] at h
        have hx : (UInt8.ofNat (v % 128 + 128)).toNat = v % 128 + 128 := by rw [UInt8.toNat_ofNat']; omega
        rw [List.take_succ_cons, numF, hx]
        split
        · rfl
        · rw [if_pos (by omega)]
          exact numF_cut f (i + 1) _ (v / 128) k h
theorem num_cut (v k : Nat) (h : k < (enc v).length) : num ((enc v).take k) = none := numF_cut 10 0 0 v k h
theorem pUint_enc (v : Nat) (r : List UInt8) (h : v < two64) : pUint (some (enc v ++ r)) = (v, some r) := by
  simp [pUint, num_enc v r h]
theorem pInt_enc (v : Nat) (r : List UInt8) (a : Int) (h : v < two64) (ha : (v : Int) ≤ a) : pInt a (some (enc v ++ r)) = (v, some r) := by
  simp only [pInt, num_enc v r h]
  rw [if_neg (by omega)]
  simp
theorem pText_text (s r : List UInt8) (a : Int) (h : s.length < two64) (ha : (s.length : Int) ≤ a) : pText a (some (text s ++ r)) = (s, some r) := by
  unfold pText text
  rw [List.append_assoc, pInt_enc _ _ _ h ha]
  simp
/-- a number and a text, cut -/
theorem cut_none (v : Nat) (s : List UInt8) (k : Nat) (hv : v < two64) (hs : s.length < two64) (hk : k < (enc v ++ text s).length) :
    (pText s.length (pUint (some ((enc v ++ text s).take k))).2).2 = none := by
  by_cases h1 : k < (enc v).length
  · rw [List.take_append_of_le_length (by omega)]
    simp [pUint, num_cut v k h1, pText, pInt]
  · obtain ⟨m, rfl⟩ : ∃ m, k = (enc v).length + m := ⟨k - (enc v).length, by omega⟩
    rw [List.take_length_add_append, pUint_enc _ _ hv]
    unfold text at hk ⊢
    simp only [List.length_append] at hk
    by_cases h2 : m < (enc s.length).length
    · rw [List.take_append_of_le_length (by omega)]
      simp [num_cut s.length m h2, pText, pInt]
    · obtain ⟨j, rfl⟩ : ∃ j, m = (enc s.length).length + j := ⟨m - (enc s.length).length, by omega⟩
      rw [List.take_length_add_append]
      unfold pText
      rw [pInt_enc _ _ _ hs (Int.le_refl _)]
      have hj : (s.take j).length < s.length := by simp; omega
      simp only
      rw [if_pos hj]
theorem pInt_most (v : Nat) (a : Int) (h : v < two64) (ha : a < (v : Int)) : pInt a (some (enc v)) = (0, none) := by
  have := num_enc v [] h
  rw [List.append_nil] at this
  simp only [pInt, this]
  rw [if_pos (by omega)]
theorem pInt_just (v : Nat) (a : Int) (h : v < two64) (ha : (v : Int) ≤ a) : pInt a (some (enc v)) = (v, some []) := by
  have := pInt_enc v [] a h ha
  rwa [List.append_nil] at this
theorem pText_most (s : List UInt8) (a : Int) (h : s.length < two64) (ha : a < (s.length : Int)) : pText a (some (text s)) = ([], none) := by
  simp only [pText, text, pInt, num_enc s.length s h]
  rw [if_pos (by omega)]
theorem pText_just (s : List UInt8) (a : Int) (h : s.length < two64) (ha : (s.length : Int) ≤ a) : pText a (some (text s)) = (s, some []) := by
  have := pText_text s [] a h ha
  rwa [List.append_nil] at this
end Go.Proofs.Ytafhkjljalmheaa.BinP
