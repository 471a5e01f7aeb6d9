/- Plain law: digits back and forth; keys. No program in sight. -/
import Derived.Test.YtohgkadbajmphaaShaPlain3
namespace Go.Proofs.Ytohgkadbajmphaa.ShaP
theorem hexd_isd : ∀ n, n < 16 → isd (hexd n) = true ∧ (dig (hexd n)).toNat = n := by decide +kernel
theorem hex_all : ∀ l : Bs, (hex l).all isd = true
  | [] => rfl
  | x :: r => by
    have ih := hex_all r
    have hx := x.toNat_lt
    unfold hex at *
    rw [List.flatMap_cons, List.all_append, ih]
    have h1 := (hexd_isd (x.toNat / 16) (by omega)).1
    have h2 := (hexd_isd (x.toNat % 16) (by omega)).1
    simp [h1, h2]
theorem unhex_hex : ∀ l : Bs, unhex (hex l) = l
  | [] => rfl
  | x :: r => by
    have ih := unhex_hex r
    have hx := x.toNat_lt
    have e : hex (x :: r) = hexd (x.toNat / 16) :: hexd (x.toNat % 16) :: hex r := by unfold hex; rw [List.flatMap_cons]; rfl
    rw [e, unhex, ih, (hexd_isd (x.toNat / 16) (by omega)).2, (hexd_isd (x.toNat % 16) (by omega)).2]
    congr 1
    rw [show 16 * (x.toNat / 16) + x.toNat % 16 = x.toNat by omega]
    exact UInt8.ofNat_toNat
theorem read_hex (l : Bs) (h : l.length = 32) : readD (hex l) = l ∧ readE (hex l) = 0 := by
  have h1 : (hex l).length = 64 ∧ (hex l).all isd = true := ⟨by rw [hex_len, h], hex_all l⟩
  unfold readD readE
  rw [if_pos h1, if_pos h1, unhex_hex]
  exact ⟨rfl, rfl⟩
theorem hexd_dig (c : UInt8) (h : isd c = true) : hexd (dig c).toNat = c := by
  have h := of_decide_eq_true h
  have hc := c.toNat_lt
  unfold dig
  split
  · rename_i h1
    rw [UInt8.toNat_ofNat', Nat.mod_eq_of_lt (by omega)]
    unfold hexd
    rw [if_pos (by omega), show 48 + (c.toNat - 48) = c.toNat by omega]
    exact UInt8.ofNat_toNat
  · split
    · rename_i h1 h2
      rw [UInt8.toNat_ofNat', Nat.mod_eq_of_lt (by omega)]
      unfold hexd
      rw [if_neg (by omega), show 87 + (c.toNat - 87) = c.toNat by omega]
      exact UInt8.ofNat_toNat
    · omega
theorem hex_unhex : ∀ s : Bs, s.length % 2 = 0 → s.all isd = true → hex (unhex s) = s
  | [], _, _ => rfl
  | [_], h, _ => by simp at h
  | x :: y :: r, h, ha => by
    simp only [List.all_cons, Bool.and_eq_true] at ha
    have ih := hex_unhex r (by simp at h; omega) ha.2.2
    have dx := dig_good x ha.1
    have dy := dig_good y ha.2.1
    rw [unhex]
    have e : ∀ z l, hex (z :: l) = hexd (z.toNat / 16) :: hexd (z.toNat % 16) :: hex l := fun z l => by unfold hex; rw [List.flatMap_cons]; rfl
    rw [e, ih, UInt8.toNat_ofNat', Nat.mod_eq_of_lt (show 16 * (dig x).toNat + (dig y).toNat < 2 ^ 8 by omega), show (16 * (dig x).toNat + (dig y).toNat) / 16 = (dig x).toNat by omega, show (16 * (dig x).toNat + (dig y).toNat) % 16 = (dig y).toNat by omega, hexd_dig x ha.1, hexd_dig y ha.2.1]
/-- a long key is as its digest -/
theorem mac_long (key b : Bs) (h : 64 < key.length) : mac (digest key) b = mac key b := by
  have e : key64 (digest key) = key64 key := by
    unfold key64 keyOf
    rw [if_pos h, if_neg (by rw [digest_len]; omega)]
  unfold mac
  rw [e]
/-- bytes 0 behind a short key tell nothing -/
theorem mac_zeros (key b : Bs) (j : Nat) (h : key.length + j ≤ 64) : mac (key ++ List.replicate j 0) b = mac key b := by
  have e : key64 (key ++ List.replicate j 0) = key64 key := by
    unfold key64 keyOf
    rw [if_neg (by simp; omega), if_neg (by omega), List.append_assoc, List.replicate_append_replicate]
    congr 2
    simp
    omega
  unfold mac
  rw [e]
end Go.Proofs.Ytohgkadbajmphaa.ShaP
