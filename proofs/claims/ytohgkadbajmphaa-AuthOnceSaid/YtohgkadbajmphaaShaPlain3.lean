/- Plain law: keyed digests, digits. No program in sight. -/
import Derived.Test.YtohgkadbajmphaaShaPlain2
namespace Go.Proofs.Ytohgkadbajmphaa.ShaP
set_option linter.unusedVariables false
def keyOf (key : Bs) : Bs := if key.length > 64 then digest key else key
def key64 (key : Bs) : Bs := keyOf key ++ List.replicate (64 - (keyOf key).length) 0
def mac (key b : Bs) : Bs := digest ((key64 key).map (· ^^^ 0x5c) ++ digest ((key64 key).map (· ^^^ 0x36) ++ b))
theorem keyOf_len (key : Bs) : (keyOf key).length ≤ 64 := by
  unfold keyOf
  split
  · rw [digest_len]; omega
  · omega
theorem key64_len (key : Bs) : (key64 key).length = 64 := by
  have := keyOf_len key
  unfold key64
  simp
  omega
/-- the first k bytes xored, the others 0 -/
def padded (L : Bs) (x : UInt8) (k : Nat) : Bs := (L.map (· ^^^ x)).take k ++ List.replicate (64 - k) 0
theorem padded_len (L : Bs) (x : UInt8) (k : Nat) (h : L.length = 64) (hk : k ≤ 64) : (padded L x k).length = 64 := by unfold padded; simp [h]; omega
theorem padded_all (L : Bs) (x : UInt8) (h : L.length = 64) : padded L x 64 = L.map (· ^^^ x) := by
  unfold padded
  rw [List.take_of_length_le (by simp [h])]
  simp
theorem padded_set (L : Bs) (x : UInt8) (k : Nat) (h : L.length = 64) (hk : k < 64) : (padded L x k).set k (L[k] ^^^ x) = padded L x (k + 1) := by
  have h2 : k < (L.map (· ^^^ x)).length := by simp [h, hk]
  unfold padded
  rw [List.set_append_right _ _ (by rw [List.length_take]; omega), List.length_take, show k - min k (L.map (· ^^^ x)).length = 0 by omega, show 64 - k = (64 - (k + 1)) + 1 by omega, List.replicate_succ, List.set_cons_zero, List.take_succ_eq_append_getElem h2, List.append_assoc]
  simp
theorem mac_len (key b : Bs) : (mac key b).length = 32 := digest_len _
def hexd (n : Nat) : UInt8 := UInt8.ofNat (if n < 10 then 48 + n else 87 + n)
def hex (l : Bs) : Bs := l.flatMap fun x => [hexd (x.toNat / 16), hexd (x.toNat % 16)]
theorem hex_snoc (l : Bs) (x : UInt8) : hex (l ++ [x]) = hex l ++ [hexd (x.toNat / 16), hexd (x.toNat % 16)] := by simp [hex]
theorem hex_len : ∀ l : Bs, (hex l).length = 2 * l.length
  | [] => rfl
  | x :: r => by
    have := hex_len r
    unfold hex at *
    rw [List.flatMap_cons, List.length_append, this]
    simp; omega
/-- a digit's number; 255: none -/
def dig (c : UInt8) : UInt8 := if 48 ≤ c.toNat ∧ c.toNat ≤ 57 then UInt8.ofNat (c.toNat - 48) else if 97 ≤ c.toNat ∧ c.toNat ≤ 102 then UInt8.ofNat (c.toNat - 87) else 255
def isd (c : UInt8) : Bool := decide ((48 ≤ c.toNat ∧ c.toNat ≤ 57) ∨ (97 ≤ c.toNat ∧ c.toNat ≤ 102))
/-- the bytes of digits -/
def unhex : Bs → Bs
  | x :: y :: r => UInt8.ofNat (16 * (dig x).toNat + (dig y).toNat) :: unhex r
  | _ => []
def readv (s : Bs) : Option Bs := if s.length = 64 ∧ s.all isd = true then some (unhex s) else none
theorem unhex_len : ∀ l : Bs, (unhex l).length = l.length / 2
  | [] => rfl
  | [_] => by simp [unhex]
  | x :: y :: r => by
    have := unhex_len r
    simp only [unhex, List.length_cons]
    omega
theorem unhex_at : ∀ (l : Bs) (k : Nat) (x y : UInt8), l[2 * k]? = some x → l[2 * k + 1]? = some y → (unhex l)[k]? = some (UInt8.ofNat (16 * (dig x).toNat + (dig y).toNat))
  | [], k, x, y, h, _ => by simp at h
  | [a], 0, x, y, _, h2 => by simp at h2
  | [a], k + 1, x, y, h, _ => by simp at h
  | a :: b :: r, 0, x, y, h1, h2 => by
    simp at h1 h2
    subst h1 h2
    simp [unhex]
  | a :: b :: r, k + 1, x, y, h1, h2 => by
    have e1 : (a :: b :: r)[2 * (k + 1)]? = r[2 * k]? := by rw [show 2 * (k + 1) = 2 * k + 1 + 1 by omega]; simp
    have e2 : (a :: b :: r)[2 * (k + 1) + 1]? = r[2 * k + 1]? := by rw [show 2 * (k + 1) + 1 = 2 * k + 1 + 1 + 1 by omega]; simp
    rw [e1] at h1
    rw [e2] at h2
    have := unhex_at r k x y h1 h2
    simp only [unhex, List.getElem?_cons_succ]
    exact this
theorem dig_good (x : UInt8) (h : isd x = true) : (dig x).toNat ≤ 15 := by
  have h := of_decide_eq_true h
  have hx := x.toNat_lt
  unfold dig
  split
  · rw [UInt8.toNat_ofNat']; omega
  · split
    · rw [UInt8.toNat_ofNat']; omega
    · omega
theorem dig_bad (x : UInt8) (h : isd x = false) : (dig x).toNat = 255 := by
  have h := of_decide_eq_false h
  unfold dig
  rw [if_neg (by omega), if_neg (by omega)]
  rfl
/-- what reading digits answers -/
def readD (s : Bs) : Bs := if s.length = 64 ∧ s.all isd = true then unhex s else List.replicate 32 0
def readE (s : Bs) : Int := if s.length = 64 ∧ s.all isd = true then 0 else 14
theorem readD_len (s : Bs) : (readD s).length = 32 := by
  unfold readD
  split
  · rename_i h; rw [unhex_len, h.1]
  · simp
/-- the first k bytes read, the others 0 -/
def laidU (s : Bs) (k : Nat) : Bs := (unhex s).take k ++ List.replicate (32 - k) 0
theorem laidU_len (s : Bs) (k : Nat) (h : s.length = 64) (hk : k ≤ 32) : (laidU s k).length = 32 := by unfold laidU; simp [unhex_len, h]; omega
theorem laidU_all (s : Bs) (h : s.length = 64) : laidU s 32 = unhex s := by
  unfold laidU
  rw [List.take_of_length_le (by rw [unhex_len, h]; omega)]
  simp
theorem laidU_set (s : Bs) (k : Nat) (x y : UInt8) (h : s.length = 64) (hk : k < 32) (h1 : s[2 * k]? = some x) (h2 : s[2 * k + 1]? = some y) : (laidU s k).set k (UInt8.ofNat (16 * (dig x).toNat + (dig y).toNat)) = laidU s (k + 1) := by
  obtain ⟨h3, h4⟩ := List.getElem?_eq_some_iff.1 (unhex_at s k x y h1 h2)
  unfold laidU
  rw [List.set_append_right _ _ (by rw [List.length_take]; omega), List.length_take, show k - min k (unhex s).length = 0 by omega, show 32 - k = (32 - (k + 1)) + 1 by omega, List.replicate_succ, List.set_cons_zero, List.take_succ_eq_append_getElem h3, h4, List.append_assoc]
  rfl
theorem all_take_two (s : Bs) (k : Nat) (x y : UInt8) (h1 : s[2 * k]? = some x) (h2 : s[2 * k + 1]? = some y) (ha : (s.take (2 * k)).all isd = true) (hx : isd x = true) (hy : isd y = true) : (s.take (2 * (k + 1))).all isd = true := by
  obtain ⟨h3, h4⟩ := List.getElem?_eq_some_iff.1 h1
  obtain ⟨h5, h6⟩ := List.getElem?_eq_some_iff.1 h2
  rw [show 2 * (k + 1) = 2 * k + 1 + 1 by omega, List.take_succ_eq_append_getElem h5, List.take_succ_eq_append_getElem h3, h4, h6]
  simp only [List.all_append, ha, List.all_cons, hx, hy, List.all_nil, Bool.and_self]
theorem not_all (s : Bs) (j : Nat) (x : UInt8) (h : s[j]? = some x) (hx : isd x = false) : ¬ s.all isd = true := fun ha => by
  have := List.all_eq_true.1 ha x (List.mem_of_getElem? h)
  rw [hx] at this
  cases this
/-- all differences, or-ed -/
def acc : Bs → Bs → UInt8
  | x :: l, y :: m => (x ^^^ y) ||| acc l m
  | _, _ => 0
theorem u8_or_zero (a b : UInt8) : a ||| b = 0 ↔ a = 0 ∧ b = 0 := by
  constructor
  · intro h
    rw [← UInt8.toNat_inj, UInt8.toNat_or] at h
    have h0 : (0 : UInt8).toNat = 0 := rfl
    rw [h0] at h
    have := Nat.or_eq_zero_iff.1 h
    exact ⟨UInt8.toNat_inj.1 this.1, UInt8.toNat_inj.1 this.2⟩
  · rintro ⟨rfl, rfl⟩; rfl
theorem u8_xor_zero (a b : UInt8) : a ^^^ b = 0 ↔ a = b := by
  rw [← UInt8.toNat_inj, UInt8.toNat_xor, ← UInt8.toNat_inj]
  have h0 : (0 : UInt8).toNat = 0 := rfl
  rw [h0]
  constructor
  · intro h
    apply Nat.eq_of_testBit_eq
    intro i
    have := congrArg (fun z => Nat.testBit z i) h
    simp only [Nat.testBit_xor, Nat.zero_testBit] at this
    revert this
    cases Nat.testBit a.toNat i <;> cases Nat.testBit b.toNat i <;> simp
  · intro h; rw [h]; exact Nat.xor_self _
theorem acc_zero : ∀ (l m : Bs), l.length = m.length → (acc l m = 0 ↔ l = m)
  | [], [], _ => by simp [acc]
  | [], _ :: _, h => by simp at h
  | _ :: _, [], h => by simp at h
  | x :: l, y :: m, h => by
    have ih := acc_zero l m (by simpa using h)
    rw [acc, u8_or_zero, u8_xor_zero, ih, List.cons.injEq]
theorem acc_snoc : ∀ (l m : Bs) (x y : UInt8), l.length = m.length → acc (l ++ [x]) (m ++ [y]) = acc l m ||| (x ^^^ y)
  | [], [], x, y, _ => by
    show (x ^^^ y) ||| 0 = 0 ||| (x ^^^ y)
    rw [UInt8.or_comm]
  | [], _ :: _, _, _, h => by simp at h
  | _ :: _, [], _, _, h => by simp at h
  | a :: l, b :: m, x, y, h => by
    simp only [List.cons_append, acc]
    rw [acc_snoc l m x y (by simpa using h), UInt8.or_assoc]
end Go.Proofs.Ytohgkadbajmphaa.ShaP
