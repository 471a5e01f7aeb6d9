/- Numbers of a walk, said of bit vectors: xor, and, or, shifts, complement. The words 'bv32' keep simp out. -/
import Derived.WalkKit
namespace Go.Proofs.Ytohgkadbajmphaa
open Go.RowKit
abbrev b8 (x : UInt8) : Value := .int .u8 (x.toNat : Int)
/-- a number of 32 bits, as the walk's integer -/
def bv32 (c : BitVec 32) : Int := (c.toNat : Int)
theorem lt32 (c : BitVec 32) : c.toNat < 4294967296 := c.isLt
theorem u32_bd (c : BitVec 32) : 0 ≤ bv32 c ∧ bv32 c ≤ 4294967295 := by have := lt32 c; unfold bv32; omega
theorem u32_wf (c : BitVec 32) : (Lit.int .u32 (bv32 c)).wf = true := WalkArith.wf_u32 (u32_bd c)
theorem u32_inj (a b : BitVec 32) : bv32 a = bv32 b ↔ a = b := by
  unfold bv32
  rw [Int.ofNat_inj, BitVec.toNat_inj]
theorem u32_of (n : Int) (h : 0 ≤ n ∧ n ≤ 4294967295) : bv32 (BitVec.ofInt 32 n) = n := by
  unfold bv32
  rw [BitVec.toNat_ofInt]
  omega
theorem u32_arg {a : Int} (h : (Lit.int .u32 a).wf = true) : ∃ s : BitVec 32, a = bv32 s :=
  ⟨BitVec.ofInt 32 a, (u32_of a (by simpa [Lit.wf, IntKind.min, IntKind.max, IntKind.signed, IntKind.bits] using h)).symm⟩
theorem u32_xor_bv (a b : BitVec 32) : bits .xor .u32 (bv32 a) (bv32 b) = bv32 (a ^^^ b) := by
  unfold bv32; rw [u32_xor_nat _ _ (lt32 a) (lt32 b), BitVec.toNat_xor]
theorem u32_and_bv (a b : BitVec 32) : bits .and .u32 (bv32 a) (bv32 b) = bv32 (a &&& b) := by
  unfold bv32; rw [u32_and_nat _ _ (lt32 a) (lt32 b), BitVec.toNat_and]
theorem u32_or_bv (a b : BitVec 32) : bits .or .u32 (bv32 a) (bv32 b) = bv32 (a ||| b) := by
  unfold bv32; rw [u32_or_nat _ _ (lt32 a) (lt32 b), BitVec.toNat_or]
theorem u32_not_bv (a : BitVec 32) : bits .xor .u32 IntKind.u32.max (bv32 a) = bv32 (~~~ a) := by
  have h := u32_xor_bv (BitVec.allOnes 32) a
  rw [show bv32 (BitVec.allOnes 32) = IntKind.u32.max from by decide] at h
  rw [h, BitVec.xor_comm, BitVec.xor_allOnes]
theorem u32_not_bv' (a : BitVec 32) : bits .xor .u32 (bv32 a) 4294967295 = bv32 (~~~ a) := by
  have h := u32_xor_bv a (BitVec.allOnes 32)
  rw [show bv32 (BitVec.allOnes 32) = 4294967295 from by decide] at h
  rw [h, BitVec.xor_allOnes]
theorem u32_div_bv (a : BitVec 32) (k : Nat) : bv32 a / (2 : Int) ^ k = bv32 (a >>> k) := by
  unfold bv32
  rw [BitVec.toNat_ushiftRight, Nat.shiftRight_eq_div_pow]
  norm_cast
theorem u32_half_bv (a : BitVec 32) : bv32 a / (2 : Int) = bv32 (a >>> 1) := u32_div_bv a 1
theorem u32_byte (x : UInt8) : (x.toNat : Int) = bv32 (BitVec.ofNat 32 x.toNat) := by
  have hx := x.toNat_lt
  unfold bv32
  rw [BitVec.toNat_ofNat, Nat.mod_eq_of_lt (by omega)]
theorem u32_xor_byte (a : BitVec 32) (x : UInt8) : bits .xor .u32 (bv32 a) (x.toNat : Int) = bv32 (a ^^^ BitVec.ofNat 32 x.toNat) := by
  rw [u32_byte, u32_xor_bv]
theorem u32_xor_lit (a : BitVec 32) (n : Nat) (h : n < 4294967296) : bits .xor .u32 (bv32 a) (n : Int) = bv32 (a ^^^ BitVec.ofNat 32 n) := by
  rw [← u32_xor_bv]
  congr 1
  unfold bv32
  rw [BitVec.toNat_ofNat, Nat.mod_eq_of_lt (by omega)]
theorem u32_low (a : BitVec 32) : bits .and .u32 (bv32 a) 1 = if a.getLsbD 0 then 1 else 0 := by
  rw [show (1 : Int) = bv32 1#32 from rfl, u32_and_bv]
  have h : a &&& 1#32 = if a.getLsbD 0 then 1#32 else 0#32 := by
    by_cases hb : a.getLsbD 0 = true
    · rw [if_pos hb]
      apply BitVec.eq_of_getLsbD_eq
      intro i hi
      by_cases h0 : i = 0
      · subst h0; rw [BitVec.getLsbD_and, hb]; rfl
      · simp [BitVec.getLsbD_one, h0]
    · rw [if_neg hb]
      apply BitVec.eq_of_getLsbD_eq
      intro i hi
      by_cases h0 : i = 0
      · subst h0; rw [BitVec.getLsbD_and, (Bool.not_eq_true _).mp hb]; rfl
      · simp [BitVec.getLsbD_one, h0]
  rw [h]
  split <;> rfl
/-- the k-th byte of a number -/
def byteOf (s : BitVec 32) (k : Nat) : UInt8 := UInt8.ofNat (s.toNat / 2 ^ (8 * k) % 256)
theorem u8_xor_nat' (x y : UInt8) : bits .xor .u8 (x.toNat : Int) (y.toNat : Int) = ((x ^^^ y).toNat : Int) := by
  rw [u8_xor_nat _ _ x.toNat_lt y.toNat_lt, UInt8.toNat_xor]
theorem byteOf_toNat (s : BitVec 32) (k : Nat) : ((byteOf s k).toNat : Int) = bv32 s / 2 ^ (8 * k) % 256 := by
  unfold byteOf bv32
  rw [UInt8.toNat_ofNat', Nat.mod_mod]
  show ((s.toNat / 2 ^ (8 * k) % 256 : Nat) : Int) = _
  rw [Int.natCast_emod, Int.natCast_ediv, Int.natCast_pow]
  rfl
theorem u8_xor_part (x : UInt8) (s : BitVec 32) (k : Nat) : bits .xor .u8 (x.toNat : Int) (bv32 s / 2 ^ (8 * k) % 256) = ((x ^^^ byteOf s k).toNat : Int) := by
  rw [← byteOf_toNat, u8_xor_nat']
theorem byteOf_zero (s : BitVec 32) : (byteOf s 0 = 0 ∧ byteOf s 1 = 0 ∧ byteOf s 2 = 0 ∧ byteOf s 3 = 0) ↔ s = 0#32 := by
  have hs := lt32 s
  have h : ∀ k, byteOf s k = 0 ↔ s.toNat / 2 ^ (8 * k) % 256 = 0 := by
    intro k
    unfold byteOf
    rw [← UInt8.toNat_inj, UInt8.toNat_ofNat', Nat.mod_mod]
    rfl
  rw [h, h, h, h, ← BitVec.toNat_inj]
  show (s.toNat / 1 % 256 = 0 ∧ s.toNat / 256 % 256 = 0 ∧ s.toNat / 65536 % 256 = 0 ∧ s.toNat / 16777216 % 256 = 0) ↔ s.toNat = 0
  omega
/-- 2 to the 64: a great numeral in sight of the walk costs its depth -/
def two64 : Nat := 18446744073709551616
theorem two64_eq : two64 = 18446744073709551616 := rfl
theorem u64_arg {a : Int} (h : (Lit.int .u64 a).wf = true) : ∃ v : Nat, a = (v : Int) ∧ v < two64 := by
  have : 0 ≤ a ∧ a ≤ 18446744073709551615 := by simpa [Lit.wf, IntKind.min, IntKind.max, IntKind.signed, IntKind.bits] using h
  exact ⟨a.toNat, by omega, by unfold two64; omega⟩
theorem wrap_u64n {n : Nat} (h : n < two64) : IntKind.u64.wrap (n : Int) = (n : Int) := IntWalk.u64_in _ (by unfold two64 at h; omega)
theorem byte_mod32 (x : UInt8) : (x.toNat : Int) % 4294967296 = (x.toNat : Int) := by have := x.toNat_lt; omega
theorem byte_mod64 (x : UInt8) : (x.toNat : Int) % 18446744073709551616 = (x.toNat : Int) := by have := x.toNat_lt; omega
end Go.Proofs.Ytohgkadbajmphaa
