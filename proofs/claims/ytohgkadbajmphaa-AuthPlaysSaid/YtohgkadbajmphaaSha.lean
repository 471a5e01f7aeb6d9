/- The walks of sha.turn and math/bits.RotateLeft32. -/
import Derived.Test.YtohgkadbajmphaaSl
import Derived.Test.YtohgkadbajmphaaShaP
namespace Go.Proofs.Ytohgkadbajmphaa
open Go.RowKit
set_option linter.unusedVariables false
theorem neg_and (m : Nat) (h0 : 0 < m) (h1 : m < 32) : bits .and .u64 (IntKind.u64.wrap (-(m : Int))) 31 = ((32 - m : Nat) : Int) := by
  have e : IntKind.u64.wrap (-(m : Int)) = ((18446744073709551616 - m : Nat) : Int) := by
    rw [IntKind.wrap_u64]
    omega
  rw [e, show (31 : Int) = ((31 : Nat) : Int) from rfl, u64_and_nat _ _ (by omega) (by omega), show 31 = 2 ^ 5 - 1 from rfl, Nat.and_two_pow_sub_one_eq_mod]
  congr 1
  omega
theorem u32_shl_bv (x : BitVec 32) (k : Nat) : bv32 x * 2 ^ k % 4294967296 = bv32 (x <<< k) := by
  unfold bv32
  rw [BitVec.toNat_shiftLeft, Nat.shiftLeft_eq, Int.natCast_emod, Int.natCast_mul, Int.natCast_pow]
  rfl
theorem u32_add_bv (x y : BitVec 32) : (bv32 x + bv32 y) % 4294967296 = bv32 (x + y) := by
  unfold bv32
  rw [BitVec.toNat_add, Int.natCast_emod, Int.natCast_add]
  rfl
theorem u32_wadd_bv (x y : BitVec 32) : IntKind.u32.wrap (bv32 x + bv32 y) = bv32 (x + y) := by
  rw [← u32_add_bv]
  simp [IntKind.wrap, IntKind.bits, IntKind.signed]
theorem rot_left (x : BitVec 32) (m : Nat) (h0 : 0 < m) (h1 : m < 32) (w : World) :
    Calls Try.prog 81 #[.int .u32 (bv32 x), .int .i64 (-(m : Int))] w fun e w' => e = .returned (.int .u32 (bv32 (ShaP.rotr x m))) ∧ w = w' := by
  have hand := neg_and m h0 h1
  have hfin : bits .or .u32 (bv32 x * 2 ^ (32 - m) % 4294967296) (bv32 x / 2 ^ (32 - (32 - m))) = bv32 (ShaP.rotr x m) := by
    rw [u32_shl_bv, u32_div_bv, u32_or_bv, show 32 - (32 - m) = m by omega]
    rfl
  have HF := Lib.hid hfin
  clear hfin
  go_enter Try.func81, Try.ntmps81
  go_wp2_with fail
  go_ret
  exact ⟨by rw [← HF.out]; rfl, rfl⟩
theorem sha_turn (x : BitVec 32) (m : Nat) (h0 : 0 < m) (h1 : m < 32) (w : World) :
    Calls Try.prog 60 #[.int .u32 (bv32 x), .int .i64 (m : Int)] w fun e w' => e = .returned (.int .u32 (bv32 (ShaP.rotr x m))) ∧ w = w' := by
  have H := Lib.hid (rot_left x m h0 h1 w)
  go_enter Try.func60, Try.ntmps60
  go_wp2_with fail
  refine H.out.mono ?_
  rintro e w' ⟨rfl, rfl⟩
  go_wp2_with fail
  go_ret
  exact ⟨rfl, rfl⟩
theorem ref_turn (x : BitVec 32) (m : Nat) (h0 : 0 < m) (h1 : m < 32) (w : World) :
    Calls Try.prog 63 #[.int .u32 (bv32 x), .int .u64 (m : Int)] w fun e w' => e = .returned (.int .u32 (bv32 (ShaP.rotr x m))) ∧ w = w' := by
  have hfin : bits .or .u32 (bv32 x / 2 ^ m) (bv32 x * 2 ^ (32 - m) % 4294967296) = bv32 (ShaP.rotr x m) := by
    rw [u32_shl_bv, u32_div_bv, u32_or_bv, BitVec.or_comm]
    rfl
  have HF := Lib.hid hfin
  clear hfin
  go_enter Try.func63, Try.ntmps63
  go_wp2_with fail
  go_ret
  exact ⟨by rw [← HF.out]; rfl, rfl⟩
end Go.Proofs.Ytohgkadbajmphaa
