/- Plain law: SHA-256 block by block from either end; the padding. No program in sight. -/
import Derived.Test.YtohgkadbajmphaaShaPlain
namespace Go.Proofs.Ytohgkadbajmphaa.ShaP
/-- the n-th block -/
def blk64 (b : Bs) (n : Nat) : Bs := (b.drop (64 * n)).take 64
theorem run_succ (v : V8) : ∀ (n : Nat) (b : Bs), run v (n + 1) b = compress (run v n b) (blk64 b n)
  | 0, b => by simp [run, blk64]
  | n + 1, b => by
    have ih := run_succ (compress v (b.take 64)) n (b.drop 64)
    rw [run, ih]
    simp only [run, blk64, List.drop_drop]
    rw [show 64 + 64 * n = 64 * (n + 1) by omega]
/-- only the first blocks count -/
theorem run_pre (v : V8) : ∀ (n : Nat) (b c : Bs), 64 * n ≤ b.length → run v n (b ++ c) = run v n b
  | 0, _, _, _ => rfl
  | n + 1, b, c, h => by
    rw [run, run, List.take_append_of_le_length (by omega), List.drop_append_of_le_length (by omega), run_pre _ n (b.drop 64) c (by simp; omega)]
theorem run_add (v : V8) : ∀ (m n : Nat) (b : Bs), run v (m + n) b = run (run v m b) n (b.drop (64 * m))
  | 0, n, b => by simp [run]
  | m + 1, n, b => by
    rw [show m + 1 + n = (m + n) + 1 by omega, run, run_add _ m n (b.drop 64), run, List.drop_drop, show 64 + 64 * m = 64 * (m + 1) by omega]
theorem pad_len (n : Nat) : (pad n).length = 9 + zeros n := by simp [pad, be8]; omega
theorem pad_whole (n : Nat) : (n + (pad n).length) % 64 = 0 := by rw [pad_len]; unfold zeros; omega
theorem blk64_len (b : Bs) (n : Nat) (h : 64 * (n + 1) ≤ b.length) : (blk64 b n).length = 64 := by simp [blk64]; omega
/-- the digest, as the program reckons it: the whole blocks of the bytes, then those of the rest with its padding -/
theorem digest_parts (b : Bs) : digest b = (run (run first (b.length / 64) b) ((b.drop (b.length / 64 * 64) ++ pad b.length).length / 64) (b.drop (b.length / 64 * 64) ++ pad b.length)).bytes := by
  unfold digest
  have e : (b.length + (pad b.length).length) / 64 = b.length / 64 + (b.drop (b.length / 64 * 64) ++ pad b.length).length / 64 := by
    have := pad_whole b.length
    simp
    omega
  rw [e, run_add, run_pre _ _ _ _ (by omega), List.drop_append_of_le_length (by omega), show 64 * (b.length / 64) = b.length / 64 * 64 by omega]
theorem bytes_at (v : V8) : ∀ k, k < 32 → v.bytes[k]? = some (byteAt (v.list.getD (k / 4) 0) (k % 4))
  | 0, _ => rfl
  | 1, _ => rfl
  | 2, _ => rfl
  | 3, _ => rfl
  | 4, _ => rfl
  | 5, _ => rfl
  | 6, _ => rfl
  | 7, _ => rfl
  | 8, _ => rfl
  | 9, _ => rfl
  | 10, _ => rfl
  | 11, _ => rfl
  | 12, _ => rfl
  | 13, _ => rfl
  | 14, _ => rfl
  | 15, _ => rfl
  | 16, _ => rfl
  | 17, _ => rfl
  | 18, _ => rfl
  | 19, _ => rfl
  | 20, _ => rfl
  | 21, _ => rfl
  | 22, _ => rfl
  | 23, _ => rfl
  | 24, _ => rfl
  | 25, _ => rfl
  | 26, _ => rfl
  | 27, _ => rfl
  | 28, _ => rfl
  | 29, _ => rfl
  | 30, _ => rfl
  | 31, _ => rfl
  | k + 32, h => by omega
theorem bytes_len (v : V8) : v.bytes.length = 32 := rfl
/-- the first k bytes laid, the others 0 -/
def laid (v : V8) (k : Nat) : Bs := v.bytes.take k ++ List.replicate (32 - k) 0
theorem laid_len (v : V8) (k : Nat) (h : k ≤ 32) : (laid v k).length = 32 := by unfold laid; rw [List.length_append, List.length_take, bytes_len, List.length_replicate]; omega
theorem laid_zero (v : V8) : laid v 0 = List.replicate 32 0 := rfl
theorem laid_all (v : V8) : laid v 32 = v.bytes := by
  unfold laid
  rw [List.take_of_length_le (by rw [bytes_len]; omega)]
  simp
theorem laid_set (v : V8) (k : Nat) (hk : k < 32) : (laid v k).set k (byteAt (v.list.getD (k / 4) 0) (k % 4)) = laid v (k + 1) := by
  have h1 := bytes_at v k hk
  obtain ⟨h2, h3⟩ := List.getElem?_eq_some_iff.1 h1
  unfold laid
  rw [List.set_append_right _ _ (by rw [List.length_take, bytes_len]; omega), List.length_take, bytes_len, show k - min k 32 = 0 by omega, show 32 - k = (32 - (k + 1)) + 1 by omega, List.replicate_succ, List.set_cons_zero, List.take_succ_eq_append_getElem h2, h3, List.append_assoc]
  rfl
theorem digest_len (b : Bs) : (digest b).length = 32 := rfl
end Go.Proofs.Ytohgkadbajmphaa.ShaP
