/- Plain law: SHA-256 over lists of bytes. No program in sight. -/
import Derived.WalkKit
namespace Go.Proofs.Ytohgkadbajmphaa.ShaP
abbrev W := BitVec 32
abbrev Bs := List UInt8
def K : List W := [
  0x428a2f98#32, 0x71374491#32, 0xb5c0fbcf#32, 0xe9b5dba5#32, 0x3956c25b#32, 0x59f111f1#32, 0x923f82a4#32, 0xab1c5ed5#32,
  0xd807aa98#32, 0x12835b01#32, 0x243185be#32, 0x550c7dc3#32, 0x72be5d74#32, 0x80deb1fe#32, 0x9bdc06a7#32, 0xc19bf174#32,
  0xe49b69c1#32, 0xefbe4786#32, 0x0fc19dc6#32, 0x240ca1cc#32, 0x2de92c6f#32, 0x4a7484aa#32, 0x5cb0a9dc#32, 0x76f988da#32,
  0x983e5152#32, 0xa831c66d#32, 0xb00327c8#32, 0xbf597fc7#32, 0xc6e00bf3#32, 0xd5a79147#32, 0x06ca6351#32, 0x14292967#32,
  0x27b70a85#32, 0x2e1b2138#32, 0x4d2c6dfc#32, 0x53380d13#32, 0x650a7354#32, 0x766a0abb#32, 0x81c2c92e#32, 0x92722c85#32,
  0xa2bfe8a1#32, 0xa81a664b#32, 0xc24b8b70#32, 0xc76c51a3#32, 0xd192e819#32, 0xd6990624#32, 0xf40e3585#32, 0x106aa070#32,
  0x19a4c116#32, 0x1e376c08#32, 0x2748774c#32, 0x34b0bcb5#32, 0x391c0cb3#32, 0x4ed8aa4a#32, 0x5b9cca4f#32, 0x682e6ff3#32,
  0x748f82ee#32, 0x78a5636f#32, 0x84c87814#32, 0x8cc70208#32, 0x90befffa#32, 0xa4506ceb#32, 0xbef9a3f7#32, 0xc67178f2#32]
def H0 : List W := [0x6a09e667#32, 0xbb67ae85#32, 0x3c6ef372#32, 0xa54ff53a#32, 0x510e527f#32, 0x9b05688c#32, 0x1f83d9ab#32, 0x5be0cd19#32]
def rotr (x : W) (n : Nat) : W := (x <<< (32 - n)) ||| (x >>> n)
def s0 (x : W) : W := rotr x 7 ^^^ rotr x 18 ^^^ (x >>> 3)
def s1 (x : W) : W := rotr x 17 ^^^ rotr x 19 ^^^ (x >>> 10)
def S0 (a : W) : W := rotr a 2 ^^^ rotr a 13 ^^^ rotr a 22
def S1 (e : W) : W := rotr e 6 ^^^ rotr e 11 ^^^ rotr e 25
def ch (e f g : W) : W := (e &&& f) ^^^ (~~~ e &&& g)
def maj (a b c : W) : W := (a &&& b) ^^^ (a &&& c) ^^^ (b &&& c)
/-- the word of four bytes, the greatest first -/
def be4 (a b c d : UInt8) : W := BitVec.ofNat 32 (16777216 * a.toNat + 65536 * b.toNat + 256 * c.toNat + d.toNat)
theorem be4_toNat (a b c d : UInt8) : (be4 a b c d).toNat = 16777216 * a.toNat + 65536 * b.toNat + 256 * c.toNat + d.toNat := by
  have := a.toNat_lt; have := b.toNat_lt; have := c.toNat_lt; have := d.toNat_lt
  unfold be4
  rw [BitVec.toNat_ofNat, Nat.mod_eq_of_lt (by omega)]
def wordAt (b : Bs) (i : Nat) : W := be4 (b.getD (4 * i) 0) (b.getD (4 * i + 1) 0) (b.getD (4 * i + 2) 0) (b.getD (4 * i + 3) 0)
/-- the next word of the schedule behind those of l -/
def next (l : List W) : W := l.getD (l.length - 16) 0 + s0 (l.getD (l.length - 15) 0) + l.getD (l.length - 7) 0 + s1 (l.getD (l.length - 2) 0)
def ext : Nat → List W → List W
  | 0, l => l
  | n + 1, l => ext n (l ++ [next l])
/-- the first words, and n more -/
def more (b : Bs) (n : Nat) : List W := ext n ((List.range 16).map (wordAt b))
def sched (b : Bs) : List W := more b 48
theorem ext_succ : ∀ (n : Nat) (l : List W), ext (n + 1) l = ext n l ++ [next (ext n l)]
  | 0, _ => rfl
  | n + 1, l => by rw [ext, ext_succ n]; rfl
theorem ext_len : ∀ (n : Nat) (l : List W), (ext n l).length = l.length + n
  | 0, _ => rfl
  | n + 1, l => by rw [ext, ext_len n]; simp; omega
theorem more_len (b : Bs) (n : Nat) : (more b n).length = 16 + n := by unfold more; rw [ext_len]; simp
theorem more_succ (b : Bs) (n : Nat) : more b (n + 1) = more b n ++ [next (more b n)] := ext_succ n _
/-- the words of the schedule, one by one -/
def sw (b : Bs) (i : Nat) : W := (sched b).getD i 0
theorem more_pre (b : Bs) : ∀ (m n i : Nat), i < 16 + n → (more b (n + m)).getD i 0 = (more b n).getD i 0
  | 0, _, _, _ => rfl
  | m + 1, n, i, h => by
    rw [← Nat.add_assoc, more_succ, ← more_pre b m n i h]
    simp only [List.getD_eq_getElem?_getD]
    rw [List.getElem?_append_left (by rw [more_len]; omega)]
theorem sw_first (b : Bs) (i : Nat) (h : i < 16) : sw b i = wordAt b i := by
  unfold sw sched
  rw [show 48 = 0 + 48 from rfl, more_pre b 48 0 i (by omega)]
  unfold more ext
  simp [List.getD_eq_getElem?_getD, h]
theorem sw_next (b : Bs) (i : Nat) (h : 16 ≤ i) (h2 : i < 64) : sw b i = sw b (i - 16) + s0 (sw b (i - 15)) + sw b (i - 7) + s1 (sw b (i - 2)) := by
  have e : ∀ j, j < i → sw b j = (more b (i - 16)).getD j 0 := fun j hj => by
    have := more_pre b (48 - (i - 16)) (i - 16) j (by omega)
    rw [show i - 16 + (48 - (i - 16)) = 48 from by omega] at this
    exact this
  have e2 : sw b i = next (more b (i - 16)) := by
    have := more_pre b (48 - (i - 15)) (i - 15) i (by omega)
    rw [show i - 15 + (48 - (i - 15)) = 48 from by omega] at this
    unfold sw sched
    rw [this, show i - 15 = (i - 16) + 1 from by omega, more_succ, List.getD_eq_getElem?_getD, List.getElem?_append_right (by rw [more_len]; omega), more_len, show i - (16 + (i - 16)) = 0 from by omega]
    rfl
  rw [e2, e (i - 16) (by omega), e (i - 15) (by omega), e (i - 7) (by omega), e (i - 2) (by omega)]
  unfold next
  rw [more_len, show 16 + (i - 16) = i from by omega]
structure V8 where
  a : W
  b : W
  c : W
  d : W
  e : W
  f : W
  g : W
  h : W
def V8.list (v : V8) : List W := [v.a, v.b, v.c, v.d, v.e, v.f, v.g, v.h]
def t1 (v : V8) (k w : W) : W := v.h + S1 v.e + ch v.e v.f v.g + k + w
def t2 (v : V8) : W := S0 v.a + maj v.a v.b v.c
def round (v : V8) (k w : W) : V8 := ⟨t1 v k w + t2 v, v.a, v.b, v.c, v.d + t1 v k w, v.e, v.f, v.g⟩
def rounds (v : V8) : List (W × W) → V8
  | [] => v
  | (k, w) :: r => rounds (round v k w) r
theorem rounds_snoc (v : V8) : ∀ (l : List (W × W)) (k w : W), rounds v (l ++ [(k, w)]) = round (rounds v l) k w
  | [], _, _ => rfl
  | (k', w') :: l, k, w => by rw [List.cons_append, rounds, rounds, rounds_snoc (round v k' w') l k w]
def pairs (b : Bs) : List (W × W) := K.zip (sched b)
/-- behind so many rounds -/
def upto (v : V8) (b : Bs) (n : Nat) : V8 := rounds v ((pairs b).take n)
theorem upto_zero (v : V8) (b : Bs) : upto v b 0 = v := rfl
theorem sched_len (b : Bs) : (sched b).length = 64 := more_len b 48
theorem zip_at {α β : Type} (l : List α) (m : List β) (n : Nat) (a : α) (b : β) (h1 : l[n]? = some a) (h2 : m[n]? = some b) : (l.zip m)[n]? = some (a, b) := by
  rw [List.getElem?_zip_eq_some]
  exact ⟨h1, h2⟩
theorem getD_some {α : Type} (l : List α) (n : Nat) (d : α) (h : n < l.length) : l[n]? = some (l.getD n d) := by
  rw [List.getD_eq_getElem?_getD, List.getElem?_eq_getElem h, Option.getD_some]
theorem K_len : K.length = 64 := rfl
theorem pairs_at (b : Bs) (n : Nat) (h : n < 64) : (pairs b)[n]? = some (K.getD n 0, sw b n) := by
  unfold pairs sw
  exact zip_at _ _ _ _ _ (getD_some K n 0 (by rw [K_len]; exact h)) (getD_some (sched b) n 0 (by rw [sched_len]; exact h))
theorem upto_succ (v : V8) (b : Bs) (n : Nat) (h : n < 64) : upto v b (n + 1) = round (upto v b n) (K.getD n 0) (sw b n) := by
  have h1 := pairs_at b n h
  obtain ⟨h2, h3⟩ := List.getElem?_eq_some_iff.1 h1
  unfold upto
  rw [List.take_succ_eq_append_getElem h2, h3, rounds_snoc]
def V8.add (v u : V8) : V8 := ⟨v.a + u.a, v.b + u.b, v.c + u.c, v.d + u.d, v.e + u.e, v.f + u.f, v.g + u.g, v.h + u.h⟩
def compress (v : V8) (b : Bs) : V8 := v.add (upto v b 64)
def first : V8 := ⟨0x6a09e667#32, 0xbb67ae85#32, 0x3c6ef372#32, 0xa54ff53a#32, 0x510e527f#32, 0x9b05688c#32, 0x1f83d9ab#32, 0x5be0cd19#32⟩
/-- block by block -/
def run (v : V8) : Nat → Bs → V8
  | 0, _ => v
  | n + 1, b => run (compress v (b.take 64)) n (b.drop 64)
def be8 (n : Nat) : Bs := (List.range 8).map fun i => UInt8.ofNat (n / 2 ^ (56 - 8 * i))
def zeros (n : Nat) : Nat := (119 - n % 64) % 64
def pad (n : Nat) : Bs := 128 :: (List.replicate (zeros n) 0 ++ be8 (8 * n))
def byteAt (x : W) (k : Nat) : UInt8 := UInt8.ofNat (x.toNat / 2 ^ (24 - 8 * k))
def V8.bytes (v : V8) : Bs := v.list.flatMap fun x => [byteAt x 0, byteAt x 1, byteAt x 2, byteAt x 3]
def digest (b : Bs) : Bs := (run first ((b.length + (pad b.length).length) / 64) (b ++ pad b.length)).bytes
end Go.Proofs.Ytohgkadbajmphaa.ShaP
namespace Go.Proofs.Ytohgkadbajmphaa.ShaP
/-- the n-th block -/
def blk64 (b : Bs) (n : Nat) : Bs := (b.drop (64 * n)).take 64
theorem run_succ (v : V8) : ∀ (n : Nat) (b : Bs), run v (n + 1) b = compress (run v n b) (blk64 b n)
  | 0, b => by simp [run, blk64]
  | n + 1, b => by
    have ih := run_succ (compress v (b.take 64)) n (b.drop 64)
    rw [run, ih]
    simp only [run, blk64, List.drop_drop]
    rw [show 64 + 64 * n = 64 * (n + 1) by omega]
/-- only the first blocks count -/
theorem run_pre (v : V8) : ∀ (n : Nat) (b c : Bs), 64 * n ≤ b.length → run v n (b ++ c) = run v n b
  | 0, _, _, _ => rfl
  | n + 1, b, c, h => by
    rw [run, run, List.take_append_of_le_length (by omega), List.drop_append_of_le_length (by omega), run_pre _ n (b.drop 64) c (by simp; omega)]
theorem run_add (v : V8) : ∀ (m n : Nat) (b : Bs), run v (m + n) b = run (run v m b) n (b.drop (64 * m))
  | 0, n, b => by simp [run]
  | m + 1, n, b => by
    rw [show m + 1 + n = (m + n) + 1 by omega, run, run_add _ m n (b.drop 64), run, List.drop_drop, show 64 + 64 * m = 64 * (m + 1) by omega]
theorem pad_len (n : Nat) : (pad n).length = 9 + zeros n := by simp [pad, be8]; omega
theorem pad_whole (n : Nat) : (n + (pad n).length) % 64 = 0 := by rw [pad_len]; unfold zeros; omega
theorem blk64_len (b : Bs) (n : Nat) (h : 64 * (n + 1) ≤ b.length) : (blk64 b n).length = 64 := by simp [blk64]; omega
/-- the digest, as the program reckons it: the whole blocks of the bytes, then those of the rest with its padding -/
theorem digest_parts (b : Bs) : digest b = (run (run first (b.length / 64) b) ((b.drop (b.length / 64 * 64) ++ pad b.length).length / 64) (b.drop (b.length / 64 * 64) ++ pad b.length)).bytes := by
  unfold digest
  have e : (b.length + (pad b.length).length) / 64 = b.length / 64 + (b.drop (b.length / 64 * 64) ++ pad b.length).length / 64 := by
    have := pad_whole b.length
    simp
    omega
  rw [e, run_add, run_pre _ _ _ _ (by omega), List.drop_append_of_le_length (by omega), show 64 * (b.length / 64) = b.length / 64 * 64 by omega]
theorem bytes_at (v : V8) : ∀ k, k < 32 → v.bytes[k]? = some (byteAt (v.list.getD (k / 4) 0) (k % 4))
  | 0, _ => rfl
  | 1, _ => rfl
  | 2, _ => rfl
  | 3, _ => rfl
  | 4, _ => rfl
  | 5, _ => rfl
  | 6, _ => rfl
  | 7, _ => rfl
  | 8, _ => rfl
  | 9, _ => rfl
  | 10, _ => rfl
  | 11, _ => rfl
  | 12, _ => rfl
  | 13, _ => rfl
  | 14, _ => rfl
  | 15, _ => rfl
  | 16, _ => rfl
  | 17, _ => rfl
  | 18, _ => rfl
  | 19, _ => rfl
  | 20, _ => rfl
  | 21, _ => rfl
  | 22, _ => rfl
  | 23, _ => rfl
  | 24, _ => rfl
  | 25, _ => rfl
  | 26, _ => rfl
  | 27, _ => rfl
  | 28, _ => rfl
  | 29, _ => rfl
  | 30, _ => rfl
  | 31, _ => rfl
  | k + 32, h => by omega
theorem bytes_len (v : V8) : v.bytes.length = 32 := rfl
/-- the first k bytes laid, the others 0 -/
def laid (v : V8) (k : Nat) : Bs := v.bytes.take k ++ List.replicate (32 - k) 0
theorem laid_len (v : V8) (k : Nat) (h : k ≤ 32) : (laid v k).length = 32 := by unfold laid; rw [List.length_append, List.length_take, bytes_len, List.length_replicate]; omega
theorem laid_zero (v : V8) : laid v 0 = List.replicate 32 0 := rfl
theorem laid_all (v : V8) : laid v 32 = v.bytes := by
  unfold laid
  rw [List.take_of_length_le (by rw [bytes_len]; omega)]
  simp
theorem laid_set (v : V8) (k : Nat) (hk : k < 32) : (laid v k).set k (byteAt (v.list.getD (k / 4) 0) (k % 4)) = laid v (k + 1) := by
  have h1 := bytes_at v k hk
  obtain ⟨h2, h3⟩ := List.getElem?_eq_some_iff.1 h1
  unfold laid
  rw [List.set_append_right _ _ (by rw [List.length_take, bytes_len]; omega), List.length_take, bytes_len, show k - min k 32 = 0 by omega, show 32 - k = (32 - (k + 1)) + 1 by omega, List.replicate_succ, List.set_cons_zero, List.take_succ_eq_append_getElem h2, h3, List.append_assoc]
  rfl
theorem digest_len (b : Bs) : (digest b).length = 32 := rfl
end Go.Proofs.Ytohgkadbajmphaa.ShaP
namespace Go.Proofs.Ytohgkadbajmphaa.ShaP
set_option linter.unusedVariables false
def keyOf (key : Bs) : Bs := if key.length > 64 then digest key else key
def key64 (key : Bs) : Bs := keyOf key ++ List.replicate (64 - (keyOf key).length) 0
def mac (key b : Bs) : Bs := digest ((key64 key).map (· ^^^ 0x5c) ++ digest ((key64 key).map (· ^^^ 0x36) ++ b))
theorem keyOf_len (key : Bs) : (keyOf key).length ≤ 64 := by
  unfold keyOf
  split
  · rw [digest_len]; omega
  · omega
theorem key64_len (key : Bs) : (key64 key).length = 64 := by
  have := keyOf_len key
  unfold key64
  simp
  omega
/-- the first k bytes xored, the others 0 -/
def padded (L : Bs) (x : UInt8) (k : Nat) : Bs := (L.map (· ^^^ x)).take k ++ List.replicate (64 - k) 0
theorem padded_len (L : Bs) (x : UInt8) (k : Nat) (h : L.length = 64) (hk : k ≤ 64) : (padded L x k).length = 64 := by unfold padded; simp [h]; omega
theorem padded_all (L : Bs) (x : UInt8) (h : L.length = 64) : padded L x 64 = L.map (· ^^^ x) := by
  unfold padded
  rw [List.take_of_length_le (by simp [h])]
  simp
theorem padded_set (L : Bs) (x : UInt8) (k : Nat) (h : L.length = 64) (hk : k < 64) : (padded L x k).set k (L[k] ^^^ x) = padded L x (k + 1) := by
  have h2 : k < (L.map (· ^^^ x)).length := by simp [h, hk]
  unfold padded
  rw [List.set_append_right _ _ (by rw [List.length_take]; omega), List.length_take, show k - min k (L.map (· ^^^ x)).length = 0 by omega, show 64 - k = (64 - (k + 1)) + 1 by omega, List.replicate_succ, List.set_cons_zero, List.take_succ_eq_append_getElem h2, List.append_assoc]
  simp
theorem mac_len (key b : Bs) : (mac key b).length = 32 := digest_len _
def hexd (n : Nat) : UInt8 := UInt8.ofNat (if n < 10 then 48 + n else 87 + n)
def hex (l : Bs) : Bs := l.flatMap fun x => [hexd (x.toNat / 16), hexd (x.toNat % 16)]
theorem hex_snoc (l : Bs) (x : UInt8) : hex (l ++ [x]) = hex l ++ [hexd (x.toNat / 16), hexd (x.toNat % 16)] := by simp [hex]
theorem hex_len : ∀ l : Bs, (hex l).length = 2 * l.length
  | [] => rfl
  | x :: r => by
    have := hex_len r
    unfold hex at *
    rw [List.flatMap_cons, List.length_append, this]
    simp; omega
/-- a digit's number; 255: none -/
def dig (c : UInt8) : UInt8 := if 48 ≤ c.toNat ∧ c.toNat ≤ 57 then UInt8.ofNat (c.toNat - 48) else if 97 ≤ c.toNat ∧ c.toNat ≤ 102 then UInt8.ofNat (c.toNat - 87) else 255
def isd (c : UInt8) : Bool := decide ((48 ≤ c.toNat ∧ c.toNat ≤ 57) ∨ (97 ≤ c.toNat ∧ c.toNat ≤ 102))
/-- the bytes of digits -/
def unhex : Bs → Bs
  | x :: y :: r => UInt8.ofNat (16 * (dig x).toNat + (dig y).toNat) :: unhex r
  | _ => []
def readv (s : Bs) : Option Bs := if s.length = 64 ∧ s.all isd = true then some (unhex s) else none
theorem unhex_len : ∀ l : Bs, (unhex l).length = l.length / 2
  | [] => rfl
  | [_] => by simp [unhex]
  | x :: y :: r => by
    have := unhex_len r
    simp only [unhex, List.length_cons]
    omega
theorem unhex_at : ∀ (l : Bs) (k : Nat) (x y : UInt8), l[2 * k]? = some x → l[2 * k + 1]? = some y → (unhex l)[k]? = some (UInt8.ofNat (16 * (dig x).toNat + (dig y).toNat))
  | [], k, x, y, h, _ => by simp at h
  | [a], 0, x, y, _, h2 => by simp at h2
  | [a], k + 1, x, y, h, _ => by simp at h
  | a :: b :: r, 0, x, y, h1, h2 => by
    simp at h1 h2
    subst h1 h2
    simp [unhex]
  | a :: b :: r, k + 1, x, y, h1, h2 => by
    have e1 : (a :: b :: r)[2 * (k + 1)]? = r[2 * k]? := by rw [show 2 * (k + 1) = 2 * k + 1 + 1 by omega]; simp
    have e2 : (a :: b :: r)[2 * (k + 1) + 1]? = r[2 * k + 1]? := by rw [show 2 * (k + 1) + 1 = 2 * k + 1 + 1 + 1 by omega]; simp
    rw [e1] at h1
    rw [e2] at h2
    have := unhex_at r k x y h1 h2
    simp only [unhex, List.getElem?_cons_succ]
    exact this
theorem dig_good (x : UInt8) (h : isd x = true) : (dig x).toNat ≤ 15 := by
  have h := of_decide_eq_true h
  have hx := x.toNat_lt
  unfold dig
  split
  · rw [UInt8.toNat_ofNat']; omega
  · split
    · rw [UInt8.toNat_ofNat']; omega
    · omega
theorem dig_bad (x : UInt8) (h : isd x = false) : (dig x).toNat = 255 := by
  have h := of_decide_eq_false h
  unfold dig
  rw [if_neg (by omega), if_neg (by omega)]
  rfl
/-- what reading digits answers -/
def readD (s : Bs) : Bs := if s.length = 64 ∧ s.all isd = true then unhex s else List.replicate 32 0
def readE (s : Bs) : Int := if s.length = 64 ∧ s.all isd = true then 0 else 14
theorem readD_len (s : Bs) : (readD s).length = 32 := by
  unfold readD
  split
  · rename_i h; rw [unhex_len, h.1]
  · simp
/-- the first k bytes read, the others 0 -/
def laidU (s : Bs) (k : Nat) : Bs := (unhex s).take k ++ List.replicate (32 - k) 0
theorem laidU_len (s : Bs) (k : Nat) (h : s.length = 64) (hk : k ≤ 32) : (laidU s k).length = 32 := by unfold laidU; simp [unhex_len, h]; omega
theorem laidU_all (s : Bs) (h : s.length = 64) : laidU s 32 = unhex s := by
  unfold laidU
  rw [List.take_of_length_le (by rw [unhex_len, h]; omega)]
  simp
theorem laidU_set (s : Bs) (k : Nat) (x y : UInt8) (h : s.length = 64) (hk : k < 32) (h1 : s[2 * k]? = some x) (h2 : s[2 * k + 1]? = some y) : (laidU s k).set k (UInt8.ofNat (16 * (dig x).toNat + (dig y).toNat)) = laidU s (k + 1) := by
  obtain ⟨h3, h4⟩ := List.getElem?_eq_some_iff.1 (unhex_at s k x y h1 h2)
  unfold laidU
  rw [List.set_append_right _ _ (by rw [List.length_take]; omega), List.length_take, show k - min k (unhex s).length = 0 by omega, show 32 - k = (32 - (k + 1)) + 1 by omega, List.replicate_succ, List.set_cons_zero, List.take_succ_eq_append_getElem h3, h4, List.append_assoc]
  rfl
theorem all_take_two (s : Bs) (k : Nat) (x y : UInt8) (h1 : s[2 * k]? = some x) (h2 : s[2 * k + 1]? = some y) (ha : (s.take (2 * k)).all isd = true) (hx : isd x = true) (hy : isd y = true) : (s.take (2 * (k + 1))).all isd = true := by
  obtain ⟨h3, h4⟩ := List.getElem?_eq_some_iff.1 h1
  obtain ⟨h5, h6⟩ := List.getElem?_eq_some_iff.1 h2
  rw [show 2 * (k + 1) = 2 * k + 1 + 1 by omega, List.take_succ_eq_append_getElem h5, List.take_succ_eq_append_getElem h3, h4, h6]
  simp only [List.all_append, ha, List.all_cons, hx, hy, List.all_nil, Bool.and_self]
theorem not_all (s : Bs) (j : Nat) (x : UInt8) (h : s[j]? = some x) (hx : isd x = false) : ¬ s.all isd = true := fun ha => by
  have := List.all_eq_true.1 ha x (List.mem_of_getElem? h)
  rw [hx] at this
  cases this
/-- all differences, or-ed -/
def acc : Bs → Bs → UInt8
  | x :: l, y :: m => (x ^^^ y) ||| acc l m
  | _, _ => 0
theorem u8_or_zero (a b : UInt8) : a ||| b = 0 ↔ a = 0 ∧ b = 0 := by
  constructor
  · intro h
    rw [← UInt8.toNat_inj, UInt8.toNat_or] at h
    have h0 : (0 : UInt8).toNat = 0 := rfl
    rw [h0] at h
    have := Nat.or_eq_zero_iff.1 h
    exact ⟨UInt8.toNat_inj.1 this.1, UInt8.toNat_inj.1 this.2⟩
  · rintro ⟨rfl, rfl⟩; rfl
theorem u8_xor_zero (a b : UInt8) : a ^^^ b = 0 ↔ a = b := by
  rw [← UInt8.toNat_inj, UInt8.toNat_xor, ← UInt8.toNat_inj]
  have h0 : (0 : UInt8).toNat = 0 := rfl
  rw [h0]
  constructor
  · intro h
    apply Nat.eq_of_testBit_eq
    intro i
    have := congrArg (fun z => Nat.testBit z i) h
    simp only [Nat.testBit_xor, Nat.zero_testBit] at this
    revert this
    cases Nat.testBit a.toNat i <;> cases Nat.testBit b.toNat i <;> simp
  · intro h; rw [h]; exact Nat.xor_self _
theorem acc_zero : ∀ (l m : Bs), l.length = m.length → (acc l m = 0 ↔ l = m)
  | [], [], _ => by simp [acc]
  | [], _ :: _, h => by simp at h
  | _ :: _, [], h => by simp at h
  | x :: l, y :: m, h => by
    have ih := acc_zero l m (by simpa using h)
    rw [acc, u8_or_zero, u8_xor_zero, ih, List.cons.injEq]
theorem acc_snoc : ∀ (l m : Bs) (x y : UInt8), l.length = m.length → acc (l ++ [x]) (m ++ [y]) = acc l m ||| (x ^^^ y)
  | [], [], x, y, _ => by
    show (x ^^^ y) ||| 0 = 0 ||| (x ^^^ y)
    rw [UInt8.or_comm]
  | [], _ :: _, _, _, h => by simp at h
  | _ :: _, [], _, _, h => by simp at h
  | a :: l, b :: m, x, y, h => by
    simp only [List.cons_append, acc]
    rw [acc_snoc l m x y (by simpa using h), UInt8.or_assoc]
end Go.Proofs.Ytohgkadbajmphaa.ShaP
namespace Go.Proofs.Ytohgkadbajmphaa.ShaP
theorem hexd_isd : ∀ n, n < 16 → isd (hexd n) = true ∧ (dig (hexd n)).toNat = n := by decide +kernel
theorem hex_all : ∀ l : Bs, (hex l).all isd = true
  | [] => rfl
  | x :: r => by
    have ih := hex_all r
    have hx := x.toNat_lt
    unfold hex at *
    rw [List.flatMap_cons, List.all_append, ih]
    have h1 := (hexd_isd (x.toNat / 16) (by omega)).1
    have h2 := (hexd_isd (x.toNat % 16) (by omega)).1
    simp [h1, h2]
theorem unhex_hex : ∀ l : Bs, unhex (hex l) = l
  | [] => rfl
  | x :: r => by
    have ih := unhex_hex r
    have hx := x.toNat_lt
    have e : hex (x :: r) = hexd (x.toNat / 16) :: hexd (x.toNat % 16) :: hex r := by unfold hex; rw [List.flatMap_cons]; rfl
    rw [e, unhex, ih, (hexd_isd (x.toNat / 16) (by omega)).2, (hexd_isd (x.toNat % 16) (by omega)).2]
    congr 1
    rw [show 16 * (x.toNat / 16) + x.toNat % 16 = x.toNat by omega]
    exact UInt8.ofNat_toNat
theorem read_hex (l : Bs) (h : l.length = 32) : readD (hex l) = l ∧ readE (hex l) = 0 := by
  have h1 : (hex l).length = 64 ∧ (hex l).all isd = true := ⟨by rw [hex_len, h], hex_all l⟩
  unfold readD readE
  rw [if_pos h1, if_pos h1, unhex_hex]
  exact ⟨rfl, rfl⟩
theorem hexd_dig (c : UInt8) (h : isd c = true) : hexd (dig c).toNat = c := by
  have h := of_decide_eq_true h
  have hc := c.toNat_lt
  unfold dig
  split
  · rename_i h1
    rw [UInt8.toNat_ofNat', Nat.mod_eq_of_lt (by omega)]
    unfold hexd
    rw [if_pos (by omega), show 48 + (c.toNat - 48) = c.toNat by omega]
    exact UInt8.ofNat_toNat
  · split
    · rename_i h1 h2
      rw [UInt8.toNat_ofNat', Nat.mod_eq_of_lt (by omega)]
      unfold hexd
      rw [if_neg (by omega), show 87 + (c.toNat - 87) = c.toNat by omega]
      exact UInt8.ofNat_toNat
    · omega
theorem hex_unhex : ∀ s : Bs, s.length % 2 = 0 → s.all isd = true → hex (unhex s) = s
  | [], _, _ => rfl
  | [_], h, _ => by simp at h
  | x :: y :: r, h, ha => by
    simp only [List.all_cons, Bool.and_eq_true] at ha
    have ih := hex_unhex r (by simp at h; omega) ha.2.2
    have dx := dig_good x ha.1
    have dy := dig_good y ha.2.1
    rw [unhex]
    have e : ∀ z l, hex (z :: l) = hexd (z.toNat / 16) :: hexd (z.toNat % 16) :: hex l := fun z l => by unfold hex; rw [List.flatMap_cons]; rfl
    rw [e, ih, UInt8.toNat_ofNat', Nat.mod_eq_of_lt (show 16 * (dig x).toNat + (dig y).toNat < 2 ^ 8 by omega), show (16 * (dig x).toNat + (dig y).toNat) / 16 = (dig x).toNat by omega, show (16 * (dig x).toNat + (dig y).toNat) % 16 = (dig y).toNat by omega, hexd_dig x ha.1, hexd_dig y ha.2.1]
/-- a long key is as its digest -/
theorem mac_long (key b : Bs) (h : 64 < key.length) : mac (digest key) b = mac key b := by
  have e : key64 (digest key) = key64 key := by
    unfold key64 keyOf
    rw [if_pos h, if_neg (by rw [digest_len]; omega)]
  unfold mac
  rw [e]
/-- bytes 0 behind a short key tell nothing -/
theorem mac_zeros (key b : Bs) (j : Nat) (h : key.length + j ≤ 64) : mac (key ++ List.replicate j 0) b = mac key b := by
  have e : key64 (key ++ List.replicate j 0) = key64 key := by
    unfold key64 keyOf
    rw [if_neg (by simp; omega), if_neg (by omega), List.append_assoc, List.replicate_append_replicate]
    congr 2
    simp
    omega
  unfold mac
  rw [e]
end Go.Proofs.Ytohgkadbajmphaa.ShaP
