/- Plain law: SHA-256 over lists of bytes. No program in sight. -/
import Derived.WalkKit
namespace Go.Proofs.Ytohgkadbajmphaa.ShaP
abbrev W := BitVec 32
abbrev Bs := List UInt8
def K : List W := [
  0x428a2f98#32, 0x71374491#32, 0xb5c0fbcf#32, 0xe9b5dba5#32, 0x3956c25b#32, 0x59f111f1#32, 0x923f82a4#32, 0xab1c5ed5#32,
  0xd807aa98#32, 0x12835b01#32, 0x243185be#32, 0x550c7dc3#32, 0x72be5d74#32, 0x80deb1fe#32, 0x9bdc06a7#32, 0xc19bf174#32,
  0xe49b69c1#32, 0xefbe4786#32, 0x0fc19dc6#32, 0x240ca1cc#32, 0x2de92c6f#32, 0x4a7484aa#32, 0x5cb0a9dc#32, 0x76f988da#32,
  0x983e5152#32, 0xa831c66d#32, 0xb00327c8#32, 0xbf597fc7#32, 0xc6e00bf3#32, 0xd5a79147#32, 0x06ca6351#32, 0x14292967#32,
  0x27b70a85#32, 0x2e1b2138#32, 0x4d2c6dfc#32, 0x53380d13#32, 0x650a7354#32, 0x766a0abb#32, 0x81c2c92e#32, 0x92722c85#32,
  0xa2bfe8a1#32, 0xa81a664b#32, 0xc24b8b70#32, 0xc76c51a3#32, 0xd192e819#32, 0xd6990624#32, 0xf40e3585#32, 0x106aa070#32,
  0x19a4c116#32, 0x1e376c08#32, 0x2748774c#32, 0x34b0bcb5#32, 0x391c0cb3#32, 0x4ed8aa4a#32, 0x5b9cca4f#32, 0x682e6ff3#32,
  0x748f82ee#32, 0x78a5636f#32, 0x84c87814#32, 0x8cc70208#32, 0x90befffa#32, 0xa4506ceb#32, 0xbef9a3f7#32, 0xc67178f2#32]
def H0 : List W := [0x6a09e667#32, 0xbb67ae85#32, 0x3c6ef372#32, 0xa54ff53a#32, 0x510e527f#32, 0x9b05688c#32, 0x1f83d9ab#32, 0x5be0cd19#32]
def rotr (x : W) (n : Nat) : W := (x <<< (32 - n)) ||| (x >>> n)
def s0 (x : W) : W := rotr x 7 ^^^ rotr x 18 ^^^ (x >>> 3)
def s1 (x : W) : W := rotr x 17 ^^^ rotr x 19 ^^^ (x >>> 10)
def S0 (a : W) : W := rotr a 2 ^^^ rotr a 13 ^^^ rotr a 22
def S1 (e : W) : W := rotr e 6 ^^^ rotr e 11 ^^^ rotr e 25
def ch (e f g : W) : W := (e &&& f) ^^^ (~~~ e &&& g)
def maj (a b c : W) : W := (a &&& b) ^^^ (a &&& c) ^^^ (b &&& c)
/-- the word of four bytes, the greatest first -/
def be4 (a b c d : UInt8) : W := BitVec.ofNat 32 (16777216 * a.toNat + 65536 * b.toNat + 256 * c.toNat + d.toNat)
theorem be4_toNat (a b c d : UInt8) : (be4 a b c d).toNat = 16777216 * a.toNat + 65536 * b.toNat + 256 * c.toNat + d.toNat := by
  have := a.toNat_lt; have := b.toNat_lt; have := c.toNat_lt; have := d.toNat_lt
  unfold be4
  rw [BitVec.toNat_ofNat, Nat.mod_eq_of_lt (by omega)]
def wordAt (b : Bs) (i : Nat) : W := be4 (b.getD (4 * i) 0) (b.getD (4 * i + 1) 0) (b.getD (4 * i + 2) 0) (b.getD (4 * i + 3) 0)
/-- the next word of the schedule behind those of l -/
def next (l : List W) : W := l.getD (l.length - 16) 0 + s0 (l.getD (l.length - 15) 0) + l.getD (l.length - 7) 0 + s1 (l.getD (l.length - 2) 0)
def ext : Nat → List W → List W
  | 0, l => l
  | n + 1, l => ext n (l ++ [next l])
/-- the first words, and n more -/
def more (b : Bs) (n : Nat) : List W := ext n ((List.range 16).map (wordAt b))
def sched (b : Bs) : List W := more b 48
theorem ext_succ : ∀ (n : Nat) (l : List W), ext (n + 1) l = ext n l ++ [next (ext n l)]
  | 0, _ => rfl
  | n + 1, l => by rw [ext, ext_succ n]; rfl
theorem ext_len : ∀ (n : Nat) (l : List W), (ext n l).length = l.length + n
  | 0, _ => rfl
  | n + 1, l => by rw [ext, ext_len n]; simp; omega
theorem more_len (b : Bs) (n : Nat) : (more b n).length = 16 + n := by unfold more; rw [ext_len]; simp
theorem more_succ (b : Bs) (n : Nat) : more b (n + 1) = more b n ++ [next (more b n)] := ext_succ n _
/-- the words of the schedule, one by one -/
def sw (b : Bs) (i : Nat) : W := (sched b).getD i 0
theorem more_pre (b : Bs) : ∀ (m n i : Nat), i < 16 + n → (more b (n + m)).getD i 0 = (more b n).getD i 0
  | 0, _, _, _ => rfl
  | m + 1, n, i, h => by
    rw [← Nat.add_assoc, more_succ, ← more_pre b m n i h]
    simp only [List.getD_eq_getElem?_getD]
    rw [List.getElem?_append_left (by rw [more_len]; omega)]
theorem sw_first (b : Bs) (i : Nat) (h : i < 16) : sw b i = wordAt b i := by
  unfold sw sched
  rw [show 48 = 0 + 48 from rfl, more_pre b 48 0 i (by omega)]
  unfold more ext
  simp [List.getD_eq_getElem?_getD, h]
theorem sw_next (b : Bs) (i : Nat) (h : 16 ≤ i) (h2 : i < 64) : sw b i = sw b (i - 16) + s0 (sw b (i - 15)) + sw b (i - 7) + s1 (sw b (i - 2)) := by
  have e : ∀ j, j < i → sw b j = (more b (i - 16)).getD j 0 := fun j hj => by
    have := more_pre b (48 - (i - 16)) (i - 16) j (by omega)
    rw [show i - 16 + (48 - (i - 16)) = 48 from by omega] at this
    exact this
  have e2 : sw b i = next (more b (i - 16)) := by
    have := more_pre b (48 - (i - 15)) (i - 15) i (by omega)
    rw [show i - 15 + (48 - (i - 15)) = 48 from by omega] at this
    unfold sw sched
    rw [this, show i - 15 = (i - 16) + 1 from by omega, more_succ, List.getD_eq_getElem?_getD, List.getElem?_append_right (by rw [more_len]; omega), more_len, show i - (16 + (i - 16)) = 0 from by omega]
    rfl
  rw [e2, e (i - 16) (by omega), e (i - 15) (by omega), e (i - 7) (by omega), e (i - 2) (by omega)]
  unfold next
  rw [more_len, show 16 + (i - 16) = i from by omega]
structure V8 where
  a : W
  b : W
  c : W
  d : W
  e : W
  f : W
  g : W
  h : W
def V8.list (v : V8) : List W := [v.a, v.b, v.c, v.d, v.e, v.f, v.g, v.h]
def t1 (v : V8) (k w : W) : W := v.h + S1 v.e + ch v.e v.f v.g + k + w
def t2 (v : V8) : W := S0 v.a + maj v.a v.b v.c
def round (v : V8) (k w : W) : V8 := ⟨t1 v k w + t2 v, v.a, v.b, v.c, v.d + t1 v k w, v.e, v.f, v.g⟩
def rounds (v : V8) : List (W × W) → V8
  | [] => v
  | (k, w) :: r => rounds (round v k w) r
theorem rounds_snoc (v : V8) : ∀ (l : List (W × W)) (k w : W), rounds v (l ++ [(k, w)]) = round (rounds v l) k w
  | [], _, _ => rfl
  | (k', w') :: l, k, w => by rw [List.cons_append, rounds, rounds, rounds_snoc (round v k' w') l k w]
def pairs (b : Bs) : List (W × W) := K.zip (sched b)
/-- behind so many rounds -/
def upto (v : V8) (b : Bs) (n : Nat) : V8 := rounds v ((pairs b).take n)
theorem upto_zero (v : V8) (b : Bs) : upto v b 0 = v := rfl
theorem sched_len (b : Bs) : (sched b).length = 64 := more_len b 48
theorem zip_at {α β : Type} (l : List α) (m : List β) (n : Nat) (a : α) (b : β) (h1 : l[n]? = some a) (h2 : m[n]? = some b) : (l.zip m)[n]? = some (a, b) := by
  rw [List.getElem?_zip_eq_some]
  exact ⟨h1, h2⟩
theorem getD_some {α : Type} (l : List α) (n : Nat) (d : α) (h : n < l.length) : l[n]? = some (l.getD n d) := by
  rw [List.getD_eq_getElem?_getD, List.getElem?_eq_getElem h, Option.getD_some]
theorem K_len : K.length = 64 := rfl
theorem pairs_at (b : Bs) (n : Nat) (h : n < 64) : (pairs b)[n]? = some (K.getD n 0, sw b n) := by
  unfold pairs sw
  exact zip_at _ _ _ _ _ (getD_some K n 0 (by rw [K_len]; exact h)) (getD_some (sched b) n 0 (by rw [sched_len]; exact h))
theorem upto_succ (v : V8) (b : Bs) (n : Nat) (h : n < 64) : upto v b (n + 1) = round (upto v b n) (K.getD n 0) (sw b n) := by
  have h1 := pairs_at b n h
  obtain ⟨h2, h3⟩ := List.getElem?_eq_some_iff.1 h1
  unfold upto
  rw [List.take_succ_eq_append_getElem h2, h3, rounds_snoc]
def V8.add (v u : V8) : V8 := ⟨v.a + u.a, v.b + u.b, v.c + u.c, v.d + u.d, v.e + u.e, v.f + u.f, v.g + u.g, v.h + u.h⟩
def compress (v : V8) (b : Bs) : V8 := v.add (upto v b 64)
def first : V8 := ⟨0x6a09e667#32, 0xbb67ae85#32, 0x3c6ef372#32, 0xa54ff53a#32, 0x510e527f#32, 0x9b05688c#32, 0x1f83d9ab#32, 0x5be0cd19#32⟩
/-- block by block -/
def run (v : V8) : Nat → Bs → V8
  | 0, _ => v
  | n + 1, b => run (compress v (b.take 64)) n (b.drop 64)
def be8 (n : Nat) : Bs := (List.range 8).map fun i => UInt8.ofNat (n / 2 ^ (56 - 8 * i))
def zeros (n : Nat) : Nat := (119 - n % 64) % 64
def pad (n : Nat) : Bs := 128 :: (List.replicate (zeros n) 0 ++ be8 (8 * n))
def byteAt (x : W) (k : Nat) : UInt8 := UInt8.ofNat (x.toNat / 2 ^ (24 - 8 * k))
def V8.bytes (v : V8) : Bs := v.list.flatMap fun x => [byteAt x 0, byteAt x 1, byteAt x 2, byteAt x 3]
def digest (b : Bs) : Bs := (run first ((b.length + (pad b.length).length) / 64) (b ++ pad b.length)).bytes
end Go.Proofs.Ytohgkadbajmphaa.ShaP
