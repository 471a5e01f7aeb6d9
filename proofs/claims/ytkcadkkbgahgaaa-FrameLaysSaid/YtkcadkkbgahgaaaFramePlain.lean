/- Plain law of frames: a length, a sum, a payload; bytes scanned frame by frame. No program in sight. -/
import Derived.Test.YtkcadkkbgahgaaaCrcPlain
import Derived.Test.YtkcadkkbgahgaaaNum
namespace Go.Proofs.Ytkcadkkbgahgaaa.FrameP
open Go.Proofs.Ytkcadkkbgahgaaa
abbrev W := BitVec 32
abbrev Bs := List UInt8
def le4 (s : W) : Bs := [byteOf s 0, byteOf s 1, byteOf s 2, byteOf s 3]
def num4 (a b c d : UInt8) : W := BitVec.ofNat 32 (a.toNat + 256 * b.toNat + 65536 * c.toNat + 16777216 * d.toNat)
theorem num4_toNat (a b c d : UInt8) : (num4 a b c d).toNat = a.toNat + 256 * b.toNat + 65536 * c.toNat + 16777216 * d.toNat := by
  have := a.toNat_lt; have := b.toNat_lt; have := c.toNat_lt; have := d.toNat_lt
  unfold num4
  rw [BitVec.toNat_ofNat, Nat.mod_eq_of_lt (by omega)]
theorem byteOf_val (s : W) (k : Nat) : (byteOf s k).toNat = s.toNat / 2 ^ (8 * k) % 256 := by
  unfold byteOf
  rw [UInt8.toNat_ofNat', Nat.mod_mod]
theorem le4_num4 (a b c d : UInt8) : le4 (num4 a b c d) = [a, b, c, d] := by
  have ha := a.toNat_lt; have hb := b.toNat_lt; have hc := c.toNat_lt; have hd := d.toNat_lt
  have e : ∀ (k : Nat) (x : UInt8), (num4 a b c d).toNat / 2 ^ (8 * k) % 256 = x.toNat → byteOf (num4 a b c d) k = x := by
    intro k x h
    rw [← UInt8.toNat_inj, byteOf_val, h]
  unfold le4
  rw [e 0 a (by rw [num4_toNat]; simp; omega), e 1 b (by rw [num4_toNat]; simp; omega), e 2 c (by rw [num4_toNat]; simp; omega), e 3 d (by rw [num4_toNat]; simp; omega)]
theorem num4_le4 (s : W) : num4 (byteOf s 0) (byteOf s 1) (byteOf s 2) (byteOf s 3) = s := by
  have hs := lt32 s
  rw [← BitVec.toNat_inj, num4_toNat, byteOf_val, byteOf_val, byteOf_val, byteOf_val]
  simp
  omega
theorem num4_inj {a b c d : UInt8} {s : W} : le4 s = [a, b, c, d] ↔ num4 a b c d = s := by
  constructor
  · intro h
    unfold le4 at h
    simp only [List.cons.injEq, and_true] at h
    obtain ⟨rfl, rfl, rfl, rfl⟩ := h
    exact num4_le4 s
  · rintro rfl
    exact le4_num4 a b c d
theorem le4_len (s : W) : (le4 s).length = 4 := rfl
def len32 (n : Nat) : W := BitVec.ofNat 32 n
theorem len32_toNat {n : Nat} (h : n < 4294967296) : (len32 n).toNat = n := by
  unfold len32
  rw [BitVec.toNat_ofNat, Nat.mod_eq_of_lt (by omega)]
def sum (n p : Bs) : W := CrcP.more (CrcP.sum n) p
/-- a payload's frame -/
def frame (p : Bs) : Bs := le4 (len32 p.length) ++ (le4 (sum (le4 (len32 p.length)) p) ++ p)
theorem frame_len (p : Bs) : (frame p).length = 8 + p.length := by simp [frame, le4_len]; omega
def frames : List Bs → Bs
  | [] => []
  | p :: l => frame p ++ frames l
theorem frames_append (l m : List Bs) : frames (l ++ m) = frames l ++ frames m := by
  induction l with
  | nil => rfl
  | cons p l ih => simp [frames, ih]
def at4 (r : Bs) (i : Nat) : W := num4 (r.getD i 0) (r.getD (i + 1) 0) (r.getD (i + 2) 0) (r.getD (i + 3) 0)
/-- what stands next: how it ends (0 clean, 1 torn, 2 corrupt), or a payload -/
def step (r : Bs) : Nat ⊕ Bs :=
  if r.length = 0 then .inl 0
  else if r.length < 8 then .inl 1
  else if 65536 < (at4 r 0).toNat then .inl 2
  else if r.length - 8 < (at4 r 0).toNat then .inl 1
  else if at4 r 4 = sum (r.take 4) ((r.drop 8).take (at4 r 0).toNat) then .inr ((r.drop 8).take (at4 r 0).toNat)
  else .inl 2
abbrev Res := List Bs × Nat × Nat
def onto (p : Bs) (x : Res) : Res := (p :: x.1, 8 + p.length + x.2.1, x.2.2)
def scanF : Nat → Bs → Res
  | 0, _ => ([], 0, 0)
  | f + 1, r => match step r with
    | .inl s => ([], 0, s)
    | .inr p => onto p (scanF f (r.drop (8 + p.length)))
def scan (r : Bs) : Res := scanF (r.length + 1) r
theorem step_inr {r p : Bs} (h : step r = .inr p) : 8 + p.length ≤ r.length := by
  unfold step at h
  split at h
  · cases h
  · split at h
    · cases h
    · split at h
      · cases h
      · split at h
        · cases h
        · split at h
          · injection h with h
            subst h
            simp
            omega
          · cases h
theorem scanF_more : ∀ (f g : Nat) (r : Bs), r.length < f → r.length < g → scanF f r = scanF g r
  | 0, _, _, h, _ => by omega
  | _ + 1, 0, _, _, h => by omega
  | f + 1, g + 1, r, h, k => by
    unfold scanF
    split
    · rfl
    · rename_i p hp
      have := step_inr hp
      rw [scanF_more f g (r.drop (8 + p.length)) (by simp; omega) (by simp; omega)]
theorem scan_eq (r : Bs) : scan r = match step r with
    | .inl s => ([], 0, s)
    | .inr p => onto p (scan (r.drop (8 + p.length))) := by
  unfold scan
  rw [scanF]
  split
  · rfl
  · rename_i p hp
    have := step_inr hp
    rw [scanF_more r.length ((r.drop (8 + p.length)).length + 1) (r.drop (8 + p.length)) (by simp; omega) (by omega)]
theorem scan_end {r : Bs} {s : Nat} (h : step r = .inl s) : scan r = ([], 0, s) := by rw [scan_eq, h]
theorem scan_on {r p : Bs} (h : step r = .inr p) : scan r = onto p (scan (r.drop (8 + p.length))) := by rw [scan_eq, h]
/-- what a scan that stands behind k bytes and the payloads l comes to -/
def behind (l : List Bs) (k : Nat) (x : Res) : Res := (l ++ x.1, k + x.2.1, x.2.2)
theorem behind_nil (x : Res) : behind [] 0 x = x := by simp [behind]
theorem behind_onto (l : List Bs) (k : Nat) (p : Bs) (x : Res) : behind l k (onto p x) = behind (l ++ [p]) (k + (8 + p.length)) x := by
  simp [behind, onto]; omega
theorem eight {r : Bs} (h : 8 ≤ r.length) : ∃ a b c d e f g i t, r = a :: b :: c :: d :: e :: f :: g :: i :: t := by
  match r, h with
  | a :: b :: c :: d :: e :: f :: g :: i :: t, _ => exact ⟨a, b, c, d, e, f, g, i, t, rfl⟩
theorem at4_0 (a b c d : UInt8) (t : Bs) : at4 (a :: b :: c :: d :: t) 0 = num4 a b c d := rfl
theorem at4_4 (a b c d e f g i : UInt8) (t : Bs) : at4 (a :: b :: c :: d :: e :: f :: g :: i :: t) 4 = num4 e f g i := rfl
/-- the reference's own test: the payload's frame is what stands there -/
theorem frame_test {r : Bs} (h8 : 8 ≤ r.length) (h : ¬ r.length - 8 < (at4 r 0).toNat) :
    frame ((r.drop 8).take (at4 r 0).toNat) = r.take (8 + (at4 r 0).toNat) ↔ at4 r 4 = sum (r.take 4) ((r.drop 8).take (at4 r 0).toNat) := by
  obtain ⟨a, b, c, d, e, f, g, i, t, rfl⟩ := eight h8
  rw [at4_0, at4_4] at *
  have hn := lt32 (num4 a b c d)
  simp only [List.drop_succ_cons, List.drop_zero, List.take_succ_cons, List.take_zero, List.length_cons] at *
  have hl : (t.take (num4 a b c d).toNat).length = (num4 a b c d).toNat := by simp; omega
  have hlen : len32 (t.take (num4 a b c d).toNat).length = num4 a b c d := by
    rw [hl, ← BitVec.toNat_inj, len32_toNat hn]
  unfold frame
  rw [hlen, le4_num4]
  have e1 : (a :: b :: c :: d :: e :: f :: g :: i :: t).take (8 + (num4 a b c d).toNat) = [a, b, c, d] ++ ([e, f, g, i] ++ t.take (num4 a b c d).toNat) := by
    rw [show 8 + (num4 a b c d).toNat = (num4 a b c d).toNat + 1 + 1 + 1 + 1 + 1 + 1 + 1 + 1 from by omega]
    simp
  rw [e1, List.append_right_inj, List.append_left_inj, num4_inj]
theorem step_ref (r : Bs) : step r = if r.length = 0 then .inl 0
  else if r.length < 8 then .inl 1
  else if 65536 < (at4 r 0).toNat then .inl 2
  else if r.length - 8 < (at4 r 0).toNat then .inl 1
  else if frame ((r.drop 8).take (at4 r 0).toNat) = r.take (8 + (at4 r 0).toNat) then .inr ((r.drop 8).take (at4 r 0).toNat)
  else .inl 2 := by
  unfold step
  split
  · rfl
  · split
    · rfl
    · split
      · rfl
      · split
        · rfl
        · simp only [frame_test (Nat.le_of_not_lt ‹_›) ‹_›]
theorem step_frame (p t : Bs) (hp : p.length ≤ 65536) : step (frame p ++ t) = .inr p := by
  have hf := frame_len p
  have h0 : ∀ s u : W, at4 (le4 s ++ (le4 u ++ p) ++ t) 0 = s := fun s u => num4_le4 s
  have h4 : ∀ s u : W, at4 (le4 s ++ (le4 u ++ p) ++ t) 4 = u := fun s u => num4_le4 u
  have hl := len32_toNat (n := p.length) (by omega)
  have e0 : at4 (frame p ++ t) 0 = len32 p.length := h0 _ _
  have e4 : at4 (frame p ++ t) 4 = sum (le4 (len32 p.length)) p := h4 _ _
  have ht : (frame p ++ t).take 4 = le4 (len32 p.length) := by
    unfold frame; rw [List.append_assoc, List.take_append_of_le_length (by simp [le4_len]), List.take_of_length_le (by simp [le4_len])]
  have hd : (frame p ++ t).drop 8 = p ++ t := by
    unfold frame
    simp only [List.append_assoc]
    rfl
  unfold step
  rw [e0, e4, ht, hd, hl, List.length_append, hf]
  rw [if_neg (by omega), if_neg (by omega), if_neg (by omega), if_neg (by omega), List.take_append_of_le_length (by simp), List.take_of_length_le (by simp), if_pos rfl]
theorem drop_frame (p t : Bs) : (frame p ++ t).drop (8 + p.length) = t := by
  rw [← frame_len, List.drop_append_of_le_length (by simp)]
  simp
theorem scan_frame (p t : Bs) (hp : p.length ≤ 65536) : scan (frame p ++ t) = onto p (scan t) := by
  rw [scan_on (step_frame p t hp), drop_frame]
theorem scan_frames : ∀ (l : List Bs) (t : Bs), (∀ p ∈ l, p.length ≤ 65536) → scan (frames l ++ t) = behind l (frames l).length (scan t)
  | [], t, _ => by simp [frames, behind]
  | p :: l, t, h => by
    simp only [frames, List.append_assoc]
    rw [scan_frame _ _ (h p (by simp)), scan_frames l t (fun q hq => h q (by simp [hq]))]
    simp [behind, onto, frame_len]
    omega
theorem scan_nil : scan [] = ([], 0, 0) := scan_end rfl
theorem scan_all (l : List Bs) (h : ∀ p ∈ l, p.length ≤ 65536) : scan (frames l) = (l, (frames l).length, 0) := by
  have := scan_frames l [] h
  rwa [List.append_nil, scan_nil, behind, List.append_nil, Nat.add_zero] at this
/-- a frame that is cut ahead of its end -/
theorem step_cut (p : Bs) (k : Nat) (hp : p.length ≤ 65536) (h0 : 0 < k) (hk : k < 8 + p.length) : step ((frame p).take k) = .inl 1 := by
  have hf := frame_len p
  have hl := len32_toNat (n := p.length) (by omega)
  have hlen : ((frame p).take k).length = k := by rw [List.length_take, hf]; omega
  unfold step
  rw [hlen, if_neg (by omega)]
  by_cases h8 : k < 8
  · rw [if_pos h8]
  · have e0 : at4 ((frame p).take k) 0 = len32 p.length := by
      obtain ⟨j, rfl⟩ : ∃ j, k = j + 1 + 1 + 1 + 1 := ⟨k - 4, by omega⟩
      exact num4_le4 (len32 p.length)
    rw [if_neg h8, e0, hl, if_neg (by omega), if_pos (by omega)]
end Go.Proofs.Ytkcadkkbgahgaaa.FrameP
