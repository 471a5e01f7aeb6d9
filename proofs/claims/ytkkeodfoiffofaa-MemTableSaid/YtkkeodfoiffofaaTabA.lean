/- A table's bytes, plainly. -/
import Derived.Test.YtkkeodfoiffofaaItemPlain
import Derived.Test.YtkkeodfoiffofaaBinPlain
import Derived.Test.YtkkeodfoiffofaaCrcPlain
import Derived.Test.YtkkeodfoiffofaaRefSorted
import Derived.Test.YtkkeodfoiffofaaBinA
import Derived.Test.YtkkeodfoiffofaaNum
namespace Go.Proofs.Ytkkeodfoiffofaa.TabP
open Go.RowKit
/-- how many first bytes two keys share -/
def shared : List UInt8 → List UInt8 → Nat
  | x :: a, y :: b => if x = y then shared a b + 1 else 0
  | _, _ => 0
theorem shared_le : ∀ a b : List UInt8, shared a b ≤ a.length ∧ shared a b ≤ b.length
  | [], b => by simp [shared]
  | _ :: _, [] => by simp [shared]
  | x :: a, y :: b => by
    unfold shared
    have := shared_le a b
    split <;> simp <;> omega
theorem shared_take : ∀ a b : List UInt8, a.take (shared a b) = b.take (shared a b)
  | [], b => by simp [shared]
  | _ :: _, [] => by simp [shared]
  | x :: a, y :: b => by
    unfold shared
    split
    · rename_i h
      rw [h, List.take_succ_cons, List.take_succ_cons, shared_take a b]
    · rfl
theorem shared_more {a b : List UInt8} {k : Nat} {x y : UInt8} (ha : a[k]? = some x) (hb : b[k]? = some y) : shared (a.drop k) (b.drop k) = if x = y then shared (a.drop (k + 1)) (b.drop (k + 1)) + 1 else 0 := by
  obtain ⟨h1, h2⟩ := List.getElem?_eq_some_iff.1 ha
  obtain ⟨h3, h4⟩ := List.getElem?_eq_some_iff.1 hb
  rw [List.drop_eq_getElem_cons h1, List.drop_eq_getElem_cons h3, h2, h4, shared]
theorem shared_end {a b : List UInt8} {k : Nat} (h : a.length ≤ k ∨ b.length ≤ k) : shared (a.drop k) (b.drop k) = 0 := by
  rcases h with h | h
  · rw [List.drop_of_length_le h]
    rfl
  · rw [List.drop_of_length_le h]
    cases a.drop k <;> rfl
/-- an item's bytes behind one with a key -/
def lay (ahead : List UInt8) (x : It) : List UInt8 :=
  BinP.enc (shared ahead x.key) ++ BinP.text (x.key.drop (shared ahead x.key)) ++ BinP.enc x.seq ++ (if x.gone then [1] else 0 :: BinP.text x.val)
theorem text_len (s : List UInt8) : (BinP.text s).length ≤ s.length + 10 := by
  have := BinP.enc_len s.length
  unfold BinP.text
  rw [List.length_append]
  omega
theorem lay_len (ahead : List UInt8) (x : It) : (lay ahead x).length ≤ x.key.length + x.val.length + 41 := by
  have h1 := BinP.enc_len (shared ahead x.key)
  have h2 := text_len (x.key.drop (shared ahead x.key))
  have h3 := BinP.enc_len x.seq
  have h4 := text_len x.val
  unfold lay
  rw [List.length_drop] at h2
  split
  · simp only [List.length_append, List.length_cons, List.length_nil]; omega
  · simp only [List.length_append, List.length_cons]; omega
/-- a key's bits in a filter -/
def placesF : Nat → Nat → Nat → Nat → List Nat
  | 0, _, _, _ => []
  | k + 1, h, s, m => h % m :: placesF k ((h + s) % 4294967296) s m
def places (key : List UInt8) (size : Nat) : List Nat :=
  if size = 0 then [] else placesF 6 (CrcP.sum key).toNat (CrcP.more (CrcP.sum key) [85]).toNat (8 * size)
theorem placesF_lt : ∀ (k h s m : Nat), 0 < m → ∀ p ∈ placesF k h s m, p < m
  | 0, _, _, _, _, p, hp => by cases hp
  | k + 1, h, s, m, hm, p, hp => by
    rcases List.mem_cons.1 hp with rfl | hp
    · exact Nat.mod_lt _ hm
    · exact placesF_lt k _ _ m hm p hp
theorem places_lt {key : List UInt8} {size : Nat} : ∀ p ∈ places key size, p < 8 * size := by
  intro p hp
  unfold places at hp
  split at hp
  · cases hp
  · exact placesF_lt 6 _ _ _ (by omega) p hp
theorem placesF_len : ∀ (k h s m : Nat), (placesF k h s m).length = k
  | 0, _, _, _ => rfl
  | k + 1, h, s, m => by simp [placesF, placesF_len k]
theorem places_len (key : List UInt8) (size : Nat) : (places key size).length ≤ 6 := by
  unfold places
  split
  · simp
  · rw [placesF_len]
    exact Nat.le_refl _
/-- a filter's bytes -/
def orBit (f : List UInt8) (p : Nat) : List UInt8 := f.set (p / 8) (f.getD (p / 8) 0 ||| UInt8.ofNat (2 ^ (p % 8)))
def orBits (f : List UInt8) (ps : List Nat) : List UInt8 := ps.foldl orBit f
def addKey (f key : List UInt8) : List UInt8 := orBits f (places key f.length)
def filterF (f : List UInt8) (l : List It) : List UInt8 := l.foldl (fun f x => addKey f x.key) f
def fsize (many : Nat) : Nat := (many * 10 + 7) / 8
def filter (l : List It) (many : Nat) : List UInt8 := filterF (List.replicate (fsize many) 0) l
theorem orBit_len (f : List UInt8) (p : Nat) : (orBit f p).length = f.length := by simp [orBit]
theorem orBits_len (ps : List Nat) : ∀ f : List UInt8, (orBits f ps).length = f.length := by
  induction ps with
  | nil => intro f; rfl
  | cons p ps ih =>
    intro f
    have := ih (orBit f p)
    unfold orBits at *
    rw [List.foldl_cons, this, orBit_len]
theorem addKey_len (f key : List UInt8) : (addKey f key).length = f.length := orBits_len _ _
theorem filterF_len (l : List It) : ∀ f : List UInt8, (filterF f l).length = f.length := by
  induction l with
  | nil => intro f; rfl
  | cons x l ih =>
    intro f
    have := ih (addKey f x.key)
    unfold filterF at *
    rw [List.foldl_cons, this, addKey_len]
theorem filterF_add (f : List UInt8) (l : List It) (x : It) : filterF f (l ++ [x]) = addKey (filterF f l) x.key := by
  unfold filterF
  rw [List.foldl_append]
  rfl
theorem filter_len (l : List It) (many : Nat) : (filter l many).length = fsize many := by
  unfold filter
  rw [filterF_len, List.length_replicate]
theorem orBits_take {f : List UInt8} {ps : List Nat} {k p : Nat} (hp : ps[k]? = some p) : orBits f (ps.take (k + 1)) = orBit (orBits f (ps.take k)) p := by
  unfold orBits
  rw [List.take_add_one, hp, Option.toList_some, List.foldl_append]
  rfl
end Go.Proofs.Ytkkeodfoiffofaa.TabP
namespace Go.Proofs.Ytkkeodfoiffofaa.TabP
open Go.RowKit
/-- may these items be laid? -/
def goodL (l : List It) : Bool := l.all ItP.may && ItP.srt l
theorem goodL_take_no {l : List It} {k : Nat} {x : It} (hx : l[k]? = some x) (h : ItP.may x = false) : goodL l = false := by
  unfold goodL
  cases ha : l.all ItP.may with
  | false => rfl
  | true =>
    rw [List.all_eq_true] at ha
    rw [ha x (List.mem_of_getElem? hx)] at h
    cases h
theorem goodL_order {l : List It} {k : Nat} (h : ItP.srt (l.take k) = false) : goodL l = false := by
  unfold goodL
  rw [srt_not h, Bool.and_false]
theorem goodL_yes {l : List It} (h1 : ∀ x ∈ l, ItP.may x = true) (h2 : ItP.srt l = true) : goodL l = true := by
  unfold goodL
  rw [h2, List.all_eq_true.2 h1]
  rfl
abbrev St3 := List UInt8 × List UInt8 × List UInt8
/-- one item more: the body, the block that is being laid, the key ahead -/
def step (block i : Nat) (s : St3) (x : It) : St3 :=
  if i % block = 0 ∧ 0 < i then (s.1 ++ BinP.text s.2.1, lay [] x, x.key) else (s.1, s.2.1 ++ lay s.2.2 x, x.key)
def run (block : Nat) : Nat → St3 → List It → St3
  | _, s, [] => s
  | i, s, x :: l => run block (i + 1) (step block i s x) l
def start (block n : Nat) : St3 := (BinP.enc block ++ BinP.enc n, [], [])
def body (l : List It) (block : Nat) : List UInt8 :=
  (if l = [] then (run block 0 (start block l.length) l).1 else (run block 0 (start block l.length) l).1 ++ BinP.text (run block 0 (start block l.length) l).2.1) ++ filter l l.length
def le32 (n : Nat) : List UInt8 := [UInt8.ofNat n, UInt8.ofNat (n / 256), UInt8.ofNat (n / 65536), UInt8.ofNat (n / 16777216)]
def head (l : List It) (block : Nat) : List UInt8 := le32 (body l block).length ++ body l block
def build (l : List It) (block : Nat) : List UInt8 := head l block ++ le32 (CrcP.sum (head l block)).toNat
def buildE (l : List It) (a : Int) : Int := if a < 1 ∨ 1000 < a then 1 else if goodL l = false then 15 else if 10000 < l.length then 2 else 0
def buildB (l : List It) (a : Int) : List UInt8 := if buildE l a = 0 then build l a.toNat else []
theorem may_len {x : It} (h : ItP.may x = true) : x.key.length ≤ 256 ∧ x.val.length ≤ 4096 := by
  unfold ItP.may at h
  simp only [Bool.and_eq_true, decide_eq_true_eq] at h
  exact ⟨h.1.1.2, h.1.2⟩
theorem step_len (block i : Nat) (s : St3) {x : It} (h : ItP.may x = true) : (step block i s x).1.length + (step block i s x).2.1.length ≤ s.1.length + s.2.1.length + 4403 := by
  obtain ⟨h1, h2⟩ := may_len h
  unfold step
  split
  · have := lay_len [] x
    have := text_len s.2.1
    simp only [List.length_append]
    omega
  · have := lay_len s.2.2 x
    simp only [List.length_append]
    omega
theorem run_len (block : Nat) : ∀ (l : List It) (i : Nat) (s : St3), (∀ x ∈ l, ItP.may x = true) → (run block i s l).1.length + (run block i s l).2.1.length ≤ s.1.length + s.2.1.length + 4403 * l.length
  | [], _, s, _ => by simp [run]
  | x :: l, i, s, h => by
    have h1 := step_len block i s (h x (by simp))
    have h2 := run_len block l (i + 1) (step block i s x) fun y hy => h y (by simp [hy])
    unfold run
    rw [List.length_cons]
    omega
theorem start_len (block n : Nat) : (start block n).1.length + (start block n).2.1.length ≤ 20 := by
  have h1 := BinP.enc_len block
  have h2 := BinP.enc_len n
  unfold start
  simp only [List.length_append, List.length_nil]
  omega
theorem run_drop {block k : Nat} {s : St3} {l : List It} {x : It} (hx : l[k]? = some x) : run block k s (l.drop k) = run block (k + 1) (step block k s x) (l.drop (k + 1)) := by
  obtain ⟨h1, h2⟩ := List.getElem?_eq_some_iff.1 hx
  rw [List.drop_eq_getElem_cons h1, h2, run]
theorem fsize_le {n : Nat} (h : n ≤ 10000) : fsize n ≤ 12501 := by unfold fsize; omega
theorem body_len {l : List It} (h : ∀ x ∈ l, ItP.may x = true) (hn : l.length ≤ 10000) (block : Nat) : (body l block).length ≤ 44100000 := by
  have h1 := run_len block l 0 (start block l.length) h
  have h2 := start_len block l.length
  have h3 := text_len (run block 0 (start block l.length) l).2.1
  have h4 := fsize_le hn
  unfold body
  rw [List.length_append, filter_len]
  split
  · omega
  · rw [List.length_append]
    omega
end Go.Proofs.Ytkkeodfoiffofaa.TabP
namespace Go.Proofs.Ytkkeodfoiffofaa.TabP
open Go.RowKit
/-- so many items of a block -/
def partF : Nat → List UInt8 → BinP.St → List It → Option (List It × BinP.St)
  | 0, _, st, l => some (l, st)
  | k + 1, ahead, st, l =>
    let a := BinP.pInt (ahead.length : Int) st
    let b := BinP.pText 256 a.2
    let c := BinP.pUint b.2
    let d := BinP.pByte c.2
    if d.1 = 0 then
      match BinP.pText 4096 d.2 with
      | (_, none) => none
      | (v, some r) => partF k (ahead.take a.1 ++ b.1) (some r) (l ++ [⟨ahead.take a.1 ++ b.1, c.1, false, v⟩])
    else if d.1 = 1 then
      match d.2 with
      | none => none
      | some r => partF k (ahead.take a.1 ++ b.1) (some r) (l ++ [⟨ahead.take a.1 ++ b.1, c.1, true, []⟩])
    else none
def partP (s : List UInt8) (many : Nat) (l : List It) : Option (List It) :=
  if many = 0 then none else
  match partF many [] (some s) l with
  | none => none
  | some (l', st) => if BinP.endN st = 0 then some l' else none
theorem pInt_le {most : Int} {st : BinP.St} (h : 0 ≤ most) : ((BinP.pInt most st).1 : Int) ≤ most := by
  rcases st with _ | l
  · exact h
  · simp only [BinP.pInt]
    split
    · exact h
    · split
      · exact h
      · rename_i hc
        simp only
        omega
theorem pUint_lt (st : BinP.St) : (BinP.pUint st).1 < m64 := by
  rcases st with _ | l
  · exact by decide
  · simp only [BinP.pUint]
    split
    · exact by decide
    · rename_i h
      have := (BinP.num_bound h).2.2.2
      simpa [m64] using this
theorem pText_le {most : Int} {st : BinP.St} (h : 0 ≤ most) : (((BinP.pText most st).1).length : Int) ≤ most := by
  have h1 := pInt_le (st := st) h
  unfold BinP.pText
  rcases hp : BinP.pInt most st with ⟨n, _ | l⟩
  · exact h
  · rw [hp] at h1
    simp only
    split
    · exact h
    · simp only [List.length_take]
      simp only at h1
      omega
end Go.Proofs.Ytkkeodfoiffofaa.TabP
namespace Go.Proofs.Ytkkeodfoiffofaa.TabP
open Go.RowKit
def le4 (b : List UInt8) : Nat := (b.getD 0 0).toNat + (b.getD 1 0).toNat * 256 + (b.getD 2 0).toNat * 65536 + (b.getD 3 0).toNat * 16777216
/-- block by block -/
def partsF : Nat → Nat → Nat → List It → BinP.St → Option (List It × BinP.St)
  | 0, _, _, _, _ => none
  | f + 1, block, many, l, st =>
    if l.length < many then
      match st with
      | none => some (l, none)
      | some r =>
        match partP (BinP.pText (r.length : Int) (some r)).1 (min block (many - l.length)) l with
        | none => none
        | some l' => partsF f block many l' (BinP.pText (r.length : Int) (some r)).2
    else some (l, st)
def inner (b : List UInt8) : List UInt8 := (b.drop 4).take (b.length - 8)
def openQ (b : List UInt8) (p q : Nat × BinP.St) : Option (List It × Nat) :=
  match partsF 10001 p.1 q.1 [] q.2 with
  | some (l, some _) => if buildE l (p.1 : Int) = 0 ∧ buildB l (p.1 : Int) = b then some (l, p.1) else none
  | _ => none
def openP (b : List UInt8) : Option (List It × Nat) :=
  if b.length < 8 then none
  else if le4 b ≠ b.length - 8 then none
  else openQ b (BinP.pInt 1000 (some (inner b))) (BinP.pInt 10000 (BinP.pInt 1000 (some (inner b))).2)
/-- what is read was built -/
theorem open_built {b : List UInt8} {l : List It} {k : Nat} (h : openP b = some (l, k)) : buildE l (k : Int) = 0 ∧ buildB l (k : Int) = b := by
  unfold openP at h
  split at h
  · cases h
  · split at h
    · cases h
    · unfold openQ at h
      split at h
      · split at h
        · rename_i hh
          cases h
          exact hh
        · cases h
      · cases h
theorem partF_len : ∀ (k : Nat) (ahead : List UInt8) (st : BinP.St) (l l' : List It) (st' : BinP.St), partF k ahead st l = some (l', st') → l'.length = l.length + k
  | 0, _, _, _, _, _, h => by
    unfold partF at h
    cases h
    rfl
  | k + 1, ahead, st, l, l', st', h => by
    unfold partF at h
    simp only at h
    split at h
    · split at h
      · cases h
      · have := partF_len k _ _ _ _ _ h
        rw [this, List.length_append]
        simp only [List.length_cons, List.length_nil]
        omega
    · split at h
      · split at h
        · cases h
        · have := partF_len k _ _ _ _ _ h
          rw [this, List.length_append]
          simp only [List.length_cons, List.length_nil]
          omega
      · cases h
theorem partP_len {s : List UInt8} {many : Nat} {l l' : List It} (h : partP s many l = some l') : l'.length = l.length + many ∧ many ≠ 0 := by
  unfold partP at h
  split at h
  · cases h
  · rename_i hm
    split at h
    · cases h
    · rename_i h2
      split at h
      · cases h
        exact ⟨partF_len _ _ _ _ _ _ h2, hm⟩
      · cases h
theorem buildE_zero {l : List It} {a : Int} (h : buildE l a = 0) : goodL l = true ∧ l.length ≤ 10000 ∧ 1 ≤ a ∧ a ≤ 1000 := by
  unfold buildE at h
  split at h
  · cases h
  · split at h
    · cases h
    · split at h
      · cases h
      · rename_i h1 h2 h3
        exact ⟨by simpa using h2, by omega, by omega, by omega⟩
theorem goodL_srt {l : List It} (h : goodL l = true) : ItP.Srt l ∧ ∀ x ∈ l, ItP.may x = true := by
  unfold goodL at h
  rw [Bool.and_eq_true, List.all_eq_true] at h
  exact ⟨ItP.srt_iff.1 h.2, h.1⟩
theorem may_key {x : It} (h : ItP.may x = true) : x.key ≠ [] := by
  unfold ItP.may at h
  simp only [Bool.and_eq_true, decide_eq_true_eq] at h
  intro e
  have := h.1.1.1
  rw [e] at this
  simp at this
theorem pInt_left (m : Int) (st : BinP.St) : BinP.left (BinP.pInt m st).2 ≤ BinP.left st := by
  rcases st with _ | l
  · exact Nat.le_refl _
  · simp only [BinP.pInt]
    split
    · exact Nat.zero_le _
    · split
      · exact Nat.zero_le _
      · simp [BinP.left]
theorem pText_left (m : Int) (st : BinP.St) : BinP.left (BinP.pText m st).2 ≤ BinP.left st := by
  have h := pInt_left m st
  unfold BinP.pText
  rcases hp : BinP.pInt m st with ⟨n, _ | l⟩
  · exact Nat.zero_le _
  · rw [hp] at h
    simp only
    split
    · exact Nat.zero_le _
    · refine Nat.le_trans ?_ h
      simp [BinP.left]
end Go.Proofs.Ytkkeodfoiffofaa.TabP
namespace Go.Proofs.Ytkkeodfoiffofaa.TabP
open Go.RowKit
def lays : List UInt8 → List It → List UInt8
  | _, [] => []
  | a, x :: l => lay a x ++ lays x.key l
def lastK (a : List UInt8) (l : List It) : List UInt8 := match l.getLast? with
  | none => a
  | some x => x.key
theorem lays_snoc (x : It) : ∀ (a : List UInt8) (l : List It), lays a (l ++ [x]) = lays a l ++ lay (lastK a l) x
  | a, [] => by simp [lays, lastK]
  | a, y :: l => by
    rw [List.cons_append, lays, lays_snoc x y.key l, lays, List.append_assoc]
    congr 3
    unfold lastK
    rcases l with _ | ⟨z, r⟩
    · rfl
    · rw [List.getLast?_cons_cons, List.getLast?_cons]
/-- block by block, so many items in each -/
def blocks (q : Nat) : Nat → List It → List UInt8
  | 0, _ => []
  | f + 1, l => if l = [] then [] else BinP.text (lays [] (l.take q)) ++ blocks q f (l.drop q)
theorem blocks_nil (q f : Nat) : blocks q f [] = [] := by
  cases f <;> simp [blocks]
theorem lastK_snoc (a : List UInt8) (l : List It) (x : It) : lastK a (l ++ [x]) = x.key := by
  unfold lastK
  rw [List.getLast?_concat]
theorem run_blocks {q : Nat} (hq : 1 ≤ q) : ∀ (l : List It) (i j m f : Nat) (bd : List UInt8) (p : List It), i = m * q + j → 1 ≤ j → j ≤ q → p.length = j → l.length ≤ f →
    (run q i (bd, lays [] p, lastK [] p) l).1 ++ BinP.text (run q i (bd, lays [] p, lastK [] p) l).2.1 = bd ++ (BinP.text (lays [] (p ++ l.take (q - j))) ++ blocks q f (l.drop (q - j)))
  | [], i, j, m, f, bd, p, _, _, _, _, _ => by simp [run, blocks_nil]
  | x :: l, i, j, m, f, bd, p, hi, h1, h2, hp, hf => by
    rw [run]
    have hmod : i % q = 0 ↔ j = q := by
      rw [hi, Nat.mul_comm, Nat.mul_add_mod]
      constructor
      · intro h
        rcases Nat.lt_or_ge j q with h3 | h3
        · rw [Nat.mod_eq_of_lt h3] at h
          omega
        · omega
      · intro h
        rw [h, Nat.mod_self]
    obtain ⟨f, rfl⟩ : ∃ g, f = g + 1 := ⟨f - 1, by simp at hf; omega⟩
    have hf' : l.length ≤ f := by simp at hf; omega
    by_cases hj : j = q
    · have hst : step q i (bd, lays [] p, lastK [] p) x = (bd ++ BinP.text (lays [] p), lays [] [x], lastK [] [x]) := by
        unfold step
        rw [if_pos ⟨hmod.2 hj, by omega⟩]
        simp [lays, lastK]
      rw [hst, run_blocks hq l (i + 1) 1 (m + 1) f _ [x] (by rw [hi, hj, Nat.add_mul]; omega) (Nat.le_refl _) hq rfl hf']
      rw [hj, Nat.sub_self, List.take_zero, List.append_nil, List.drop_zero, List.append_assoc]
      congr 2
      rw [blocks, if_neg (by simp)]
      obtain ⟨r, rfl⟩ : ∃ r, q = r + 1 := ⟨q - 1, by omega⟩
      rfl
    · have hst : step q i (bd, lays [] p, lastK [] p) x = (bd, lays [] (p ++ [x]), lastK [] (p ++ [x])) := by
        unfold step
        rw [if_neg (fun h => hj (hmod.1 h.1)), lays_snoc, lastK_snoc]
      rw [hst, run_blocks hq l (i + 1) (j + 1) m (f + 1) bd (p ++ [x]) (by omega) (by omega) (by omega) (by simp [hp]) (by omega)]
      obtain ⟨r, hr⟩ : ∃ r, q - j = r + 1 := ⟨q - j - 1, by omega⟩
      rw [hr, show q - (j + 1) = r from by omega, List.take_succ_cons, List.drop_succ_cons, List.append_assoc]
      rfl
theorem body_blocks {q : Nat} (hq : 1 ≤ q) (l : List It) : body l q = BinP.enc q ++ (BinP.enc l.length ++ (blocks q l.length l ++ filter l l.length)) := by
  unfold body
  rcases l with _ | ⟨x, l⟩
  · simp [run, start, blocks]
  · rw [if_neg (by simp), run]
    have hst : step q 0 (start q (x :: l).length) x = ((start q (x :: l).length).1, lays [] [x], lastK [] [x]) := by
      unfold step
      rw [if_neg (by omega)]
      simp [lays, lastK, start]
    rw [hst, run_blocks hq l 1 1 0 l.length _ [x] (by omega) (Nat.le_refl _) hq rfl (Nat.le_refl _)]
    have hb : BinP.text (lays [] ([x] ++ l.take (q - 1))) ++ blocks q l.length (l.drop (q - 1)) = blocks q (x :: l).length (x :: l) := by
      rw [List.length_cons, blocks, if_neg (by simp)]
      obtain ⟨r, rfl⟩ : ∃ r, q = r + 1 := ⟨q - 1, by omega⟩
      rfl
    rw [hb]
    simp [start]
theorem pInt_enc {v : Nat} {most : Int} (r : List UInt8) (hv : v < 18446744073709551616) (hm : (v : Int) ≤ most) : BinP.pInt most (some (BinP.enc v ++ r)) = (v, some r) := by
  unfold BinP.pInt
  simp only
  rw [BinP.num_enc v r hv]
  simp only
  rw [if_neg (by omega), List.drop_left]
theorem pText_text {s : List UInt8} {most : Int} (r : List UInt8) (hs : s.length < 18446744073709551616) (hm : (s.length : Int) ≤ most) : BinP.pText most (some (BinP.text s ++ r)) = (s, some r) := by
  unfold BinP.pText BinP.text
  rw [List.append_assoc, pInt_enc (s ++ r) hs hm]
  simp only
  rw [if_neg (by simp), List.take_left, List.drop_left]
theorem pUint_enc {v : Nat} (r : List UInt8) (hv : v < 18446744073709551616) : BinP.pUint (some (BinP.enc v ++ r)) = (v, some r) := by
  unfold BinP.pUint
  simp only
  rw [BinP.num_enc v r hv]
  simp only
  rw [List.drop_left]
theorem partF_lays : ∀ (p : List It) (a : List UInt8) (rest : List UInt8) (acc : List It), (∀ x ∈ p, ItP.may x = true ∧ x.seq < m64) → a.length ≤ 256 → partF p.length a (some (lays a p ++ rest)) acc = some (acc ++ p, some rest)
  | [], a, rest, acc, _, _ => by simp [partF, lays]
  | x :: p, a, rest, acc, h, ha => by
    obtain ⟨hm, hs⟩ := h x (by simp)
    obtain ⟨hk, hv⟩ := may_len hm
    have ih := partF_lays p x.key rest (acc ++ [x]) (fun y hy => h y (by simp [hy])) hk
    have hsl := shared_le a x.key
    have hst := shared_take a x.key
    have hs' : x.seq < 18446744073709551616 := hs
    rw [List.length_cons, partF, lays]
    have hb : lay a x ++ lays x.key p ++ rest = BinP.enc (shared a x.key) ++ (BinP.text (x.key.drop (shared a x.key)) ++ (BinP.enc x.seq ++ ((if x.gone then [1] else 0 :: BinP.text x.val) ++ (lays x.key p ++ rest)))) := by
      unfold lay
      simp only [List.append_assoc]
    rw [hb]
    rw [pInt_enc _ (by omega) (by omega)]
    simp only
    rw [pText_text _ (by rw [List.length_drop]; omega) (by rw [List.length_drop]; omega)]
    simp only
    rw [pUint_enc _ hs']
    simp only
    have hkey : a.take (shared a x.key) ++ x.key.drop (shared a x.key) = x.key := by rw [hst, List.take_append_drop]
    rcases x with ⟨key, seq, gone, val⟩
    cases gone with
    | true =>
      have hval : val = [] := by
        unfold ItP.may at hm
        simp only [Bool.and_eq_true, Bool.true_and, Bool.not_not] at hm
        simpa using hm.2
      subst hval
      simp only [if_true, List.cons_append, List.nil_append, BinP.pByte]
      rw [if_neg (by decide), hkey, ih]
      simp
    | false =>
      simp only [Bool.false_eq_true, if_false, List.cons_append, BinP.pByte]
      rw [if_pos trivial, pText_text _ (by simp only at hv; omega) (by simp only at hv; omega)]
      simp only
      rw [hkey, ih]
      simp
theorem partP_lays {p : List It} (acc : List It) (h : ∀ x ∈ p, ItP.may x = true ∧ x.seq < m64) (hp : p ≠ []) : partP (lays [] p) p.length acc = some (acc ++ p) := by
  unfold partP
  rw [if_neg (fun e => hp (List.length_eq_zero_iff.1 e))]
  have := partF_lays p [] [] acc h (Nat.zero_le _)
  rw [List.append_nil] at this
  rw [this]
  rfl
theorem partsF_blocks {q : Nat} (hq : 1 ≤ q) (flt : List UInt8) (n : Nat) : ∀ (f g : Nat) (l acc : List It), (∀ x ∈ l, ItP.may x = true ∧ x.seq < m64) → acc.length + l.length = n → l.length < f → l.length ≤ g → (blocks q g l).length < 18446744073709551616 →
    partsF f q n acc (some (blocks q g l ++ flt)) = some (acc ++ l, some flt)
  | 0, _, _, _, _, _, h, _, _ => by omega
  | f + 1, g, l, acc, h, hn, hf, hg, hb => by
    unfold partsF
    by_cases hl : l = []
    · subst hl
      rw [if_neg (by simp at hn; omega), blocks_nil]
      simp
    · have hl0 : 0 < l.length := List.length_pos_iff.2 hl
      rw [if_pos (by omega)]
      obtain ⟨g, rfl⟩ : ∃ k, g = k + 1 := ⟨g - 1, by omega⟩
      have e : blocks q (g + 1) l = BinP.text (lays [] (l.take q)) ++ blocks q g (l.drop q) := by rw [blocks, if_neg hl]
      rw [e, List.length_append] at hb
      have htl : (lays [] (l.take q)).length ≤ (BinP.text (lays [] (l.take q))).length := by unfold BinP.text; rw [List.length_append]; omega
      simp only
      rw [e, List.append_assoc, pText_text _ (by omega) (by rw [List.length_append]; omega)]
      simp only
      have hmin : min q (n - acc.length) = (l.take q).length := by rw [List.length_take]; omega
      rw [hmin, partP_lays acc (fun x hx => h x (List.mem_of_mem_take hx)) (by
        obtain ⟨r, rfl⟩ : ∃ r, q = r + 1 := ⟨q - 1, by omega⟩
        rcases l with _ | ⟨x, l⟩
        · exact absurd rfl hl
        · simp)]
      simp only
      have hdl : (l.drop q).length = l.length - q := List.length_drop
      rw [partsF_blocks hq flt n f g (l.drop q) (acc ++ l.take q) (fun x hx => h x (List.mem_of_mem_drop hx)) (by rw [List.length_append, List.length_take, hdl]; omega) (by omega) (by omega) (by omega)]
      rw [List.append_assoc, List.take_append_drop]
theorem le32_len (n : Nat) : (le32 n).length = 4 := rfl
theorem le4_le32 (n : Nat) (r : List UInt8) (h : n < 4294967296) : le4 (le32 n ++ r) = n := by
  unfold le4 le32
  simp only [List.cons_append, List.getD_cons_zero, List.getD_cons_succ, UInt8.toNat_ofNat']
  omega
theorem build_len (l : List It) (q : Nat) : (build l q).length = (body l q).length + 8 := by
  unfold build head
  simp only [List.length_append, le32_len]
  omega
theorem inner_build (l : List It) (q : Nat) : inner (build l q) = body l q := by
  unfold inner
  rw [build_len]
  unfold build head
  rw [List.append_assoc, show (4 : Nat) = (le32 (body l q).length).length from rfl, List.drop_left]
  rw [Nat.add_sub_cancel, List.take_left]
/-- what is built is read -/
theorem open_build {l : List It} {q : Nat} (hE : buildE l (q : Int) = 0) (hs : ∀ x ∈ l, x.seq < m64) : openP (build l q) = some (l, q) := by
  obtain ⟨hg, hn, hq1, hq2⟩ := buildE_zero hE
  obtain ⟨hsr, hm⟩ := goodL_srt hg
  have hbl := body_len hm hn q
  have hq : 1 ≤ q := by omega
  unfold openP
  rw [build_len, if_neg (by omega)]
  have h4 : le4 (build l q) = (body l q).length := by
    unfold build head
    rw [List.append_assoc]
    exact le4_le32 _ _ (by omega)
  rw [h4, if_neg (by omega), inner_build, body_blocks hq l]
  rw [pInt_enc _ (by omega) (by omega)]
  simp only
  rw [pInt_enc _ (by omega) (by omega)]
  unfold openQ
  simp only
  have hblk : (blocks q l.length l).length < 18446744073709551616 := by
    have := hbl
    rw [body_blocks hq l] at this
    simp only [List.length_append] at this
    omega
  rw [partsF_blocks hq (filter l l.length) l.length 10001 l.length l [] (fun x hx => ⟨hm x hx, hs x hx⟩) (by simp) (by omega) (Nat.le_refl _) hblk]
  simp only [List.nil_append]
  rw [if_pos ⟨hE, by unfold buildB; rw [hE, if_pos rfl]; simp⟩]
end Go.Proofs.Ytkkeodfoiffofaa.TabP
namespace Go.Proofs.Ytkkeodfoiffofaa.TabP
open Go.RowKit
set_option linter.unusedVariables false
def tailI (l : List It) (x : It) : List It := l.drop (ItP.at_ x l)
def getI (l : List It) (key : List UInt8) (q : Nat) : Option It := ((tailI l ⟨key, q, false, []⟩).head?).filter fun x => x.key == key
theorem drop_tw (p : It → Bool) : ∀ l : List It, l.drop (l.takeWhile p).length = l.dropWhile p
  | [] => rfl
  | y :: r => by
    rw [List.takeWhile_cons, List.dropWhile_cons]
    cases h : p y with
    | true => simpa using drop_tw p r
    | false => simp
theorem tailI_dw (l : List It) (x : It) : tailI l x = l.dropWhile fun y => ItP.ahead y x := by unfold tailI ItP.at_; exact drop_tw _ l
theorem less_nil (a : List UInt8) : ItP.lessK a [] = false := by cases a <;> rfl
theorem all_eq {l : List It} (hq : ∀ x ∈ l, x.seq < m64) : tailI l ⟨[], m64 - 1, false, []⟩ = l := by
  rw [tailI_dw]
  cases l with
  | nil => rfl
  | cons y r =>
    have h := hq y (by simp)
    have hm := m64_eq
    have e : ItP.ahead y ⟨[], m64 - 1, false, []⟩ = false := by
      unfold ItP.ahead
      by_cases hk : y.key = []
      · rw [if_pos hk]; simp; omega
      · rw [if_neg hk]; exact less_nil _
    rw [List.dropWhile_cons, e]
    simp
/-- a key before all others of a sorted list's rest -/
theorem keys_after {y z : It} {key : List UInt8} (h : ItP.ahead y z = true) (hz : ItP.lessK z.key key = true) : ItP.lessK y.key key = true := by
  unfold ItP.ahead at h
  by_cases e : y.key = z.key
  · rw [e]; exact hz
  · rw [if_neg e] at h
    exact ItP.less_trans h hz
theorem from_eq {key : List UInt8} : ∀ {l : List It}, ItP.Srt l → (∀ x ∈ l, x.seq < m64) → tailI l ⟨key, m64 - 1, false, []⟩ = ItP.from_ l key
  | [], _, _ => by rw [tailI_dw]; rfl
  | y :: r, hs, hq => by
    have hm := m64_eq
    have hy := hq y (by simp)
    unfold ItP.Srt at hs
    rw [List.pairwise_cons] at hs
    have ih := from_eq (key := key) (l := r) hs.2 fun x hx => hq x (by simp [hx])
    rw [tailI_dw] at ih ⊢
    have e : ItP.ahead y ⟨key, m64 - 1, false, []⟩ = ItP.lessK y.key key := by
      unfold ItP.ahead
      by_cases hk : y.key = key
      · rw [if_pos hk, hk, ItP.less_irrefl]; simp; omega
      · rw [if_neg hk]
    rw [List.dropWhile_cons, e]
    unfold ItP.from_ at ih ⊢
    cases hl : ItP.lessK y.key key with
    | true =>
      rw [List.filter_cons, hl]
      simpa using ih
    | false =>
      rw [List.filter_cons, hl]
      simp only [Bool.false_eq_true, if_false, Bool.not_false, if_true]
      congr 1
      symm
      rw [List.filter_eq_self]
      intro z hz
      cases hl2 : ItP.lessK z.key key with
      | false => rfl
      | true => rw [keys_after (hs.1 z hz) hl2] at hl; cases hl
theorem best_stays {key : List UInt8} {q : Nat} {b : It} : ∀ {r : List It}, (∀ z ∈ r, z.key = key → z.seq ≤ b.seq) → r.foldl (ItP.best key q) (some b) = some b
  | [], _ => rfl
  | z :: r, h => by
    have e : ItP.best key q (some b) z = some b := by
      unfold ItP.best
      split
      · rename_i hc
        have := h z (by simp) hc.1
        simp only
        rw [if_neg (by omega)]
      · rfl
    rw [List.foldl_cons, e]
    exact best_stays fun x hx => h x (by simp [hx])
theorem best_none {key : List UInt8} {q : Nat} : ∀ {r : List It}, (∀ z ∈ r, z.key ≠ key) → r.foldl (ItP.best key q) none = none
  | [], _ => rfl
  | z :: r, h => by
    have e : ItP.best key q none z = none := by
      unfold ItP.best
      rw [if_neg fun hc => h z (by simp) hc.1]
    rw [List.foldl_cons, e]
    exact best_none fun x hx => h x (by simp [hx])
theorem get_eq {key : List UInt8} {q : Nat} : ∀ {l : List It}, ItP.Srt l → getI l key q = ItP.get l key q
  | [], _ => by unfold getI; rw [tailI_dw]; rfl
  | y :: r, hs => by
    unfold ItP.Srt at hs
    rw [List.pairwise_cons] at hs
    have ih := get_eq (key := key) (q := q) (l := r) hs.2
    unfold getI ItP.get at ih ⊢
    rw [tailI_dw] at ih ⊢
    rw [List.dropWhile_cons, List.foldl_cons]
    by_cases hk : y.key = key
    · have e : ItP.ahead y ⟨key, q, false, []⟩ = decide (q < y.seq) := by unfold ItP.ahead; rw [if_pos hk]
      rw [e]
      by_cases hq : q < y.seq
      · have e2 : ItP.best key q none y = none := by unfold ItP.best; rw [if_neg (by omega)]
        rw [e2]
        simpa [hq] using ih
      · have e2 : ItP.best key q none y = some y := by unfold ItP.best; rw [if_pos ⟨hk, by omega⟩]
        rw [e2, best_stays (fun z hz hzk => by
          have := hs.1 z hz
          unfold ItP.ahead at this
          rw [if_pos (by rw [hk, hzk])] at this
          simp at this
          omega)]
        simp [hq, hk]
    · have e : ItP.ahead y ⟨key, q, false, []⟩ = ItP.lessK y.key key := by unfold ItP.ahead; rw [if_neg hk]
      have e2 : ItP.best key q none y = none := by unfold ItP.best; rw [if_neg fun hc => hk hc.1]
      rw [e, e2]
      cases hl : ItP.lessK y.key key with
      | true => simpa using ih
      | false =>
        have hgt : ItP.lessK key y.key = true := by
          rcases ItP.less_total hk with h | h
          · rw [h] at hl; cases hl
          · exact h
        rw [best_none (fun z hz hzk => by
          have := hs.1 z hz
          unfold ItP.ahead at this
          by_cases e : y.key = z.key
          · exact hk (by rw [e, hzk])
          · rw [if_neg e, hzk] at this
            rw [this] at hl
            cases hl)]
        simp [hk]
end Go.Proofs.Ytkkeodfoiffofaa.TabP
namespace Go.Proofs.Ytkkeodfoiffofaa
open Go.RowKit
set_option linter.unusedVariables false
/-- the bytes behind k rounds -/
def told (l : List UInt8) (at_ : Nat) (s : BitVec 32) : Nat → List UInt8
  | 0 => l
  | k + 1 => (told l at_ s k).set (at_ + k) ((told l at_ s k).getD (at_ + k) 0 ^^^ byteOf s k)
theorem told_len (l : List UInt8) (at_ : Nat) (s : BitVec 32) : ∀ k, (told l at_ s k).length = l.length
  | 0 => rfl
  | k + 1 => by rw [told, List.length_set, told_len l at_ s k]
theorem four_at (l : List UInt8) (at_ : Nat) (h : at_ + 4 ≤ l.length) : ∃ p q b0 b1 b2 b3, l = p ++ [b0, b1, b2, b3] ++ q ∧ p.length = at_ := by
  refine ⟨l.take at_, l.drop (at_ + 4), l[at_], l[at_ + 1], l[at_ + 2], l[at_ + 3], ?_, by simp; omega⟩
  have h1 : l.drop at_ = l[at_] :: l[at_ + 1] :: l[at_ + 2] :: l[at_ + 3] :: l.drop (at_ + 4) := by
    rw [List.drop_eq_getElem_cons (by omega), List.drop_eq_getElem_cons (by omega), List.drop_eq_getElem_cons (by omega), List.drop_eq_getElem_cons (by omega)]
  have h2 := List.take_append_drop at_ l
  rw [h1] at h2
  simp
theorem told_four (p q : List UInt8) (b0 b1 b2 b3 : UInt8) (s : BitVec 32) :
    told (p ++ [b0, b1, b2, b3] ++ q) p.length s 4 = p ++ [b0 ^^^ byteOf s 0, b1 ^^^ byteOf s 1, b2 ^^^ byteOf s 2, b3 ^^^ byteOf s 3] ++ q := by
  simp [told]
theorem told_iff (l : List UInt8) (at_ : Nat) (s : BitVec 32) (h : at_ + 4 ≤ l.length) : CrcP.sum (told l at_ s 4) = CrcP.sum l ↔ s = 0#32 := by
  obtain ⟨p, q, b0, b1, b2, b3, rfl, rfl⟩ := four_at l at_ h
  rw [told_four, ← byteOf_zero]
  exact CrcP.tells 0 p q b0 b1 b2 b3 _ _ _ _
namespace TabP
theorem byteOf_nat (s : BitVec 32) (k : Nat) : (byteOf s k).toNat = s.toNat / 2 ^ (8 * k) % 256 := by
  unfold byteOf
  rw [UInt8.toNat_ofNat', Nat.mod_mod]
theorem part_bit (n j i : Nat) : (n / 2 ^ j % 256 * 2 ^ j).testBit i = (decide (j ≤ i) && decide (i < j + 8) && n.testBit i) := by
  rw [Nat.mul_comm, Nat.testBit_two_pow_mul, show 256 = 2 ^ 8 from rfl, Nat.testBit_mod_two_pow, Nat.testBit_div_two_pow]
  by_cases h : j ≤ i
  · have e : i - j + j = i := by omega
    rw [e]
    by_cases h2 : i < j + 8
    · simp [h, h2, show i - j < 8 by omega]
    · simp [h, h2, show ¬ i - j < 8 by omega]
  · simp [h]
theorem four_word (s : BitVec 32) : CrcP.byte (byteOf s 0) ^^^ BitVec.ofNat 32 ((byteOf s 1).toNat * 256) ^^^ BitVec.ofNat 32 ((byteOf s 2).toNat * 65536) ^^^ BitVec.ofNat 32 ((byteOf s 3).toNat * 16777216) = s := by
  apply BitVec.eq_of_getLsbD_eq
  intro i hi
  unfold CrcP.byte
  simp only [BitVec.getLsbD_xor, BitVec.getLsbD_ofNat, hi, decide_true, Bool.true_and, byteOf_nat]
  have h0 := part_bit s.toNat 0 i
  have h1 := part_bit s.toNat 8 i
  have h2 := part_bit s.toNat 16 i
  have h3 := part_bit s.toNat 24 i
  rw [show (2 : Nat) ^ 0 = 1 from rfl, Nat.mul_one] at h0
  rw [show (2 : Nat) ^ 8 = 256 from rfl] at h1
  rw [show (2 : Nat) ^ 16 = 65536 from rfl] at h2
  rw [show (2 : Nat) ^ 24 = 16777216 from rfl] at h3
  rw [show (2 : Nat) ^ (8 * 0) = 1 from rfl, show (2 : Nat) ^ (8 * 1) = 256 from rfl, show (2 : Nat) ^ (8 * 2) = 65536 from rfl, show (2 : Nat) ^ (8 * 3) = 16777216 from rfl, h0, h1, h2, h3, BitVec.testBit_toNat]
  by_cases g1 : i < 8
  · simp [g1, show ¬ 8 ≤ i by omega, show ¬ 16 ≤ i by omega, show ¬ 24 ≤ i by omega]
  by_cases g2 : i < 16
  · simp [g1, g2, show 8 ≤ i by omega, show ¬ 16 ≤ i by omega, show ¬ 24 ≤ i by omega]
  by_cases g3 : i < 24
  · simp [g1, g2, g3, show 8 ≤ i by omega, show 16 ≤ i by omega, show ¬ 24 ≤ i by omega]
  · simp [g1, g2, g3, show 8 ≤ i by omega, show 16 ≤ i by omega, show 24 ≤ i by omega, show i < 32 from hi]
def four (s : BitVec 32) : List UInt8 := [byteOf s 0, byteOf s 1, byteOf s 2, byteOf s 3]
theorem le32_four (s : BitVec 32) : le32 s.toNat = four s := by
  have e : ∀ n : Nat, UInt8.ofNat (n % 256) = UInt8.ofNat n := fun n => by rw [← UInt8.toNat_inj, UInt8.toNat_ofNat', UInt8.toNat_ofNat', Nat.mod_mod]
  unfold le32 four byteOf
  rw [e, e, e, e, show (2 : Nat) ^ (8 * 0) = 1 from rfl, show (2 : Nat) ^ (8 * 1) = 256 from rfl, show (2 : Nat) ^ (8 * 2) = 65536 from rfl, show (2 : Nat) ^ (8 * 3) = 16777216 from rfl, Nat.div_one]
theorem reg_four (c s : BitVec 32) : CrcP.reg c (four s) = CrcP.step8 (CrcP.step8 (CrcP.step8 (CrcP.step8 (c ^^^ s)))) := by
  have h := CrcP.reg_xor2 [0, 0, 0, 0] (four s) c 0#32 rfl
  have hz : List.zipWith (· ^^^ ·) [0, 0, 0, 0] (four s) = four s := by simp [four]
  have h0 : CrcP.reg c [0, 0, 0, 0] = CrcP.step8 (CrcP.step8 (CrcP.step8 (CrcP.step8 c))) := by
    have : CrcP.byte 0 = 0#32 := rfl
    simp [CrcP.reg, this]
  rw [hz, h0] at h
  have h1 := CrcP.four_step (byteOf s 0) (byteOf s 1) (byteOf s 2) (byteOf s 3)
  rw [four_word] at h1
  rw [show CrcP.reg 0#32 (four s) = _ from h1] at h
  simp only [BitVec.xor_zero] at h
  rw [h, CrcP.step8_xor, CrcP.step8_xor, CrcP.step8_xor, CrcP.step8_xor]
/-- bytes with their own sum behind them: one sum for all -/
theorem sum_own (h : List UInt8) : CrcP.sum (h ++ le32 (CrcP.sum h).toNat) = ~~~ CrcP.step8 (CrcP.step8 (CrcP.step8 (CrcP.step8 (BitVec.allOnes 32)))) := by
  rw [le32_four]
  unfold CrcP.sum CrcP.more
  rw [CrcP.reg_append, reg_four]
  have : ∀ r : BitVec 32, r ^^^ ~~~ r = BitVec.allOnes 32 := fun r => by
    apply BitVec.eq_of_getLsbD_eq
    intro i hi
    rw [BitVec.getLsbD_xor, BitVec.getLsbD_not, BitVec.getLsbD_allOnes]
    cases r.getLsbD i <;> simp [hi]
  rw [this]
theorem sum_build {l : List It} {a : Int} (h : buildE l a = 0) : CrcP.sum (buildB l a) = ~~~ CrcP.step8 (CrcP.step8 (CrcP.step8 (CrcP.step8 (BitVec.allOnes 32)))) := by
  unfold buildB
  rw [if_pos h]
  exact sum_own _
/-- a change within four bytes -/
theorem open_told {l : List It} {a : Int} {p : Nat} {s : BitVec 32} (hE : buildE l a = 0) (hp : p + 4 ≤ (buildB l a).length) (hs : s ≠ 0#32) : openP (told (buildB l a) p s 4) = none := by
  cases h : openP (told (buildB l a) p s 4) with
  | none => rfl
  | some x =>
    obtain ⟨h1, h2⟩ := open_built (l := x.1) (k := x.2) h
    have h3 := sum_build h1
    rw [h2] at h3
    exact absurd ((told_iff _ p s hp).1 (h3.trans (sum_build hE).symm)) hs
theorem le4_take {b : List UInt8} {m : Nat} (h : 4 ≤ m) : le4 (b.take m) = le4 b := by
  have e : ∀ i, i < 4 → (b.take m).getD i 0 = b.getD i 0 := fun i hi => by
    simp only [List.getD_eq_getElem?_getD]
    rw [List.getElem?_take_of_lt (by omega)]
  unfold le4
  rw [e 0 (by omega), e 1 (by omega), e 2 (by omega), e 3 (by omega)]
theorem le4_build {l : List It} {a : Int} (h : buildE l a = 0) : le4 (buildB l a) + 8 = (buildB l a).length := by
  obtain ⟨h1, h2, h3, h4⟩ := buildE_zero h
  have h5 := body_len (goodL_srt h1).2 h2 a.toNat
  unfold buildB
  rw [if_pos h, build_len]
  unfold build head
  rw [List.append_assoc, le4_le32 _ _ (by omega)]
/-- bytes cut at their end -/
theorem open_cut {l : List It} {a : Int} {m : Nat} (hE : buildE l a = 0) (hm : m < (buildB l a).length) : openP ((buildB l a).take m) = none := by
  cases h : openP ((buildB l a).take m) with
  | none => rfl
  | some x =>
    obtain ⟨h1, h2⟩ := open_built (l := x.1) (k := x.2) h
    have h3 := le4_build h1
    have h4 := le4_build hE
    rw [h2] at h3
    have h5 : ((buildB l a).take m).length = m := by simp; omega
    rw [h5, le4_take (by omega)] at h3
    omega
end TabP
end Go.Proofs.Ytkkeodfoiffofaa
