/- Items, plainly: keys' order, items' order, sorted lists, putting one in, asking. -/
import Derived.WalkKit
namespace Go.Proofs.Ytemckkcbakccnaa
open Go.RowKit
/-- numbers of 64 bits lie below -/
def m64 : Nat := 18446744073709551616
theorem m64_eq : m64 = 18446744073709551616 := rfl
/-- an item: key, number, gone or not, value -/
structure It where
  key : List UInt8
  seq : Nat
  gone : Bool
  val : List UInt8
deriving DecidableEq
namespace ItP
abbrev lessK (a b : List UInt8) : Bool := Op.bytesLess a b
theorem less_irrefl : ∀ a : List UInt8, lessK a a = false
  | [] => rfl
  | x :: r => by simp [lessK, Op.bytesLess, UInt8.lt_irrefl]; exact less_irrefl r
theorem less_trans : ∀ {a b c : List UInt8}, lessK a b = true → lessK b c = true → lessK a c = true
  | [], [], _, h, _ => by simp [lessK, Op.bytesLess] at h
  | [], _ :: _, [], _, h => by simp [lessK, Op.bytesLess] at h
  | [], _ :: _, _ :: _, _, _ => rfl
  | _ :: _, [], _, h, _ => by simp [lessK, Op.bytesLess] at h
  | _ :: _, _ :: _, [], _, h => by simp [lessK, Op.bytesLess] at h
  | x :: a, y :: b, z :: c, h1, h2 => by
    simp only [lessK, Op.bytesLess, Bool.or_eq_true, Bool.and_eq_true, decide_eq_true_eq, beq_iff_eq] at h1 h2 ⊢
    rcases h1 with h1 | ⟨rfl, h1⟩
    · rcases h2 with h2 | ⟨rfl, h2⟩
      · exact .inl (UInt8.lt_trans h1 h2)
      · exact .inl h1
    · rcases h2 with h2 | ⟨rfl, h2⟩
      · exact .inl h2
      · exact .inr ⟨rfl, less_trans h1 h2⟩
theorem less_asymm {a b : List UInt8} (h : lessK a b = true) : lessK b a = false := by
  cases h2 : lessK b a with
  | false => rfl
  | true =>
    have := less_trans h h2
    rw [less_irrefl] at this
    cases this
theorem less_ne {a b : List UInt8} (h : lessK a b = true) : a ≠ b := fun e => by
  subst e
  rw [less_irrefl] at h
  cases h
theorem less_total : ∀ {a b : List UInt8}, a ≠ b → lessK a b = true ∨ lessK b a = true
  | [], [], h => absurd rfl h
  | [], _ :: _, _ => .inl rfl
  | _ :: _, [], _ => .inr rfl
  | x :: a, y :: b, h => by
    simp only [lessK, Op.bytesLess, Bool.or_eq_true, Bool.and_eq_true, decide_eq_true_eq, beq_iff_eq]
    by_cases e : x = y
    · subst e
      have h' : a ≠ b := fun e => h (by rw [e])
      rcases less_total h' with h1 | h1
      · exact .inl (.inr ⟨rfl, h1⟩)
      · exact .inr (.inr ⟨rfl, h1⟩)
    · rcases Nat.lt_or_ge x.toNat y.toNat with h1 | h1
      · exact .inl (.inl (UInt8.lt_iff_toNat_lt.2 h1))
      · refine .inr (.inl (UInt8.lt_iff_toNat_lt.2 (Nat.lt_of_le_of_ne h1 fun e2 => e (UInt8.toNat_inj.1 e2.symm))))
/-- does a stand ahead of b? -/
def ahead (a b : It) : Bool := if a.key = b.key then decide (b.seq < a.seq) else lessK a.key b.key
theorem ahead_irrefl (a : It) : ahead a a = false := by simp [ahead]
theorem ahead_trans {a b c : It} (h1 : ahead a b = true) (h2 : ahead b c = true) : ahead a c = true := by
  unfold ahead at *
  by_cases e1 : a.key = b.key
  · rw [if_pos e1] at h1
    by_cases e2 : b.key = c.key
    · rw [if_pos e2] at h2
      rw [if_pos (e1.trans e2)]
      simp at h1 h2 ⊢
      omega
    · rw [if_neg e2] at h2
      rw [if_neg (by rw [e1]; exact e2), e1]
      exact h2
  · rw [if_neg e1] at h1
    by_cases e2 : b.key = c.key
    · rw [if_neg (by rw [← e2]; exact e1), ← e2]
      exact h1
    · rw [if_neg e2] at h2
      have h3 := less_trans h1 h2
      rw [if_neg (less_ne h3)]
      exact h3
theorem ahead_asymm {a b : It} (h : ahead a b = true) : ahead b a = false := by
  cases h2 : ahead b a with
  | false => rfl
  | true =>
    have := ahead_trans h h2
    rw [ahead_irrefl] at this
    cases this
/-- neither ahead of the other: the same key and number -/
theorem ahead_same {a b : It} (h1 : ahead a b = false) (h2 : ahead b a = false) : a.key = b.key ∧ a.seq = b.seq := by
  unfold ahead at *
  by_cases e : a.key = b.key
  · rw [if_pos e] at h1
    rw [if_pos e.symm] at h2
    simp at h1 h2
    exact ⟨e, by omega⟩
  · rw [if_neg e] at h1
    rw [if_neg (fun x => e x.symm)] at h2
    rcases less_total e with h | h
    · rw [h] at h1; cases h1
    · rw [h] at h2; cases h2
theorem not_ahead_of_same {a b : It} (h : a.key = b.key ∧ a.seq = b.seq) : ahead a b = false := by simp [ahead, h.1, h.2]
theorem ahead_congr {a b c : It} (h : a.key = b.key ∧ a.seq = b.seq) : ahead a c = ahead b c := by simp [ahead, h.1, h.2]
theorem ahead_congr' {a b c : It} (h : a.key = b.key ∧ a.seq = b.seq) : ahead c a = ahead c b := by simp [ahead, h.1, h.2]
/-- what the program's compare answers -/
def cmpK (a b : List UInt8) : Int := if lessK a b = true then -1 else if lessK b a = true then 1 else 0
def cmpN (a b : Nat) : Int := if a < b then -1 else if b < a then 1 else 0
def cmp (a b : It) : Int := if cmpK a.key b.key = 0 then cmpN b.seq a.seq else cmpK a.key b.key
theorem cmpK_self (a : List UInt8) : cmpK a a = 0 := by simp [cmpK, less_irrefl]
theorem cmpK_ne {a b : List UInt8} (h : a ≠ b) : cmpK a b ≠ 0 := by
  unfold cmpK
  rcases less_total h with h1 | h1
  · rw [if_pos h1]; decide
  · rw [if_neg (by rw [less_asymm h1]; decide), if_pos h1]; decide
theorem cmp_neg (a b : It) : cmp a b < 0 ↔ ahead a b = true := by
  unfold cmp ahead
  by_cases e : a.key = b.key
  · rw [e, cmpK_self, if_pos rfl, if_pos rfl]
    unfold cmpN
    simp only [decide_eq_true_eq]
    split
    · simp [*]
    · rename_i h
      simp only [h, iff_false]
      split <;> decide
  · rw [if_neg (cmpK_ne e), if_neg e]
    unfold cmpK
    split
    · rename_i h; simp [h]
    · rename_i h
      simp only [h]
      split <;> simp
theorem cmp_zero (a b : It) : cmp a b = 0 ↔ (a.key = b.key ∧ a.seq = b.seq) := by
  unfold cmp
  by_cases e : a.key = b.key
  · rw [e, cmpK_self, if_pos rfl]
    unfold cmpN
    constructor
    · intro h
      refine ⟨rfl, ?_⟩
      split at h
      · cases h
      · split at h
        · cases h
        · omega
    · intro h
      rw [if_neg (by omega), if_neg (by omega)]
  · rw [if_neg (cmpK_ne e)]
    exact ⟨fun h => absurd h (cmpK_ne e), fun h => absurd h.1 e⟩
/-- each stands ahead of all that come behind it -/
def Srt : List It → Prop := List.Pairwise fun a b => ahead a b = true
/-- each one stands ahead of the next one -/
def srt : List It → Bool
  | a :: b :: r => ahead a b && srt (b :: r)
  | _ => true
theorem srt_iff : ∀ {l : List It}, srt l = true ↔ Srt l
  | [] => by simp [srt, Srt]
  | [a] => by simp [srt, Srt]
  | a :: b :: r => by
    have ih := srt_iff (l := b :: r)
    simp only [srt, Bool.and_eq_true, ih]
    unfold Srt
    rw [List.pairwise_cons (a := a)]
    constructor
    · rintro ⟨h1, h2⟩
      refine ⟨fun x hx => ?_, h2⟩
      rcases List.mem_cons.1 hx with rfl | hx
      · exact h1
      · exact ahead_trans h1 ((List.pairwise_cons.1 h2).1 x hx)
    · rintro ⟨h1, h2⟩
      exact ⟨h1 b (by simp), h2⟩
/-- may it be? -/
def may (x : It) : Bool := decide (1 ≤ x.key.length) && decide (x.key.length ≤ 256) && decide (x.val.length ≤ 4096) && !(x.gone && !x.val.isEmpty)
/-- where x goes in: behind all that stand ahead of it, from the beginning -/
def at_ (x : It) (l : List It) : Nat := (l.takeWhile fun y => ahead y x).length
def put (l : List It) (x : It) : List It × Bool :=
  match l.drop (at_ x l) with
  | [] => (l.take (at_ x l) ++ [x], true)
  | y :: r => if ahead x y = true then (l.take (at_ x l) ++ x :: y :: r, true) else (l, false)
theorem at_le (x : It) (l : List It) : at_ x l ≤ l.length := by
  unfold at_
  exact (List.takeWhile_sublist _).length_le
theorem at_of {x : It} : ∀ {l : List It} {k : Nat}, k ≤ l.length → (∀ y ∈ l.take k, ahead y x = true) → (∀ y, l[k]? = some y → ahead y x = false) → at_ x l = k
  | [], k, hk, _, _ => by simp at hk; subst hk; rfl
  | y :: r, 0, _, _, h2 => by
    have := h2 y rfl
    simp [at_, this]
  | y :: r, k + 1, hk, h1, h2 => by
    have h := h1 y (by simp)
    have ih := at_of (x := x) (l := r) (k := k) (by simpa using hk) (fun z hz => h1 z (by simp [hz])) (fun z hz => h2 z (by simpa using hz))
    unfold at_ at ih ⊢
    rw [List.takeWhile_cons, if_pos h, List.length_cons, ih]
/-- the items from a key on -/
def from_ (l : List It) (k : List UInt8) : List It := l.filter fun x => !lessK x.key k
/-- none -/
def none0 : It := ⟨[], 0, false, []⟩
/-- the best so far of a key at a moment -/
def best (k : List UInt8) (q : Nat) (b : Option It) (x : It) : Option It :=
  if x.key = k ∧ x.seq ≤ q then (match b with | none => some x | some y => if y.seq < x.seq then some x else b) else b
def get (l : List It) (k : List UInt8) (q : Nat) : Option It := l.foldl (best k q) none
end ItP
end Go.Proofs.Ytemckkcbakccnaa
