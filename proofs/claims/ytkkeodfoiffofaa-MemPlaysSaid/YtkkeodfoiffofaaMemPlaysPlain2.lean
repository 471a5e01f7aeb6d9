/- What a keeper in memory tells is what the reference tells, plainly. -/
import Derived.Test.YtkkeodfoiffofaaMemL
namespace Go.Proofs.Ytkkeodfoiffofaa
open Go.RowKit
set_option linter.unusedVariables false
open MemP
theorem drop_tw (p : It → Bool) : ∀ l : List It, l.drop (l.takeWhile p).length = l.dropWhile p
  | [] => rfl
  | y :: r => by
    rw [List.takeWhile_cons, List.dropWhile_cons]
    cases h : p y with
    | true => simpa using drop_tw p r
    | false => simp
theorem tailI_dw (l : List It) (x : It) : tailI l x = l.dropWhile fun y => ItP.ahead y x := by unfold tailI ItP.at_; exact drop_tw _ l
theorem less_nil (a : List UInt8) : ItP.lessK a [] = false := by cases a <;> rfl
theorem all_eq {l : List It} (hq : ∀ x ∈ l, x.seq < m64) : tailI l ⟨[], m64 - 1, false, []⟩ = l := by
  rw [tailI_dw]
  cases l with
  | nil => rfl
  | cons y r =>
    have h := hq y (by simp)
    have hm := m64_eq
    have e : ItP.ahead y ⟨[], m64 - 1, false, []⟩ = false := by
      unfold ItP.ahead
      by_cases hk : y.key = []
      · rw [if_pos hk]; simp; omega
      · rw [if_neg hk]; exact less_nil _
    rw [List.dropWhile_cons, e]
    simp
/-- a key before all others of a sorted list's rest -/
theorem keys_after {y z : It} {key : List UInt8} (h : ItP.ahead y z = true) (hz : ItP.lessK z.key key = true) : ItP.lessK y.key key = true := by
  unfold ItP.ahead at h
  by_cases e : y.key = z.key
  · rw [e]; exact hz
  · rw [if_neg e] at h
    exact ItP.less_trans h hz
theorem from_eq {key : List UInt8} : ∀ {l : List It}, ItP.Srt l → (∀ x ∈ l, x.seq < m64) → tailI l ⟨key, m64 - 1, false, []⟩ = ItP.from_ l key
  | [], _, _ => by rw [tailI_dw]; rfl
  | y :: r, hs, hq => by
    have hm := m64_eq
    have hy := hq y (by simp)
    unfold ItP.Srt at hs
    rw [List.pairwise_cons] at hs
    have ih := from_eq (key := key) (l := r) hs.2 fun x hx => hq x (by simp [hx])
    rw [tailI_dw] at ih ⊢
    have e : ItP.ahead y ⟨key, m64 - 1, false, []⟩ = ItP.lessK y.key key := by
      unfold ItP.ahead
      by_cases hk : y.key = key
      · rw [if_pos hk, hk, ItP.less_irrefl]; simp; omega
      · rw [if_neg hk]
    rw [List.dropWhile_cons, e]
    unfold ItP.from_ at ih ⊢
    cases hl : ItP.lessK y.key key with
    | true =>
      rw [List.filter_cons, hl]
      simpa using ih
    | false =>
      rw [List.filter_cons, hl]
      simp only [Bool.false_eq_true, if_false, Bool.not_false, if_true]
      congr 1
      symm
      rw [List.filter_eq_self]
      intro z hz
      cases hl2 : ItP.lessK z.key key with
      | false => rfl
      | true => rw [keys_after (hs.1 z hz) hl2] at hl; cases hl
theorem best_stays {key : List UInt8} {q : Nat} {b : It} : ∀ {r : List It}, (∀ z ∈ r, z.key = key → z.seq ≤ b.seq) → r.foldl (ItP.best key q) (some b) = some b
  | [], _ => rfl
  | z :: r, h => by
    have e : ItP.best key q (some b) z = some b := by
      unfold ItP.best
      split
      · rename_i hc
        have := h z (by simp) hc.1
        simp only
        rw [if_neg (by omega)]
      · rfl
    rw [List.foldl_cons, e]
    exact best_stays fun x hx => h x (by simp [hx])
theorem best_none {key : List UInt8} {q : Nat} : ∀ {r : List It}, (∀ z ∈ r, z.key ≠ key) → r.foldl (ItP.best key q) none = none
  | [], _ => rfl
  | z :: r, h => by
    have e : ItP.best key q none z = none := by
      unfold ItP.best
      rw [if_neg fun hc => h z (by simp) hc.1]
    rw [List.foldl_cons, e]
    exact best_none fun x hx => h x (by simp [hx])
theorem get_eq {key : List UInt8} {q : Nat} : ∀ {l : List It}, ItP.Srt l → getI l key q = ItP.get l key q
  | [], _ => by unfold getI; rw [tailI_dw]; rfl
  | y :: r, hs => by
    unfold ItP.Srt at hs
    rw [List.pairwise_cons] at hs
    have ih := get_eq (key := key) (q := q) (l := r) hs.2
    unfold getI ItP.get at ih ⊢
    rw [tailI_dw] at ih ⊢
    rw [List.dropWhile_cons, List.foldl_cons]
    by_cases hk : y.key = key
    · have e : ItP.ahead y ⟨key, q, false, []⟩ = decide (q < y.seq) := by unfold ItP.ahead; rw [if_pos hk]
      rw [e]
      by_cases hq : q < y.seq
      · have e2 : ItP.best key q none y = none := by unfold ItP.best; rw [if_neg (by omega)]
        rw [e2]
        simpa [hq] using ih
      · have e2 : ItP.best key q none y = some y := by unfold ItP.best; rw [if_pos ⟨hk, by omega⟩]
        rw [e2, best_stays (fun z hz hzk => by
          have := hs.1 z hz
          unfold ItP.ahead at this
          rw [if_pos (by rw [hk, hzk])] at this
          simp at this
          omega)]
        simp [hq, hk]
    · have e : ItP.ahead y ⟨key, q, false, []⟩ = ItP.lessK y.key key := by unfold ItP.ahead; rw [if_neg hk]
      have e2 : ItP.best key q none y = none := by unfold ItP.best; rw [if_neg fun hc => hk hc.1]
      rw [e, e2]
      cases hl : ItP.lessK y.key key with
      | true => simpa using ih
      | false =>
        have hgt : ItP.lessK key y.key = true := by
          rcases ItP.less_total hk with h | h
          · rw [h] at hl; cases hl
          · exact h
        rw [best_none (fun z hz hzk => by
          have := hs.1 z hz
          unfold ItP.ahead at this
          by_cases e : y.key = z.key
          · exact hk (by rw [e, hzk])
          · rw [if_neg e, hzk] at this
            rw [this] at hl
            cases hl)]
        simp [hk]
end Go.Proofs.Ytkkeodfoiffofaa
