/- A node put into the skip list, level by level: what it does to the list. -/
import Derived.Test.YtkkeodfoiffofaaMemPlain
namespace Go.Proofs.Ytkkeodfoiffofaa
open Go.RowKit
set_option linter.unusedVariables false
namespace MemP
theorem split3 {α : Type} : ∀ {P S A R : List α} {n q : α}, P ++ n :: S = A ++ q :: R →
    (∃ X, P = A ++ q :: X ∧ R = X ++ n :: S) ∨ (A = P ∧ q = n ∧ R = S) ∨ (∃ X, A = P ++ n :: X ∧ S = X ++ q :: R)
  | [], S, [], R, n, q, h => by
    simp only [List.nil_append, List.cons.injEq] at h
    exact .inr (.inl ⟨rfl, h.1.symm, h.2.symm⟩)
  | [], S, a :: A, R, n, q, h => by
    simp only [List.nil_append, List.cons_append, List.cons.injEq] at h
    exact .inr (.inr ⟨A, by rw [h.1]; rfl, h.2⟩)
  | p :: P, S, [], R, n, q, h => by
    simp only [List.nil_append, List.cons_append, List.cons.injEq] at h
    exact .inl ⟨P, by rw [h.1]; rfl, h.2.symm⟩
  | p :: P, S, a :: A, R, n, q, h => by
    simp only [List.cons_append, List.cons.injEq] at h
    obtain ⟨rfl, h⟩ := h
    rcases split3 h with ⟨X, e1, e2⟩ | ⟨e1, e2, e3⟩ | ⟨X, e1, e2⟩
    · exact .inl ⟨X, by rw [e1]; rfl, e2⟩
    · exact .inr (.inl ⟨by rw [e1], e2, e3⟩)
    · exact .inr (.inr ⟨X, by rw [e1]; rfl, e2⟩)
theorem nxt_congr {X S : List Nd} {n1 n2 : Nd} {i : Nat} (hb : n1.b = n2.b) (h : i < n1.h ↔ i < n2.h) : nxt (X ++ n1 :: S) i = nxt (X ++ n2 :: S) i := by
  unfold nxt
  rw [List.find?_append, List.find?_append, List.find?_cons, List.find?_cons]
  have e : decide (i < n1.h) = decide (i < n2.h) := by rw [Bool.eq_iff_iff]; simp [h]
  rw [e]
  cases decide (i < n2.h) with
  | false => rfl
  | true =>
    cases hf : X.find? (fun nd => decide (i < nd.h)) with
    | none => simp [hb]
    | some y => rfl
theorem nxt_zero {X S : List Nd} {n : Nd} {i : Nat} (h : ¬ i < n.h) : nxt (X ++ n :: S) i = nxt (X ++ S) i := by
  unfold nxt
  rw [List.find?_append, List.find?_append, List.find?_cons]
  simp [h]
theorem nxt_past {X S : List Nd} {i : Nat} (h : ∀ q ∈ X, q.h ≤ i) : nxt (X ++ S) i = nxt S i := by
  unfold nxt
  rw [List.find?_append]
  have : X.find? (fun nd => decide (i < nd.h)) = none := by
    rw [List.find?_eq_none]
    intro q hq
    have := h q hq
    simp; omega
  rw [this]
  simp
theorem nxt_mem {X S S' : List Nd} {nd : Nd} {i : Nat} (h : nd ∈ X) (hi : i < nd.h) : nxt (X ++ S) i = nxt (X ++ S') i := by
  unfold nxt
  rw [List.find?_append, List.find?_append]
  cases hf : X.find? (fun nd => decide (i < nd.h)) with
  | none =>
    rw [List.find?_eq_none] at hf
    have := hf nd h
    simp [hi] at this
  | some y => rfl
theorem nxt_here {S : List Nd} {n : Nd} {i : Nat} (h : i < n.h) : nxt (n :: S) i = some ⟨n.b, 0, none⟩ := by
  unfold nxt
  rw [List.find?_cons]
  simp [h]
theorem uniq_r {A R A' R' : List Nd} {n q : Nd} (h : ((A ++ n :: R).map (·.r)).Nodup) (e : A ++ n :: R = A' ++ q :: R') (hr : n.r = q.r) : A = A' ∧ n = q ∧ R = R' := by
  rcases split3 e with ⟨X, e1, e2⟩ | ⟨e1, e2, e3⟩ | ⟨X, e1, e2⟩
  · exfalso
    rw [List.map_append, List.map_cons, List.nodup_append] at h
    exact h.2.2 q.r (List.mem_map.2 ⟨q, by rw [e1]; simp, rfl⟩) n.r (by simp) hr.symm
  · exact ⟨e1.symm, e2.symm, e3.symm⟩
  · exfalso
    rw [List.map_append, List.map_cons, List.nodup_append, List.nodup_cons] at h
    exact h.2.1.1 (by rw [hr, e2]; simp)
end MemP
open MemP
/-- the new node, linked on its first j levels -/
abbrev atLevel (nu : Nd) (j : Nat) : Nd := { nu with h := j }
theorem Lst.start {w w' : World} {B : Nat} {P S : List Nd} {nu : Nd} (h : Lst w B (P ++ S)) (hk : ∀ g, g < w.heap.size → w'.heap[g]? = w.heap[g]?) (hb : w.heap.size ≤ nu.b) (hr : w.heap.size ≤ nu.r) (hB : B ≤ w.heap.size)
    (hn : NodeC w' nu) (cs : Array Value) (hrow : w'.heap[nu.r]? = some (.cells cs 73 (0, 0))) (hs : cs.size = nu.s) : Lst w' B (P ++ atLevel nu 0 :: S) := by
  have hkeep : ∀ g, blksN (P ++ S) g → w'.heap[g]? = w.heap[g]? := fun g hg => hk g (h.lt g hg).2
  refine ⟨fun nd hm => ?_, fun A nd R e => ?_, ?_, fun nd hm => ?_, ?_⟩
  · rcases List.mem_append.1 hm with hm | hm
    · exact (h.node nd (by simp [hm])).keep (hkeep _ ⟨nd, by simp [hm], .inl rfl⟩)
    · rcases List.mem_cons.1 hm with rfl | hm
      · exact hn
      · exact (h.node nd (by simp [hm])).keep (hkeep _ ⟨nd, by simp [hm], .inl rfl⟩)
  · rcases split3 e with ⟨X, e1, e2⟩ | ⟨e1, e2, e3⟩ | ⟨X, e1, e2⟩
    · have h1 := h.row A nd (X ++ S) (by rw [e1]; simp)
      obtain ⟨c, q1, q2, q3, q4⟩ := h1
      refine ⟨c, (hkeep _ ⟨nd, by rw [e1]; simp, .inr rfl⟩).trans q1, q2, q3, fun i hi => ?_⟩
      rw [e2, nxt_zero (by simp)]
      exact q4 i hi
    · subst e2
      exact ⟨cs, hrow, hs, Nat.zero_le _, fun i hi => by simp at hi⟩
    · exact (h.row (P ++ X) nd R (by rw [e2]; simp)).keep (hkeep _ ⟨nd, by rw [e2]; simp, .inr rfl⟩)
  · have h1 := h.apart
    rw [List.map_append] at h1
    rw [List.map_append, List.map_cons, List.nodup_append] 
    rw [List.nodup_append] at h1
    have hnew : ∀ a ∈ P ++ S, a.r ≠ nu.r := fun a ha e => by
      have := (h.lt a.r ⟨a, ha, .inr rfl⟩).2
      omega
    refine ⟨h1.1, List.nodup_cons.2 ⟨fun hm => ?_, h1.2.1⟩, fun a ha b hb => ?_⟩
    · obtain ⟨q, hq, e⟩ := List.mem_map.1 hm
      exact hnew q (by simp [hq]) e
    · rcases List.mem_cons.1 hb with rfl | hb
      · obtain ⟨q, hq, rfl⟩ := List.mem_map.1 ha
        exact hnew q (by simp [hq])
      · exact h1.2.2 a ha b hb
  · rcases List.mem_append.1 hm with hm | hm
    · exact h.base nd (by simp [hm])
    · rcases List.mem_cons.1 hm with rfl | hm
      · exact ⟨by show B ≤ nu.b; omega, by show B ≤ nu.r; omega⟩
      · exact h.base nd (by simp [hm])
  · have h1 := h.tops
    rw [List.map_append] at h1
    rw [List.map_append, List.map_cons, List.nodup_append]
    rw [List.nodup_append] at h1
    have hnew : ∀ a ∈ P ++ S, a.b ≠ nu.b := fun a ha e => by
      have := (h.lt a.b ⟨a, ha, .inl rfl⟩).2
      omega
    refine ⟨h1.1, List.nodup_cons.2 ⟨fun hm => ?_, h1.2.1⟩, fun a ha b hb => ?_⟩
    · obtain ⟨q, hq, e⟩ := List.mem_map.1 hm
      exact hnew q (by simp [hq]) e
    · rcases List.mem_cons.1 hb with rfl | hb
      · obtain ⟨q, hq, rfl⟩ := List.mem_map.1 ha
        exact hnew q (by simp [hq])
      · exact h1.2.2 a ha b hb
/-- one level more -/
theorem Lst.level {w w' : World} {B : Nat} {P S A A2 : List Nd} {nu nd : Nd} {j : Nat} (h : Lst w B (P ++ atLevel nu j :: S)) (hj : j < nu.s) (hP : P = A ++ nd :: A2) (hnd : j < nd.h) (hA2 : ∀ a ∈ A2, a.h ≤ j)
    (hk : ∀ g, g ≠ nu.r → g ≠ nd.r → w'.heap[g]? = w.heap[g]?)
    (hnu : ∀ cs, w.heap[nu.r]? = some (.cells cs 73 (0, 0)) → w'.heap[nu.r]? = some (.cells (cs.setIfInBounds j (.pointer (nxt S j))) 73 (0, 0)))
    (hnr : ∀ cs, w.heap[nd.r]? = some (.cells cs 73 (0, 0)) → w'.heap[nd.r]? = some (.cells (cs.setIfInBounds j (.pointer (some ⟨nu.b, 0, none⟩))) 73 (0, 0))) : Lst w' B (P ++ atLevel nu (j + 1) :: S) := by
  have hmem : ∀ q ∈ P ++ atLevel nu (j + 1) :: S, ∃ q' ∈ P ++ atLevel nu j :: S, q'.b = q.b ∧ q'.r = q.r ∧ q'.s = q.s ∧ q'.x = q.x := fun q hq => by
    rcases List.mem_append.1 hq with hq | hq
    · exact ⟨q, by simp [hq], rfl, rfl, rfl, rfl⟩
    · rcases List.mem_cons.1 hq with rfl | hq
      · exact ⟨atLevel nu j, by simp, rfl, rfl, rfl, rfl⟩
      · exact ⟨q, by simp [hq], rfl, rfl, rfl, rfl⟩
  have hndm : nd ∈ P ++ atLevel nu j :: S := by rw [hP]; simp
  have hnum : atLevel nu j ∈ P ++ atLevel nu j :: S := by simp
  refine ⟨fun q hq => ?_, fun A' q R' e => ?_, ?_, fun q hq => ?_, ?_⟩
  · obtain ⟨q', hm, e1, e2, e3, e4⟩ := hmem q hq
    obtain ⟨cs, t, k1, k2, k3⟩ := h.node q' hm
    refine ⟨cs, t, ?_, k2, by rw [← e4, ← e2, ← e3]; exact k3⟩
    rw [← e1, hk q'.b (h.b_ne_r (q := atLevel nu j) hm hnum) (h.b_ne_r hm hndm)]
    exact k1
  · rcases split3 e with ⟨X, e1, e2⟩ | ⟨e1, e2, e3⟩ | ⟨X, e1, e2⟩
    · have hrow := h.row A' q (X ++ atLevel nu j :: S) (by rw [e1]; simp)
      have hne : q.r ≠ nu.r := fun e => by
        have := uniq_r (A := A') (n := q) (R := X ++ atLevel nu j :: S) (A' := P) (q := atLevel nu j) (R' := S) (by have := h.apart; rw [e1] at this; simpa using this) (by rw [e1]; simp) e
        have h1 := this.1
        rw [e1] at h1
        have := congrArg List.length h1
        simp at this
      by_cases hq : q.r = nd.r
      · obtain ⟨u1, u2, u3⟩ := uniq_r (A := A') (n := q) (R := X) (A' := A) (q := nd) (R' := A2) (by
          have := h.apart
          rw [e1, List.map_append, List.nodup_append] at this
          exact this.1) (by rw [← e1, hP]) hq
        subst u1 u2 u3
        obtain ⟨cs, k1, k2, k3, k4⟩ := hrow
        refine ⟨_, hnr cs k1, by simpa using k2, k3, fun i hi => ?_⟩
        rw [e2]
        by_cases hij : j = i
        · subst hij
          rw [Array.getElem?_setIfInBounds, if_pos rfl, if_pos (by omega), nxt_past hA2, nxt_here (by show j < j + 1; omega)]
        · rw [Array.getElem?_setIfInBounds, if_neg hij, k4 i hi]
          congr 2
          exact nxt_congr rfl (by show i < j ↔ i < j + 1; omega)
      · obtain ⟨cs, k1, k2, k3, k4⟩ := hrow
        refine ⟨cs, (hk q.r hne hq).trans k1, k2, k3, fun i hi => ?_⟩
        rw [e2, k4 i hi]
        congr 2
        by_cases hij : i = j
        · subst hij
          have e5 : A ++ nd :: A2 = A' ++ q :: X := by rw [← hP, e1]
          rcases split3 e5 with ⟨Y, f1, f2⟩ | ⟨f1, f2, f3⟩ | ⟨Y, f1, f2⟩
          · exact nxt_mem (nd := nd) (by rw [f2]; simp) hnd
          · exact absurd (by rw [f2]) hq
          · have := hA2 q (by rw [f2]; simp)
            omega
        · exact nxt_congr rfl (by show i < j ↔ i < j + 1; omega)
    · subst e2 e3
      obtain ⟨cs, k1, k2, k3, k4⟩ := h.row P (atLevel nu j) _ rfl
      refine ⟨_, hnu cs k1, by simpa using k2, by show j + 1 ≤ nu.s; omega, fun i hi => ?_⟩
      have k2' : cs.size = nu.s := k2
      by_cases hij : j = i
      · subst hij
        rw [Array.getElem?_setIfInBounds, if_pos rfl, if_pos (by omega)]
      · have hi' : i < j + 1 := hi
        rw [Array.getElem?_setIfInBounds, if_neg hij]
        exact k4 i (by show i < j; omega)
    · have hrow := h.row (P ++ atLevel nu j :: X) q R' (by rw [e2]; simp)
      have hno := h.apart
      rw [List.map_append, List.map_cons, List.nodup_append, List.nodup_cons] at hno
      have hqS : q.r ∈ S.map (·.r) := by rw [e2]; simp
      refine hrow.keep (hk q.r (fun e => hno.2.1.1 (by show nu.r ∈ _; rw [← e]; exact hqS)) (fun e => ?_))
      exact hno.2.2 nd.r (by rw [hP]; simp) q.r (by simp only [List.mem_cons]; exact .inr hqS) e.symm
  · have := h.apart
    simpa using this
  · obtain ⟨q', hm, e1, e2, _⟩ := hmem q hq
    have := h.base q' hm
    rw [← e1, ← e2]
    exact this
  · have := h.tops
    simpa using this
end Go.Proofs.Ytkkeodfoiffofaa
