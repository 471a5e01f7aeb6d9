/- The skip list in memory: its nodes one behind the other; who comes next on a level; the last one ahead of a place. -/
import Derived.Test.YtkkeodfoiffofaaItemBox
import Derived.Test.YtkkeodfoiffofaaArr
import Derived.Test.YtkkeodfoiffofaaItemCmp
import Derived.Deep.LoopGhost
namespace Go.Proofs.Ytkkeodfoiffofaa
open Go.RowKit
set_option linter.unusedVariables false
/-- a node: its block, its row's block, on how many levels it is linked, how many its row has, its item -/
structure Nd where
  b : Nat
  r : Nat
  h : Nat
  s : Nat
  x : It
namespace MemP
def pa (b : Nat) : Option Addr := some ⟨b, 0, none⟩
/-- the first node of l that is linked on level i -/
def nxt (l : List Nd) (i : Nat) : Option Addr := (l.find? fun nd => decide (i < nd.h)).map fun nd => ⟨nd.b, 0, none⟩
theorem nxt_nil (i : Nat) : nxt [] i = none := rfl
theorem nxt_none {l : List Nd} {i : Nat} (h : nxt l i = none) : ∀ q ∈ l, q.h ≤ i := by
  intro q hq
  unfold nxt at h
  rw [Option.map_eq_none_iff, List.find?_eq_none] at h
  have := h q hq
  simp at this
  omega
theorem nxt_some {l : List Nd} {i : Nat} {a : Addr} (h : nxt l i = some a) : ∃ A nd R, l = A ++ nd :: R ∧ a = ⟨nd.b, 0, none⟩ ∧ i < nd.h ∧ ∀ q ∈ A, q.h ≤ i := by
  unfold nxt at h
  rw [Option.map_eq_some_iff] at h
  obtain ⟨nd, h1, h2⟩ := h
  rw [List.find?_eq_some_iff_append] at h1
  obtain ⟨h3, A, R, h4, h5⟩ := h1
  refine ⟨A, nd, R, h4, h2.symm, by simpa using h3, fun q hq => ?_⟩
  have := h5 q hq
  simp at this
  omega
/-- nd is the last one that is linked on level i and is the head or stands ahead of x -/
def LastAt (full : List Nd) (x : It) (i : Nat) (nd : Nd) : Prop := ∃ A R, full = A ++ nd :: R ∧ (A = [] ∨ ItP.ahead nd.x x = true) ∧ i < nd.h ∧ ∀ q ∈ R, i < q.h → ItP.ahead q.x x = false
/-- the items of the nodes behind the head are sorted -/
def SrtN (ns : List Nd) : Prop := ItP.Srt (ns.map (·.x))
theorem srt_behind {A R : List Nd} {nd : Nd} {x : It} (h : SrtN (A ++ nd :: R)) (hn : ItP.ahead nd.x x = false) : ∀ q ∈ R, ItP.ahead q.x x = false := by
  intro q hq
  unfold SrtN ItP.Srt at h
  rw [List.map_append, List.map_cons, List.pairwise_append, List.pairwise_cons] at h
  have h1 := h.2.1.1 q.x (List.mem_map.2 ⟨q, hq, rfl⟩)
  cases h2 : ItP.ahead q.x x with
  | false => rfl
  | true =>
    rw [ItP.ahead_trans h1 h2] at hn
    cases hn
theorem srt_suffix {A R : List Nd} (h : SrtN (A ++ R)) : SrtN R := by
  unfold SrtN ItP.Srt at *
  rw [List.map_append, List.pairwise_append] at h
  exact h.2.1
end MemP
def NodeC (w : World) (nd : Nd) : Prop := ∃ (cs : Array Value) (e : TypeId), w.heap[nd.b]? = some (.cells cs e (0, 0)) ∧ (e = 70 ∨ e = 72) ∧ ∀ (j : Nat) (v : Value), (itv nd.x ++ [.slice (some ⟨nd.r, 0, none⟩) nd.s nd.s])[j]? = some v → cs[j]? = some v
def RowC (w : World) (nd : Nd) (rest : List Nd) : Prop := ∃ cs : Array Value, w.heap[nd.r]? = some (.cells cs 73 (0, 0)) ∧ cs.size = nd.s ∧ nd.h ≤ nd.s ∧ ∀ i, i < nd.h → cs[i]? = some (.pointer (MemP.nxt rest i))
structure Lst (w : World) (B : Nat) (full : List Nd) : Prop where
  node : ∀ nd ∈ full, NodeC w nd
  row : ∀ A nd R, full = A ++ nd :: R → RowC w nd R
  apart : (full.map (·.r)).Nodup
  base : ∀ nd ∈ full, B ≤ nd.b ∧ B ≤ nd.r
  tops : (full.map (·.b)).Nodup
/-- the blocks of a list of nodes -/
def blksN (full : List Nd) (g : Nat) : Prop := ∃ nd ∈ full, g = nd.b ∨ g = nd.r
section
variable {w w' : World} {B : Nat} {full : List Nd} {nd : Nd}
theorem NodeC.lt (h : NodeC w nd) : nd.b < w.heap.size := by obtain ⟨cs, e, h, _⟩ := h; exact lt_of_blk h
theorem NodeC.keep (h : NodeC w nd) (hk : w'.heap[nd.b]? = w.heap[nd.b]?) : NodeC w' nd := by
  obtain ⟨cs, e, h, h1⟩ := h
  exact ⟨cs, e, hk.trans h, h1⟩
theorem NodeC.cells (h : NodeC w nd) : (w.cell? ⟨nd.b, 0, none⟩ = some (sv nd.x.key) ∧ w.cell? ⟨nd.b, 1, none⟩ = some (.int .u64 (nd.x.seq : Int)) ∧ w.cell? ⟨nd.b, 2, none⟩ = some (.bool nd.x.gone) ∧ w.cell? ⟨nd.b, 3, none⟩ = some (sv nd.x.val)) ∧
    w.cell? ⟨nd.b, 4, none⟩ = some (.slice (some ⟨nd.r, 0, none⟩) nd.s nd.s) := by
  obtain ⟨cs, e, h, _, h1⟩ := h
  refine ⟨⟨?_, ?_, ?_, ?_⟩, ?_⟩ <;> (rw [cell_blk h]; exact h1 _ _ rfl)
theorem RowC.lt {rest : List Nd} (h : RowC w nd rest) : nd.r < w.heap.size := by obtain ⟨cs, h, _⟩ := h; exact lt_of_blk h
theorem RowC.keep {rest : List Nd} (h : RowC w nd rest) (hk : w'.heap[nd.r]? = w.heap[nd.r]?) : RowC w' nd rest := by
  obtain ⟨cs, h, h1⟩ := h
  exact ⟨cs, hk.trans h, h1⟩
theorem RowC.cell {rest : List Nd} (h : RowC w nd rest) {i : Nat} (hi : i < nd.h) : w.cell? ⟨nd.r, i, none⟩ = some (.pointer (MemP.nxt rest i)) ∧ w.frozen? ⟨nd.r, i, none⟩ = false := by
  obtain ⟨cs, h, _, _, h1⟩ := h
  exact ⟨by rw [cell_blk h]; exact h1 i hi, by simp [World.frozen?, h]⟩
theorem Lst.lt (h : Lst w B full) : ∀ g, blksN full g → B ≤ g ∧ g < w.heap.size := by
  rintro g ⟨nd, hm, rfl | rfl⟩
  · exact ⟨(h.base nd hm).1, (h.node nd hm).lt⟩
  · obtain ⟨A, R, e⟩ := List.append_of_mem hm
    exact ⟨(h.base nd hm).2, (h.row A nd R e).lt⟩
theorem Lst.keep (h : Lst w B full) (hk : ∀ g, blksN full g → w'.heap[g]? = w.heap[g]?) : Lst w' B full :=
  ⟨fun nd hm => (h.node nd hm).keep (hk _ ⟨nd, hm, .inl rfl⟩), fun A nd R e => (h.row A nd R e).keep (hk _ ⟨nd, by rw [e]; simp, .inr rfl⟩), h.apart, h.base, h.tops⟩
theorem Lst.grew (h : Lst w B full) (hg : Grew w w') : Lst w' B full := h.keep fun g hb => hg.block g (h.lt g hb).2
theorem Lst.below {n : Nat} (h : Lst w B full) (hg : Below n w w') (hn : w.heap.size ≤ n) : Lst w' B full := h.keep fun g hb => hg.block g (Nat.lt_of_lt_of_le (h.lt g hb).2 hn)
/-- of which type a node's blocks are -/
theorem Lst.type (h : Lst w B full) {g : Nat} (hb : blksN full g) {cs : Array Value} {e : TypeId} {fr : Nat × Nat} (hg : w.heap[g]? = some (.cells cs e fr)) : e = 70 ∨ e = 72 ∨ e = 73 := by
  obtain ⟨nd, hm, rfl | rfl⟩ := hb
  · obtain ⟨cs', e', h1, h2, _⟩ := h.node nd hm
    rw [h1] at hg
    injection hg with hg
    injection hg with _ hg _
    subst hg
    rcases h2 with h2 | h2
    · exact .inl h2
    · exact .inr (.inl h2)
  · obtain ⟨A, R, e⟩ := List.append_of_mem hm
    obtain ⟨cs', h1, _⟩ := h.row A nd R e
    rw [h1] at hg
    injection hg with hg
    injection hg with _ hg _
    exact .inr (.inr hg.symm)
/-- a node's block is not a row's -/
theorem Lst.b_ne_r (h : Lst w B full) {p q : Nd} (hp : p ∈ full) (hq : q ∈ full) : p.b ≠ q.r := by
  intro e
  obtain ⟨cs, t, h1, h2, _⟩ := h.node p hp
  obtain ⟨A, R, e2⟩ := List.append_of_mem hq
  obtain ⟨cs', h3, _⟩ := h.row A q R e2
  rw [e, h3] at h1
  injection h1 with h1
  injection h1 with _ h1 _
  rw [← h1] at h2
  rcases h2 with h2 | h2 <;> exact absurd h2 (by decide)
end
end Go.Proofs.Ytkkeodfoiffofaa
namespace Go.Proofs.Ytkkeodfoiffofaa
open Go.RowKit
set_option linter.unusedVariables false
namespace MemP
theorem split3 {α : Type} : ∀ {P S A R : List α} {n q : α}, P ++ n :: S = A ++ q :: R →
    (∃ X, P = A ++ q :: X ∧ R = X ++ n :: S) ∨ (A = P ∧ q = n ∧ R = S) ∨ (∃ X, A = P ++ n :: X ∧ S = X ++ q :: R)
  | [], S, [], R, n, q, h => by
    simp only [List.nil_append, List.cons.injEq] at h
    exact .inr (.inl ⟨rfl, h.1.symm, h.2.symm⟩)
  | [], S, a :: A, R, n, q, h => by
    simp only [List.nil_append, List.cons_append, List.cons.injEq] at h
    exact .inr (.inr ⟨A, by rw [h.1]; rfl, h.2⟩)
  | p :: P, S, [], R, n, q, h => by
    simp only [List.nil_append, List.cons_append, List.cons.injEq] at h
    exact .inl ⟨P, by rw [h.1]; rfl, h.2.symm⟩
  | p :: P, S, a :: A, R, n, q, h => by
    simp only [List.cons_append, List.cons.injEq] at h
    obtain ⟨rfl, h⟩ := h
    rcases split3 h with ⟨X, e1, e2⟩ | ⟨e1, e2, e3⟩ | ⟨X, e1, e2⟩
    · exact .inl ⟨X, by rw [e1]; rfl, e2⟩
    · exact .inr (.inl ⟨by rw [e1], e2, e3⟩)
    · exact .inr (.inr ⟨X, by rw [e1]; rfl, e2⟩)
theorem nxt_congr {X S : List Nd} {n1 n2 : Nd} {i : Nat} (hb : n1.b = n2.b) (h : i < n1.h ↔ i < n2.h) : nxt (X ++ n1 :: S) i = nxt (X ++ n2 :: S) i := by
  unfold nxt
  rw [List.find?_append, List.find?_append, List.find?_cons, List.find?_cons]
  have e : decide (i < n1.h) = decide (i < n2.h) := by rw [Bool.eq_iff_iff]; simp [h]
  rw [e]
  cases decide (i < n2.h) with
  | false => rfl
  | true =>
    cases hf : X.find? (fun nd => decide (i < nd.h)) with
    | none => simp [hb]
    | some y => rfl
theorem nxt_zero {X S : List Nd} {n : Nd} {i : Nat} (h : ¬ i < n.h) : nxt (X ++ n :: S) i = nxt (X ++ S) i := by
  unfold nxt
  rw [List.find?_append, List.find?_append, List.find?_cons]
  simp [h]
theorem nxt_past {X S : List Nd} {i : Nat} (h : ∀ q ∈ X, q.h ≤ i) : nxt (X ++ S) i = nxt S i := by
  unfold nxt
  rw [List.find?_append]
  have : X.find? (fun nd => decide (i < nd.h)) = none := by
    rw [List.find?_eq_none]
    intro q hq
    have := h q hq
    simp; omega
  rw [this]
  simp
theorem nxt_mem {X S S' : List Nd} {nd : Nd} {i : Nat} (h : nd ∈ X) (hi : i < nd.h) : nxt (X ++ S) i = nxt (X ++ S') i := by
  unfold nxt
  rw [List.find?_append, List.find?_append]
  cases hf : X.find? (fun nd => decide (i < nd.h)) with
  | none =>
    rw [List.find?_eq_none] at hf
    have := hf nd h
    simp [hi] at this
  | some y => rfl
theorem nxt_here {S : List Nd} {n : Nd} {i : Nat} (h : i < n.h) : nxt (n :: S) i = some ⟨n.b, 0, none⟩ := by
  unfold nxt
  rw [List.find?_cons]
  simp [h]
theorem uniq_r {A R A' R' : List Nd} {n q : Nd} (h : ((A ++ n :: R).map (·.r)).Nodup) (e : A ++ n :: R = A' ++ q :: R') (hr : n.r = q.r) : A = A' ∧ n = q ∧ R = R' := by
  rcases split3 e with ⟨X, e1, e2⟩ | ⟨e1, e2, e3⟩ | ⟨X, e1, e2⟩
  · exfalso
    rw [List.map_append, List.map_cons, List.nodup_append] at h
    exact h.2.2 q.r (List.mem_map.2 ⟨q, by rw [e1]; simp, rfl⟩) n.r (by simp) hr.symm
  · exact ⟨e1.symm, e2.symm, e3.symm⟩
  · exfalso
    rw [List.map_append, List.map_cons, List.nodup_append, List.nodup_cons] at h
    exact h.2.1.1 (by rw [hr, e2]; simp)
end MemP
open MemP
/-- the new node, linked on its first j levels -/
abbrev atLevel (nu : Nd) (j : Nat) : Nd := { nu with h := j }
theorem Lst.start {w w' : World} {B : Nat} {P S : List Nd} {nu : Nd} (h : Lst w B (P ++ S)) (hk : ∀ g, g < w.heap.size → w'.heap[g]? = w.heap[g]?) (hb : w.heap.size ≤ nu.b) (hr : w.heap.size ≤ nu.r) (hB : B ≤ w.heap.size)
    (hn : NodeC w' nu) (cs : Array Value) (hrow : w'.heap[nu.r]? = some (.cells cs 73 (0, 0))) (hs : cs.size = nu.s) : Lst w' B (P ++ atLevel nu 0 :: S) := by
  have hkeep : ∀ g, blksN (P ++ S) g → w'.heap[g]? = w.heap[g]? := fun g hg => hk g (h.lt g hg).2
  refine ⟨fun nd hm => ?_, fun A nd R e => ?_, ?_, fun nd hm => ?_, ?_⟩
  · rcases List.mem_append.1 hm with hm | hm
    · exact (h.node nd (by simp [hm])).keep (hkeep _ ⟨nd, by simp [hm], .inl rfl⟩)
    · rcases List.mem_cons.1 hm with rfl | hm
      · exact hn
      · exact (h.node nd (by simp [hm])).keep (hkeep _ ⟨nd, by simp [hm], .inl rfl⟩)
  · rcases split3 e with ⟨X, e1, e2⟩ | ⟨e1, e2, e3⟩ | ⟨X, e1, e2⟩
    · have h1 := h.row A nd (X ++ S) (by rw [e1]; simp)
      obtain ⟨c, q1, q2, q3, q4⟩ := h1
      refine ⟨c, (hkeep _ ⟨nd, by rw [e1]; simp, .inr rfl⟩).trans q1, q2, q3, fun i hi => ?_⟩
      rw [e2, nxt_zero (by simp)]
      exact q4 i hi
    · subst e2
      exact ⟨cs, hrow, hs, Nat.zero_le _, fun i hi => by simp at hi⟩
    · exact (h.row (P ++ X) nd R (by rw [e2]; simp)).keep (hkeep _ ⟨nd, by rw [e2]; simp, .inr rfl⟩)
  · have h1 := h.apart
    rw [List.map_append] at h1
    rw [List.map_append, List.map_cons, List.nodup_append] 
    rw [List.nodup_append] at h1
    have hnew : ∀ a ∈ P ++ S, a.r ≠ nu.r := fun a ha e => by
      have := (h.lt a.r ⟨a, ha, .inr rfl⟩).2
      omega
    refine ⟨h1.1, List.nodup_cons.2 ⟨fun hm => ?_, h1.2.1⟩, fun a ha b hb => ?_⟩
    · obtain ⟨q, hq, e⟩ := List.mem_map.1 hm
      exact hnew q (by simp [hq]) e
    · rcases List.mem_cons.1 hb with rfl | hb
      · obtain ⟨q, hq, rfl⟩ := List.mem_map.1 ha
        exact hnew q (by simp [hq])
      · exact h1.2.2 a ha b hb
  · rcases List.mem_append.1 hm with hm | hm
    · exact h.base nd (by simp [hm])
    · rcases List.mem_cons.1 hm with rfl | hm
      · exact ⟨by show B ≤ nu.b; omega, by show B ≤ nu.r; omega⟩
      · exact h.base nd (by simp [hm])
  · have h1 := h.tops
    rw [List.map_append] at h1
    rw [List.map_append, List.map_cons, List.nodup_append]
    rw [List.nodup_append] at h1
    have hnew : ∀ a ∈ P ++ S, a.b ≠ nu.b := fun a ha e => by
      have := (h.lt a.b ⟨a, ha, .inl rfl⟩).2
      omega
    refine ⟨h1.1, List.nodup_cons.2 ⟨fun hm => ?_, h1.2.1⟩, fun a ha b hb => ?_⟩
    · obtain ⟨q, hq, e⟩ := List.mem_map.1 hm
      exact hnew q (by simp [hq]) e
    · rcases List.mem_cons.1 hb with rfl | hb
      · obtain ⟨q, hq, rfl⟩ := List.mem_map.1 ha
        exact hnew q (by simp [hq])
      · exact h1.2.2 a ha b hb
/-- one level more -/
theorem Lst.level {w w' : World} {B : Nat} {P S A A2 : List Nd} {nu nd : Nd} {j : Nat} (h : Lst w B (P ++ atLevel nu j :: S)) (hj : j < nu.s) (hP : P = A ++ nd :: A2) (hnd : j < nd.h) (hA2 : ∀ a ∈ A2, a.h ≤ j)
    (hk : ∀ g, g ≠ nu.r → g ≠ nd.r → w'.heap[g]? = w.heap[g]?)
    (hnu : ∀ cs, w.heap[nu.r]? = some (.cells cs 73 (0, 0)) → w'.heap[nu.r]? = some (.cells (cs.setIfInBounds j (.pointer (nxt S j))) 73 (0, 0)))
    (hnr : ∀ cs, w.heap[nd.r]? = some (.cells cs 73 (0, 0)) → w'.heap[nd.r]? = some (.cells (cs.setIfInBounds j (.pointer (some ⟨nu.b, 0, none⟩))) 73 (0, 0))) : Lst w' B (P ++ atLevel nu (j + 1) :: S) := by
  have hmem : ∀ q ∈ P ++ atLevel nu (j + 1) :: S, ∃ q' ∈ P ++ atLevel nu j :: S, q'.b = q.b ∧ q'.r = q.r ∧ q'.s = q.s ∧ q'.x = q.x := fun q hq => by
    rcases List.mem_append.1 hq with hq | hq
    · exact ⟨q, by simp [hq], rfl, rfl, rfl, rfl⟩
    · rcases List.mem_cons.1 hq with rfl | hq
      · exact ⟨atLevel nu j, by simp, rfl, rfl, rfl, rfl⟩
      · exact ⟨q, by simp [hq], rfl, rfl, rfl, rfl⟩
  have hndm : nd ∈ P ++ atLevel nu j :: S := by rw [hP]; simp
  have hnum : atLevel nu j ∈ P ++ atLevel nu j :: S := by simp
  refine ⟨fun q hq => ?_, fun A' q R' e => ?_, ?_, fun q hq => ?_, ?_⟩
  · obtain ⟨q', hm, e1, e2, e3, e4⟩ := hmem q hq
    obtain ⟨cs, t, k1, k2, k3⟩ := h.node q' hm
    refine ⟨cs, t, ?_, k2, by rw [← e4, ← e2, ← e3]; exact k3⟩
    rw [← e1, hk q'.b (h.b_ne_r (q := atLevel nu j) hm hnum) (h.b_ne_r hm hndm)]
    exact k1
  · rcases split3 e with ⟨X, e1, e2⟩ | ⟨e1, e2, e3⟩ | ⟨X, e1, e2⟩
    · have hrow := h.row A' q (X ++ atLevel nu j :: S) (by rw [e1]; simp)
      have hne : q.r ≠ nu.r := fun e => by
        have := uniq_r (A := A') (n := q) (R := X ++ atLevel nu j :: S) (A' := P) (q := atLevel nu j) (R' := S) (by have := h.apart; rw [e1] at this; simpa using this) (by rw [e1]; simp) e
        have h1 := this.1
        rw [e1] at h1
        have := congrArg List.length h1
        simp at this
      by_cases hq : q.r = nd.r
      · obtain ⟨u1, u2, u3⟩ := uniq_r (A := A') (n := q) (R := X) (A' := A) (q := nd) (R' := A2) (by
          have := h.apart
          rw [e1, List.map_append, List.nodup_append] at this
          exact this.1) (by rw [← e1, hP]) hq
        subst u1 u2 u3
        obtain ⟨cs, k1, k2, k3, k4⟩ := hrow
        refine ⟨_, hnr cs k1, by simpa using k2, k3, fun i hi => ?_⟩
        rw [e2]
        by_cases hij : j = i
        · subst hij
          rw [Array.getElem?_setIfInBounds, if_pos rfl, if_pos (by omega), nxt_past hA2, nxt_here (by show j < j + 1; omega)]
        · rw [Array.getElem?_setIfInBounds, if_neg hij, k4 i hi]
          congr 2
          exact nxt_congr rfl (by show i < j ↔ i < j + 1; omega)
      · obtain ⟨cs, k1, k2, k3, k4⟩ := hrow
        refine ⟨cs, (hk q.r hne hq).trans k1, k2, k3, fun i hi => ?_⟩
        rw [e2, k4 i hi]
        congr 2
        by_cases hij : i = j
        · subst hij
          have e5 : A ++ nd :: A2 = A' ++ q :: X := by rw [← hP, e1]
          rcases split3 e5 with ⟨Y, f1, f2⟩ | ⟨f1, f2, f3⟩ | ⟨Y, f1, f2⟩
          · exact nxt_mem (nd := nd) (by rw [f2]; simp) hnd
          · exact absurd (by rw [f2]) hq
          · have := hA2 q (by rw [f2]; simp)
            omega
        · exact nxt_congr rfl (by show i < j ↔ i < j + 1; omega)
    · subst e2 e3
      obtain ⟨cs, k1, k2, k3, k4⟩ := h.row P (atLevel nu j) _ rfl
      refine ⟨_, hnu cs k1, by simpa using k2, by show j + 1 ≤ nu.s; omega, fun i hi => ?_⟩
      have k2' : cs.size = nu.s := k2
      by_cases hij : j = i
      · subst hij
        rw [Array.getElem?_setIfInBounds, if_pos rfl, if_pos (by omega)]
      · have hi' : i < j + 1 := hi
        rw [Array.getElem?_setIfInBounds, if_neg hij]
        exact k4 i (by show i < j; omega)
    · have hrow := h.row (P ++ atLevel nu j :: X) q R' (by rw [e2]; simp)
      have hno := h.apart
      rw [List.map_append, List.map_cons, List.nodup_append, List.nodup_cons] at hno
      have hqS : q.r ∈ S.map (·.r) := by rw [e2]; simp
      refine hrow.keep (hk q.r (fun e => hno.2.1.1 (by show nu.r ∈ _; rw [← e]; exact hqS)) (fun e => ?_))
      exact hno.2.2 nd.r (by rw [hP]; simp) q.r (by simp only [List.mem_cons]; exact .inr hqS) e.symm
  · have := h.apart
    simpa using this
  · obtain ⟨q', hm, e1, e2, _⟩ := hmem q hq
    have := h.base q' hm
    rw [← e1, ← e2]
    exact this
  · have := h.tops
    simpa using this
end Go.Proofs.Ytkkeodfoiffofaa
namespace Go.Proofs.Ytkkeodfoiffofaa
open Go.RowKit
set_option linter.unusedVariables false
set_option maxRecDepth 100000 in
set_option maxHeartbeats 1000000 in
theorem mem_compare (x y : It) (w : World) : Calls Try.prog 43 #[iv x, iv y] w fun e w' => e = .returned (.int .i64 (ItP.cmp x y)) ∧ Below w.heap.size w w' := by
  have HC := Lib.hid (show (if ItP.cmpK x.key y.key = 0 then ItP.cmpN y.seq x.seq else ItP.cmpK x.key y.key) = ItP.cmp x y from rfl)
  obtain ⟨R, hR⟩ : ∃ R, R = ItP.cmp x y := ⟨_, rfl⟩
  rw [← hR] at HC ⊢
  obtain ⟨K, hK⟩ : ∃ K, K = ItP.cmpK x.key y.key := ⟨_, rfl⟩
  obtain ⟨N, hN⟩ : ∃ N, N = ItP.cmpN y.seq x.seq := ⟨_, rfl⟩
  rw [← hK, ← hN] at HC
  have HS := Lib.hid (cmp_s x.key y.key)
  have HU := Lib.hid (cmp_u y.seq x.seq)
  rw [← hK] at HS
  rw [← hN] at HU
  clear hK hN hR
  go_enter Try.func43, Try.ntmps43
  go_upto_region 1 with fail
  refine wp_region_st 10 (by kernel_rfl) (by kernel_rfl) ?_
  simp only [List.take_succ_cons, List.take_zero, List.drop_succ_cons, List.drop_zero]
  repeat (first
    | (refine wpS_value (v := ?_) rfl ?_ ?_; rotate_left; (focus (simp [go_sem]; (try go_ints); first | done | (with_reducible rfl))); (simp only [Act.put, List.setIfInBounds_toArray, List.set_cons_succ, List.set_cons_zero]))
    | (refine wpS_call (.int .i64 K) _ _ rfl ?_ (HS.out _) ?_; (focus (simp [go_sem]; done)); (simp only [Act.put, List.setIfInBounds_toArray, List.set_cons_succ, List.set_cons_zero]))
    | (refine wpS_call (.int .i64 N) _ _ rfl ?_ (HU.out _) ?_; (focus (simp [go_sem]; done)); (simp only [Act.put, List.setIfInBounds_toArray, List.set_cons_succ, List.set_cons_zero])))
  refine wpStill_nil ?_
  go_wp2_with (go_at_call 66; refine (cmp_or_r _ _ K N R HC.out _ ?_ ?_).mono ?_; (focus go_simp); (focus go_simp); rintro e w' ⟨rfl, rfl⟩)
  go_ret
  exact ⟨rfl, (bdrew (((Below.refl _ _).alloc (Nat.le_refl _) _).alloc (by simp) _) 1).alloc (by simp; omega) _⟩
end Go.Proofs.Ytkkeodfoiffofaa
namespace Go.Proofs.Ytkkeodfoiffofaa
open Go.RowKit
set_option linter.unusedVariables false
open MemP
/-- what ahead answers: on each level the last node that stands ahead -/
def AheadV (full : List Nd) (x : It) (arr : List Value) : Prop := arr.length = 12 ∧ ∀ j, j < 12 → ∃ nd, arr[j]? = some (.pointer (some ⟨nd.b, 0, none⟩)) ∧ LastAt full x j nd
def nils12 : List Value := List.replicate 12 (.pointer none)
theorem size_arr12 : (Try.prog.info? 74).map (·.size) = some 12 := by kernel_rfl
theorem ArrV.there {w : World} {g : Nat} {xs : List Value} (h : ArrV w g xs) : w.there g 0 xs.length := fun j hj => by
  rw [Nat.zero_add]
  exact ⟨by rw [h.cell hj]; rfl, h.frozen j⟩
theorem ArrV.range' {w : World} {g : Nat} {xs : List Value} (h : ArrV w g xs) : w.rangeAt g 0 xs := fun j v hj => by
  have hl := (List.getElem?_eq_some_iff.1 hj)
  rw [Nat.zero_add, h.cell hl.1, hl.2]
theorem ArrV.setAll {w : World} {g : Nat} {xs ys : List Value} (h : ArrV w g xs) (hl : ys.length = xs.length) : ArrV (w.setCells g 0 ys) g ys := by
  obtain ⟨e, hh⟩ := h
  refine ⟨e, ?_⟩
  rw [heap_setCells g e (0, 0) ys 0 w _ hh]
  congr 2
  apply Array.ext
  · rw [putAt_size]; simp [hl]
  · intro i h1 h2
    have hi : i < ys.length := by simpa using h2
    have := putAt_in ys 0 xs.toArray i ys[i] (List.getElem?_eq_getElem hi) (by simp [hl])
    rw [Nat.zero_add, Array.getElem?_eq_getElem h1] at this
    simpa using this
/-- a node of the list, in every world that grew -/
theorem node_cells {W : World} {B : Nat} {full : List Nd} (hL : Lst W B full) {nd : Nd} (hm : nd ∈ full) : ∀ y : GrewOf W, y.1.cell? ⟨nd.b, 4, none⟩ = some (.slice (some ⟨nd.r, 0, none⟩) nd.s nd.s) := fun y => ((hL.grew y.2).node nd hm).cells.2
theorem node_item {W : World} {B : Nat} {full : List Nd} (hL : Lst W B full) {nd : Nd} (hm : nd ∈ full) : ∀ y : GrewOf W, y.1.cell? ⟨nd.b, 0, none⟩ = some (sv nd.x.key) ∧ y.1.cell? ⟨nd.b, 1, none⟩ = some (.int .u64 (nd.x.seq : Int)) ∧ y.1.cell? ⟨nd.b, 2, none⟩ = some (.bool nd.x.gone) ∧ y.1.cell? ⟨nd.b, 3, none⟩ = some (sv nd.x.val) := fun y => ((hL.grew y.2).node nd hm).cells.1
theorem row_cell {W : World} {B : Nat} {A R : List Nd} {nd : Nd} {v : Option Addr} (hL : Lst W B (A ++ nd :: R)) {i : Nat} (hi : i < nd.h) (hv : nxt R i = v) : ∀ y : GrewOf W, y.1.cell? ⟨nd.r, i, none⟩ = some (.pointer v) := fun y => by
  rw [← hv]
  exact (((hL.grew y.2).row A nd R rfl).cell hi).1
/-- where a search stands on level z: at the head or at a node that stands ahead -/
def AtNode (full : List Nd) (x : It) (z : Int) (nd : Nd) (A R : List Nd) : Prop := full = A ++ nd :: R ∧ (A = [] ∨ ItP.ahead nd.x x = true) ∧ z < (nd.h : Int)
/-- the levels above z are done -/
def Above (full : List Nd) (x : It) (z : Int) (arr : List Value) : Prop := arr.length = 12 ∧ ∀ j : Nat, z < (j : Int) → j < 12 → ∃ nd, arr[j]? = some (.pointer (some ⟨nd.b, 0, none⟩)) ∧ LastAt full x j nd
theorem Above.step {full A R : List Nd} {x : It} {k : Nat} {arr : List Value} {nd : Nd} (h : Above full x (k : Int) arr) (ha : AtNode full x (k : Int) nd A R) (hr : ∀ q ∈ R, k < q.h → ItP.ahead q.x x = false) (hk : k < 12) : Above full x ((k : Int) - 1) (arr.set k (.pointer (some ⟨nd.b, 0, none⟩))) := by
  obtain ⟨h1, h2⟩ := h
  refine ⟨by simpa using h1, fun j hj hj12 => ?_⟩
  by_cases e : j = k
  · subst e
    exact ⟨nd, by rw [List.getElem?_set, if_pos rfl, if_pos (by omega)], A, R, ha.1, ha.2.1, by have := ha.2.2; omega, hr⟩
  · obtain ⟨nd', e1, e2⟩ := h2 j (by omega) hj12
    exact ⟨nd', by rw [List.getElem?_set, if_neg (fun x => e x.symm)]; exact e1, e2⟩
set_option maxRecDepth 100000 in
set_option maxHeartbeats 4000000 in
theorem mem_ahead (B : Nat) (hd : Nd) (ns : List Nd) (x : It) (w : World) (hL : Lst w B (hd :: ns)) (hh : hd.h = 12) (hs : SrtN ns) (h12 : ∀ q ∈ hd :: ns, q.s ≤ 12) :
    Calls Try.prog 42 #[.pointer (some ⟨hd.b, 0, none⟩), iv x] w fun e w' => ∃ arr, e = .returned (.agg arr.toArray) ∧ AheadV (hd :: ns) x arr ∧ Below w.heap.size w w' := by
  obtain ⟨w1, hw1⟩ : ∃ w1, w1 = w.alloc (.cells #[.string ⟨x.key.toArray⟩, .int .u64 (x.seq : Int), .bool x.gone, .string ⟨x.val.toArray⟩] 29) := ⟨_, rfl⟩
  obtain ⟨w2, hw2⟩ : ∃ w2, w2 = w1.alloc (.cells nils12.toArray 74) := ⟨_, rfl⟩
  obtain ⟨w3, hw3⟩ : ∃ w3, w3 = w2.alloc (.cells nils12.toArray 74) := ⟨_, rfl⟩
  have hs1 : w1.heap.size = w.heap.size + 1 := by rw [hw1]; simp
  have hs2 : w2.heap.size = w.heap.size + 2 := by rw [hw2]; simp [hs1]
  have hs3 : w3.heap.size = w.heap.size + 3 := by rw [hw3]; simp [hs2]
  have hB3 : Below w.heap.size w w3 := by rw [hw3, hw2, hw1]; exact (((Below.refl _ _).alloc (Nat.le_refl _) _).alloc (by simp) _).alloc (by simp; omega) _
  have HX := Lib.hid (show IBox w3 w.heap.size x by rw [hw3, hw2]; refine IBox.alloc (IBox.alloc ?_ _) _; rw [hw1]; exact IBox.new w x)
  have HA4 := Lib.hid (show ArrV w3 (w.heap.size + 1) nils12 by
    have := ArrV.made w1 nils12.toArray 74
    rw [← hw2, hs1] at this
    rw [hw3]
    exact this.alloc _)
  have HA5 := Lib.hid (show ArrV w3 (w.heap.size + 1 + 1) nils12 by
    have := ArrV.made w2 nils12.toArray 74
    rw [← hw3, hs2] at this
    exact this)
  have HB3 := Lib.hid hB3
  have HS3 := Lib.hid hs3
  have HL := Lib.hid hL
  have HW1 := Lib.hid hw1
  have HW2 := Lib.hid hw2
  have HW3 := Lib.hid hw3
  have HS1 := Lib.hid hs1
  have HS2 := Lib.hid hs2
  have HS := Lib.hid hs
  have H12 := Lib.hid h12
  clear hL hw1 hw2 hw3 hs1 hs2 hs3 hB3 hs h12
  have HAT0 := Lib.hid (show AtNode (hd :: ns) x 11 hd [] ns from ⟨rfl, .inl rfl, by omega⟩)
  obtain ⟨full, hfull⟩ : ∃ f, f = hd :: ns := ⟨_, rfl⟩
  rw [← hfull] at HL H12 HAT0 ⊢
  have HFULL := Lib.hid hfull
  clear hfull hh HS1 HS2
  go_enter Try.func42, Try.ntmps42
  go_upto_region 2 with fail
  change Code.wp Try.prog _ _ _ (World.alloc (World.alloc (World.alloc w _) (.cells nils12.toArray 74)) (.cells nils12.toArray 74))
  rw [← HW1.out, ← HW2.out, ← HW3.out]
  obtain ⟨bx, hbx⟩ : ∃ v, v = w.heap.size := ⟨_, rfl⟩
  have HBX := Lib.hid hbx
  rw [← hbx] at HX HA4 HA5 HB3 HS3 ⊢
  clear hbx
  go_wp2_with fail
  go_loopw [6, 7] (fun n i wy => ∃ (z : Int) (nd : Nd) (A R : List Nd) (arr : List Value), -1 ≤ z ∧ z ≤ 11 ∧ i = .int .i64 z ∧ n = .pointer (some ⟨nd.b, 0, none⟩) ∧ AtNode full x z nd A R ∧ IBox wy bx x ∧ ArrV wy (bx + 1) nils12 ∧ ArrV wy (bx + 1 + 1) arr ∧ Above full x z arr ∧ Below bx w wy ∧ w3.heap.size ≤ wy.heap.size) (fun _ i _ => (intOf i + 1).toNat)
  case atStart => exact ⟨11, hd, [], ns, nils12, by omega, by omega, rfl, rfl, HAT0.out, HX.out, HA4.out, HA5.out, ⟨rfl, fun j h1 h2 => by omega⟩, HB3.out, Nat.le_refl _⟩
  case round =>
    obtain ⟨z, nd0, A0, R0, arr, hz1, hz2, rfl, rfl, hAt, hX, hA4, hA5, hAb, hB, hsz⟩ := hrel
    have HAT := Lib.hid hAt
    have HX := Lib.hid hX
    have HA4 := Lib.hid hA4
    have HA5 := Lib.hid hA5
    have HAB := Lib.hid hAb
    have HBr := Lib.hid hB
    have HSZ := Lib.hid hsz
    clear hAt hX hA4 hA5 hAb hB hsz
    by_cases hz : 0 ≤ z
    · obtain ⟨k, rfl⟩ : ∃ k : Nat, z = (k : Int) := ⟨z.toNat, by omega⟩
      obtain ⟨wo, rfl⟩ : ∃ v : World, v = wr := ⟨_, rfl⟩
      have hk12 : k < 12 := by omega
      go_wp2_with fail
      go_loopg [6] R0.length (fun gk n wy => ∃ (nd : Nd) (A R : List Nd), R.length = gk ∧ n = .pointer (some ⟨nd.b, 0, none⟩) ∧ AtNode full x (k : Int) nd A R ∧ Grew wo wy)
      case atStart => exact ⟨nd0, A0, R0, rfl, rfl, HAT.out, Grew.refl _⟩
      case round =>
        obtain ⟨nd, A, R, hR, rfl, hAt, hG⟩ := hrel
        have HATi := Lib.hid hAt
        have HG := Lib.hid hG
        have HR := Lib.hid hR
        obtain ⟨e1, e2, e3⟩ := hAt
        have hkh : k < nd.h := by omega
        have HLr := Lib.hid (show Lst wr B full from (HL.out.below HBr.out (by rw [HBX.out]; omega)).grew HG.out)
        have hm : nd ∈ full := by rw [e1]; simp
        have hs12 := H12.out nd hm
        have HROW : Hid (∀ v, nxt R k = v → ∀ y : GrewOf wr, y.1.cell? ⟨nd.r, k, none⟩ = some (.pointer v)) := Lib.hid fun v hv => row_cell (B := B) (A := A) (by rw [← e1]; exact HLr.out) hkh hv
        have hks : k < nd.s := by
          obtain ⟨cs, _, _, h3, _⟩ := HLr.out.row A nd R e1
          omega
        have HN4 := Lib.hid (node_cells HLr.out hm)
        have HE1 := Lib.hid e1
        have HE2 := Lib.hid e2
        clear hG hR e1 e2 e3 hm
        have i0 : (0 : Int) ≤ (k : Int) := by omega
        have i1 : (k : Int) < (nd.s : Int) := by omega
        cases hn : nxt R k with
        | none =>
          have hq := HROW.out none hn
          have HNA := Lib.hid (show ∀ q ∈ R, k < q.h → ItP.ahead q.x x = false from fun q hq h => by have := nxt_none hn q hq; omega)
          clear hn HROW
          go_upto_region 6 with fail
          have hqq := And.intro i1 (And.intro HN4.out hq)
          refine wp_region_x [] (by kernel_rfl) (by kernel_rfl) (by kernel_rfl) ?_
          simp only [blank, List.foldl_nil]
          repeat (first | (refine wpX_value (v := ?_) rfl (by intros; simp) rfl rfl (fun x => ?_) ?_; rotate_left; (focus (simp [go_sem, hqq]; (try go_ints); first | done | (with_reducible rfl))); (simp only [Act.put, List.setIfInBounds_toArray, List.set_cons_succ, List.set_cons_zero])) | (refine wpX_skip rfl ?_; (simp only [Act.put, List.setIfInBounds_toArray, List.set_cons_succ, List.set_cons_zero])))
          (refine wpX_nil ?_; intro xb wx hxg xl; obtain ⟨xf, xe⟩ := LikeAll.end_ xl; clear xl; subst xe; simp only [fill, List.foldl_nil, Act.put])
          clear hqq
          have HGx := Lib.hid (HG.out.trans hxg)
          have HA5x := Lib.hid (HA5.out.grew HGx.out)
          have HABn := Lib.hid (HAB.out.step HATi.out HNA.out hk12)
          have q5 := HA5x.out.cell (i := k) (by rw [HAB.out.1]; omega)
          have q6 := HA5x.out.frozen k
          have HA5n := Lib.hid (HA5x.out.set k (.pointer (some ⟨nd.b, 0, none⟩)))
          have HXn := Lib.hid ((HX.out.grew HGx.out).keep (Below.heap_setCell wx ⟨bx + 1 + 1, k, none⟩ (.pointer (some ⟨nd.b, 0, none⟩)) bx (by simp; omega)))
          have HA4n := Lib.hid ((HA4.out.grew HGx.out).setOther (p := ⟨bx + 1 + 1, k, none⟩) (by simp) (.pointer (some ⟨nd.b, 0, none⟩)))
          have HBn := Lib.hid ((HBr.out.trans (HGx.out.mono (by have := HBr.out.size; have := HSZ.out; have := HS3.out; omega))).setCell (p := ⟨bx + 1 + 1, k, none⟩) (by simp; omega) (.pointer (some ⟨nd.b, 0, none⟩)))
          have HSZn := Lib.hid (show w3.heap.size ≤ (wx.setCell ⟨bx + 1 + 1, k, none⟩ (.pointer (some ⟨nd.b, 0, none⟩))).heap.size by have := HSZ.out; have := HGx.out.size; simp [World.setCell]; omega)
          have k12 : (k : Int) < 12 := by omega
          have HATn := Lib.hid (show AtNode full x ((k : Int) - 1) nd A R from ⟨HATi.out.1, HATi.out.2.1, by have := HATi.out.2.2; omega⟩)
          go_wp2_with fail
          go_roundw
          case rel => exact ⟨(k : Int) - 1, nd, A, R, _, by omega, by omega, by go_num, rfl, HATn.out, HXn.out, HA4n.out, HA5n.out, HABn.out, HBn.out, HSZn.out⟩
          case measure => simp [intOf]
        | some a =>
          obtain ⟨A', nd', R', f1, f2, f3, f4⟩ := nxt_some hn
          subst f2
          have hq := HROW.out _ hn
          clear hn HROW
          have hm' : nd' ∈ full := by rw [HE1.out, f1]; simp
          have HI := Lib.hid (node_item HLr.out hm')
          have HXr := Lib.hid (show ∀ y : GrewOf wr, y.1.cell? ⟨bx, 0, none⟩ = some (sv x.key) ∧ y.1.cell? ⟨bx, 1, none⟩ = some (.int .u64 (x.seq : Int)) ∧ y.1.cell? ⟨bx, 2, none⟩ = some (.bool x.gone) ∧ y.1.cell? ⟨bx, 3, none⟩ = some (sv x.val) from fun y => range_cells ((HX.out.grew HG.out).grew y.2).range)
          obtain ⟨cz, hcz⟩ : ∃ c, c = ItP.cmp nd'.x x := ⟨_, rfl⟩
          have HCM : Hid (∀ W, Calls Try.prog 43 #[iv nd'.x, iv x] W fun e w'' => e = .returned (.int .i64 cz) ∧ Grew W w'') := Lib.hid fun W => by rw [hcz]; exact mem_compare nd'.x x W
          have HF1 := Lib.hid f1
          by_cases hah : ItP.ahead nd'.x x = true
          · have hc0 : cz < 0 := by rw [hcz]; exact (ItP.cmp_neg _ _).2 hah
            have HAN := Lib.hid (show AtNode full x (k : Int) nd' (A ++ nd :: A') R' from ⟨by rw [HE1.out, HF1.out]; simp, .inr hah, by omega⟩)
            clear hcz f1 f4 hm' hah
            go_upto_region 6 with fail
            have hqq := And.intro i1 (And.intro hc0 (And.intro HN4.out (And.intro hq (And.intro HI.out HXr.out))))
            refine wp_region_x [] (by kernel_rfl) (by kernel_rfl) (by kernel_rfl) ?_
            simp only [blank, List.foldl_nil]
            repeat (first
              | (refine wpX_value (v := ?_) rfl (by intros; simp) rfl rfl (fun x => ?_) ?_; rotate_left; (focus (simp [go_sem, hqq]; (try go_ints); first | done | (with_reducible rfl))); (simp only [Act.put, List.setIfInBounds_toArray, List.set_cons_succ, List.set_cons_zero]))
              | (refine wpX_call (.int .i64 cz) _ _ rfl (by intros; simp) rfl rfl (fun x => ?_) (fun W _ => HCM.out W) ?_; (focus (simp [go_sem]; done)); (simp only [Act.put, List.setIfInBounds_toArray, List.set_cons_succ, List.set_cons_zero])))
            (refine wpX_nil ?_; intro xb wx hxg xl; obtain ⟨xf, xe⟩ := LikeAll.end_ xl; clear xl; subst xe; simp only [fill, List.foldl_nil, Act.put])
            clear hqq
            have p1 := HN4.out ⟨wx, hxg⟩
            have p2 := hq ⟨wx, hxg⟩
            simp only at p1 p2
            clear hq
            go_wp2_with fail
            go_roundg R'.length
            case measure => rw [← HR.out, HF1.out]; simp; omega
            case rel => exact ⟨nd', A ++ nd :: A', R', rfl, rfl, HAN.out, HG.out.trans hxg⟩
          · have hah : ItP.ahead nd'.x x = false := by simpa using hah
            have hc0 : ¬ cz < 0 := fun h => by
              rw [hcz, ItP.cmp_neg, hah] at h
              cases h
            have HNA := Lib.hid (show ∀ q ∈ R, k < q.h → ItP.ahead q.x x = false from fun q hqm h => by
              rw [f1] at hqm
              rcases List.mem_append.1 hqm with h1 | h1
              · have := f4 q h1
                omega
              · rcases List.mem_cons.1 h1 with rfl | h1
                · exact hah
                · refine srt_behind (A := ?_) (nd := nd') ?_ hah q h1
                  rotate_left
                  · have h2 := HE1.out
                    rw [HFULL.out, f1] at h2
                    cases A with
                    | nil =>
                      simp only [List.nil_append, List.cons.injEq] at h2
                      have := HS.out
                      rw [h2.2] at this
                      exact this
                    | cons a0 A1 =>
                      simp only [List.cons_append, List.cons.injEq] at h2
                      have := HS.out
                      rw [h2.2, show A1 ++ nd :: (A' ++ nd' :: R') = (A1 ++ [nd]) ++ (A' ++ nd' :: R') by simp] at this
                      exact srt_suffix (A := A1 ++ [nd]) this)
            clear hcz f1 f4 hm' hah
            go_upto_region 6 with fail
            have hqq := And.intro i1 (And.intro hc0 (And.intro HN4.out (And.intro hq (And.intro HI.out HXr.out))))
            refine wp_region_x [] (by kernel_rfl) (by kernel_rfl) (by kernel_rfl) ?_
            simp only [blank, List.foldl_nil]
            repeat (first
              | (refine wpX_value (v := ?_) rfl (by intros; simp) rfl rfl (fun x => ?_) ?_; rotate_left; (focus (simp [go_sem, hqq]; (try go_ints); first | done | (with_reducible rfl))); (simp only [Act.put, List.setIfInBounds_toArray, List.set_cons_succ, List.set_cons_zero]))
              | (refine wpX_call (.int .i64 cz) _ _ rfl (by intros; simp) rfl rfl (fun x => ?_) (fun W _ => HCM.out W) ?_; (focus (simp [go_sem]; done)); (simp only [Act.put, List.setIfInBounds_toArray, List.set_cons_succ, List.set_cons_zero])))
            (refine wpX_nil ?_; intro xb wx hxg xl; obtain ⟨xf, xe⟩ := LikeAll.end_ xl; clear xl; subst xe; simp only [fill, List.foldl_nil, Act.put])
            clear hqq
            have HGx := Lib.hid (HG.out.trans hxg)
            have HA5x := Lib.hid (HA5.out.grew HGx.out)
            have HABn := Lib.hid (HAB.out.step HATi.out HNA.out hk12)
            have q5 := HA5x.out.cell (i := k) (by rw [HAB.out.1]; omega)
            have q6 := HA5x.out.frozen k
            have HA5n := Lib.hid (HA5x.out.set k (.pointer (some ⟨nd.b, 0, none⟩)))
            have HXn := Lib.hid ((HX.out.grew HGx.out).keep (Below.heap_setCell wx ⟨bx + 1 + 1, k, none⟩ (.pointer (some ⟨nd.b, 0, none⟩)) bx (by simp; omega)))
            have HA4n := Lib.hid ((HA4.out.grew HGx.out).setOther (p := ⟨bx + 1 + 1, k, none⟩) (by simp) (.pointer (some ⟨nd.b, 0, none⟩)))
            have HBn := Lib.hid ((HBr.out.trans (HGx.out.mono (by have := HBr.out.size; have := HSZ.out; have := HS3.out; omega))).setCell (p := ⟨bx + 1 + 1, k, none⟩) (by simp; omega) (.pointer (some ⟨nd.b, 0, none⟩)))
            have HSZn := Lib.hid (show w3.heap.size ≤ (wx.setCell ⟨bx + 1 + 1, k, none⟩ (.pointer (some ⟨nd.b, 0, none⟩))).heap.size by have := HSZ.out; have := HGx.out.size; simp [World.setCell]; omega)
            have k12 : (k : Int) < 12 := by omega
            have HATn := Lib.hid (show AtNode full x ((k : Int) - 1) nd A R from ⟨HATi.out.1, HATi.out.2.1, by have := HATi.out.2.2; omega⟩)
            go_wp2_with fail
            go_roundw
            case rel => exact ⟨(k : Int) - 1, nd, A, R, _, by omega, by omega, by go_num, rfl, HATn.out, HXn.out, HA4n.out, HA5n.out, HABn.out, HBn.out, HSZn.out⟩
            case measure => simp [intOf]
    · have hzn : z = -1 := by omega
      subst hzn
      have HAB' := Lib.hid (show AheadV full x arr from ⟨HAB.out.1, fun j hj => HAB.out.2 j (by omega) hj⟩)
      have h74 := size_arr12
      have HS4 := Lib.hid (HA4.out.there)
      have HL5 := Lib.hid HA5.out.range'
      have HA4n := Lib.hid (HA4.out.setAll (ys := arr) (by rw [HAB.out.1]; rfl))
      have HLEN := Lib.hid (show (Try.prog.info? 74).map (·.size) = some arr.length by rw [HAB.out.1]; exact size_arr12)
      have HONE : Hid (arr.toArray.all (·.oneCell') = true) := Lib.hid (all_oneCell_toArray fun v hv => by
        obtain ⟨j, hj, e⟩ := List.getElem_of_mem hv
        obtain ⟨nd', e1, _⟩ := HAB'.out.2 j (by rw [← HAB.out.1]; exact hj)
        rw [List.getElem?_eq_getElem hj, e] at e1
        injection e1 with e1
        rw [e1]
        rfl)
      have HTH : Hid (wr.there (bx + 1) 0 arr.toArray.size) := Lib.hid (by have := HS4.out; rw [List.size_toArray, HAB.out.1]; exact this)
      have HBn := Lib.hid (HBr.out.grown (grown_setCells (bx + 1) arr 0 wr) (by have := HSZ.out; have := HS3.out; omega) (fun k e => by cases e; omega))
      clear h74
      go_wp2_with (first
        | (refine wpList_load_mid rfl 74 (.tmp 5) rfl (bx + 1 + 1) 0 rfl arr _ HL5.out Try.underlying74 rfl HLEN.out ?_)
        | (refine wpList_store_mid rfl 74 (.tmp 4) (.tmp 48) rfl (bx + 1) 0 arr.toArray rfl rfl HTH.out (by rw [List.size_toArray]; exact HLEN.out) HONE.out ?_))
      have hres := run_loadVar_mid (P := Try.prog) (wr.setCells (bx + 1) 0 arr) (bx + 1) 0 74 arr _ HA4n.out.range' Try.underlying74 rfl HLEN.out
      refine bodyPost_ret (v := .agg arr.toArray) (by simp [results, Try.results42, asAddr, hres]) rfl ⟨arr, rfl, HAB'.out, ?_⟩
      rw [← HBX.out]
      simpa using HBn.out
end Go.Proofs.Ytkkeodfoiffofaa
namespace Go.Proofs.Ytkkeodfoiffofaa
open Go.RowKit
set_option linter.unusedVariables false
set_option maxRecDepth 100000 in
set_option maxHeartbeats 1000000 in
theorem mem_good (x : It) (w : World) : Calls Try.prog 41 #[iv x] w fun e w' => e = .returned (.bool (ItP.may x)) ∧ Below w.heap.size w w' := by
  obtain ⟨k, q, g, v⟩ := x
  have hk := ba_size k
  have hv := ba_size v
  by_cases a1 : 1 ≤ k.length
  · by_cases a2 : k.length ≤ 256
    · by_cases a3 : v.length ≤ 4096
      · have p1 : (1 : Int) ≤ (k.length : Int) := by omega
        have p2 : (k.length : Int) ≤ 256 := by omega
        have p3 : (v.length : Int) ≤ 4096 := by omega
        cases g with
        | false =>
          have H := Lib.hid (show ItP.may ⟨k, q, false, v⟩ = true by simp [ItP.may, a1, a2, a3])
          go_enter Try.func41, Try.ntmps41
          go_wp2_with fail
          go_ret
          exact ⟨by rw [H.out]; rfl, (Below.refl _ _).alloc (Nat.le_refl _) _⟩
        | true =>
          cases v with
          | nil =>
            have H := Lib.hid (show ItP.may ⟨k, q, true, []⟩ = true by simp [ItP.may, a1, a2])
            go_enter Try.func41, Try.ntmps41
            go_wp2_with fail
            go_ret
            exact ⟨by rw [H.out]; rfl, (Below.refl _ _).alloc (Nat.le_refl _) _⟩
          | cons b r =>
            have H := Lib.hid (show ItP.may ⟨k, q, true, b :: r⟩ = false by simp [ItP.may])
            go_enter Try.func41, Try.ntmps41
            go_wp2_with fail
            go_ret
            exact ⟨by rw [H.out]; rfl, (Below.refl _ _).alloc (Nat.le_refl _) _⟩
      · have p1 : (1 : Int) ≤ (k.length : Int) := by omega
        have p2 : (k.length : Int) ≤ 256 := by omega
        have p3 : ¬ (v.length : Int) ≤ 4096 := by omega
        have H := Lib.hid (show ItP.may ⟨k, q, g, v⟩ = false by simp [ItP.may, a3])
        go_enter Try.func41, Try.ntmps41
        go_wp2_with fail
        go_ret
        exact ⟨by rw [H.out]; rfl, (Below.refl _ _).alloc (Nat.le_refl _) _⟩
    · have p1 : (1 : Int) ≤ (k.length : Int) := by omega
      have p2 : ¬ (k.length : Int) ≤ 256 := by omega
      have H := Lib.hid (show ItP.may ⟨k, q, g, v⟩ = false by simp [ItP.may, a2])
      go_enter Try.func41, Try.ntmps41
      go_wp2_with fail
      go_ret
      exact ⟨by rw [H.out]; rfl, (Below.refl _ _).alloc (Nat.le_refl _) _⟩
  · have p1 : ¬ (1 : Int) ≤ (k.length : Int) := by omega
    have H := Lib.hid (show ItP.may ⟨k, q, g, v⟩ = false by simp [ItP.may, a1])
    go_enter Try.func41, Try.ntmps41
    go_wp2_with fail
    go_ret
    exact ⟨by rw [H.out]; rfl, (Below.refl _ _).alloc (Nat.le_refl _) _⟩
end Go.Proofs.Ytkkeodfoiffofaa
namespace Go.Proofs.Ytkkeodfoiffofaa
open Go.RowKit
set_option linter.unusedVariables false
open MemP
namespace MemP
def hgtF : Nat → Nat → Nat → Nat
  | 0, n, _ => n
  | f + 1, n, h => if h % 4 = 0 ∧ n < 12 then hgtF f (n + 1) (h / 4) else n
/-- on how many levels the item stands that was put as number h -/
def hgt (h : Nat) : Nat := hgtF 12 1 h
theorem hgtF_le : ∀ (f n h : Nat), n ≤ 12 → n ≤ hgtF f n h ∧ hgtF f n h ≤ 12
  | 0, n, h, hn => ⟨Nat.le_refl _, hn⟩
  | f + 1, n, h, hn => by
    unfold hgtF
    split
    · have := hgtF_le f (n + 1) (h / 4) (by omega)
      omega
    · exact ⟨Nat.le_refl _, hn⟩
theorem hgt_le (h : Nat) : 1 ≤ hgt h ∧ hgt h ≤ 12 := hgtF_le 12 1 h (by omega)
/-- how many bytes an item counts -/
def cost (x : It) : Nat := 16 + x.key.length + x.val.length
def costs (l : List It) : Nat := (l.map cost).sum
theorem costs_append (a b : List It) : costs (a ++ b) = costs a + costs b := by simp [costs]
theorem costs_cons (x : It) (l : List It) : costs (x :: l) = cost x + costs l := by simp [costs]
theorem srt_take {x : It} : ∀ {l : List It}, ItP.Srt l → (∀ y ∈ l.take (ItP.at_ x l), ItP.ahead y x = true) ∧ (∀ y ∈ l.drop (ItP.at_ x l), ItP.ahead y x = false)
  | [], _ => ⟨fun y h => by simp at h, fun y h => by simp at h⟩
  | y :: r, h => by
    unfold ItP.Srt at h
    rw [List.pairwise_cons] at h
    unfold ItP.at_
    rw [List.takeWhile_cons]
    cases hy : ItP.ahead y x with
    | true =>
      have ih := srt_take (x := x) (l := r) h.2
      unfold ItP.at_ at ih
      simp only [if_true, List.length_cons, List.take_succ_cons, List.drop_succ_cons]
      refine ⟨fun z hz => ?_, ih.2⟩
      rcases List.mem_cons.1 hz with rfl | hz
      · exact hy
      · exact ih.1 z hz
    | false =>
      simp only [Bool.false_eq_true, if_false, List.length_nil, List.take_zero, List.drop_zero]
      refine ⟨(fun z hz => by cases hz), fun z hz => ?_⟩
      rcases List.mem_cons.1 hz with rfl | hz
      · exact hy
      · cases hz2 : ItP.ahead z x with
        | false => rfl
        | true =>
          rw [ItP.ahead_trans (h.1 z hz) hz2] at hy
          cases hy
/-- the nodes ahead of x, and those behind -/
theorem parts {ns : List Nd} (hs : SrtN ns) (x : It) : ∃ P S, ns = P ++ S ∧ P.length = ItP.at_ x (ns.map (·.x)) ∧ (∀ q ∈ P, ItP.ahead q.x x = true) ∧ ∀ q ∈ S, ItP.ahead q.x x = false := by
  have h := srt_take (x := x) hs
  rw [← List.map_take, ← List.map_drop] at h
  refine ⟨ns.take (ItP.at_ x (ns.map (·.x))), ns.drop (ItP.at_ x (ns.map (·.x))), (List.take_append_drop _ _).symm, ?_, fun q hq => h.1 q.x (List.mem_map.2 ⟨q, hq, rfl⟩), fun q hq => h.2 q.x (List.mem_map.2 ⟨q, hq, rfl⟩)⟩
  rw [List.length_take]
  have := ItP.at_le x (ns.map (·.x))
  simp at this
  omega
theorem last_in {hd : Nd} {P S : List Nd} {x : It} {j : Nat} {nd : Nd} (hP : ∀ q ∈ P, ItP.ahead q.x x = true) (hS : ∀ q ∈ S, ItP.ahead q.x x = false) (h : LastAt (hd :: (P ++ S)) x j nd) :
    ∃ A A2, hd :: P = A ++ nd :: A2 ∧ j < nd.h ∧ (∀ a ∈ A2, a.h ≤ j) ∧ hd :: (P ++ S) = A ++ nd :: (A2 ++ S) := by
  obtain ⟨A, R, e, h1, h2, h3⟩ := h
  have e' : (hd :: P) ++ S = A ++ nd :: R := by rw [← e]; rfl
  have key : ∃ X, hd :: P = A ++ nd :: X ∧ R = X ++ S := by
    rw [List.append_eq_append_iff] at e'
    rcases e' with ⟨X, e1, e2⟩ | ⟨X, e1, e2⟩
    · exfalso
      rcases h1 with h1 | h1
      · subst h1
        cases e1
      · have : nd ∈ S := by rw [e2]; simp
        rw [hS nd this] at h1
        cases h1
    · cases X with
      | nil =>
        exfalso
        simp only [List.nil_append, List.append_nil] at e1 e2
        rcases h1 with h1 | h1
        · subst h1; cases e1
        · have : nd ∈ S := by rw [← e2]; simp
          rw [hS nd this] at h1
          cases h1
      | cons y X =>
        simp only [List.cons_append, List.cons.injEq] at e2
        obtain ⟨rfl, e2⟩ := e2
        exact ⟨X, e1, e2⟩
  obtain ⟨X, k1, k2⟩ := key
  refine ⟨A, X, k1, h2, fun a ha => ?_, by rw [e, k2]⟩
  rcases Nat.lt_or_ge j a.h with hlt | hge
  · exfalso
    have h4 := h3 a (by rw [k2]; simp [ha]) hlt
    have : a ∈ P := by
      cases A with
      | nil =>
        simp only [List.nil_append, List.cons.injEq] at k1
        rw [k1.2]; exact ha
      | cons z A =>
        simp only [List.cons_append, List.cons.injEq] at k1
        rw [k1.2]
        simp [ha]
    rw [hP a this] at h4
    cases h4
  · exact hge
end MemP
/-- a keeper: its head's node, the nodes behind it -/
structure MemI (w : World) (B : Nat) (hd : Nd) (ns : List Nd) : Prop where
  lst : Lst w B (hd :: ns)
  hh : hd.h = 12
  hs : hd.s = 12
  srt : SrtN ns
  hts : ∀ q ∈ ns, 1 ≤ q.h ∧ q.h = q.s ∧ q.s ≤ 12
  len : w.cell? ⟨hd.b, 5, none⟩ = some (.int .i64 (ns.length : Int)) ∧ w.frozen? ⟨hd.b, 5, none⟩ = false
  bytes : w.cell? ⟨hd.b, 6, none⟩ = some (.int .i64 (costs (ns.map (·.x)) : Int)) ∧ w.frozen? ⟨hd.b, 6, none⟩ = false
/-- w' is w, but for blocks of K and new ones -/
structure Stay (K : Nat → Prop) (w w' : World) : Prop where
  os : w'.os = w.os
  tape : w'.tape = w.tape
  output : w'.output = w.output
  size : w.heap.size ≤ w'.heap.size
  block : ∀ g, g < w.heap.size → ¬ K g → w'.heap[g]? = w.heap[g]?
section
variable {w w' w'' : World} {B : Nat} {hd : Nd} {ns : List Nd} {K K' : Nat → Prop}
theorem Stay.refl (K : Nat → Prop) (w : World) : Stay K w w := ⟨rfl, rfl, rfl, Nat.le_refl _, fun _ _ _ => rfl⟩
theorem Stay.trans (h : Stay K w w') (k : Stay K w' w'') : Stay K w w'' := ⟨k.os.trans h.os, k.tape.trans h.tape, k.output.trans h.output, Nat.le_trans h.size k.size, fun g hg hn => (k.block g (Nat.lt_of_lt_of_le hg h.size) hn).trans (h.block g hg hn)⟩
theorem Stay.grew (h : Stay K w w') (k : Grew w' w'') : Stay K w w'' := ⟨k.os.trans h.os, k.tape.trans h.tape, k.output.trans h.output, Nat.le_trans h.size k.size, fun g hg hn => (k.block g (Nat.lt_of_lt_of_le hg h.size)).trans (h.block g hg hn)⟩
theorem Stay.of_grew (h : Grew w w') : Stay K w w' := (Stay.refl K w).grew h
theorem Stay.mono (h : Stay K w w') (hK : ∀ g, g < w.heap.size → K g → K' g) : Stay K' w w' := ⟨h.os, h.tape, h.output, h.size, fun g hg hn => h.block g hg fun hk => hn (hK g hg hk)⟩
theorem Stay.below (h : Stay K w w') {n : Nat} (hn : ∀ g, K g → n ≤ g) (hw : n ≤ w.heap.size) : Below n w w' := ⟨h.os, h.tape, h.output, h.size, fun g hg => h.block g (by omega) (fun hk => by have := hn g hk; omega)⟩
theorem Stay.setCell (h : Stay K w w') {p : Addr} (hp : K p.block ∨ w.heap.size ≤ p.block) (v : Value) : Stay K w (w'.setCell p v) := ⟨h.os, h.tape, h.output, by simpa [World.setCell] using h.size, fun g hg hn => by
  rw [Below.heap_setCell w' p v g (fun e => by
    rcases hp with hp | hp
    · exact hn (e ▸ hp)
    · omega)]
  exact h.block g hg hn⟩
theorem MemI.lt (h : MemI w B hd ns) : ∀ g, blksN (hd :: ns) g → B ≤ g ∧ g < w.heap.size := h.lst.lt
theorem MemI.keep (h : MemI w B hd ns) (hk : ∀ g, blksN (hd :: ns) g → w'.heap[g]? = w.heap[g]?) : MemI w' B hd ns := by
  have hb := hk hd.b ⟨hd, by simp, .inl rfl⟩
  exact ⟨h.lst.keep hk, h.hh, h.hs, h.srt, h.hts, ⟨(World.cell?_of_block (a := ⟨hd.b, 5, none⟩) hb).trans h.len.1, (World.frozen?_of_block (a := ⟨hd.b, 5, none⟩) hb).trans h.len.2⟩, ⟨(World.cell?_of_block (a := ⟨hd.b, 6, none⟩) hb).trans h.bytes.1, (World.frozen?_of_block (a := ⟨hd.b, 6, none⟩) hb).trans h.bytes.2⟩⟩
theorem MemI.nob (h : MemI w B hd ns) : ∀ q ∈ ns, q.b ≠ hd.b := fun q hq e => by
  have h1 := h.lst.tops
  rw [List.map_cons, List.nodup_cons] at h1
  exact h1.1 (by rw [← e]; exact List.mem_map.2 ⟨q, hq, rfl⟩)
theorem MemI.grew (h : MemI w B hd ns) (hg : Grew w w') : MemI w' B hd ns := h.keep fun g hb => hg.block g (h.lt g hb).2
/-- a write into a block of another type -/
theorem MemI.other (h : MemI w B hd ns) {row : Option Nat} (hg : w.grownBy w' row) (hr : ∀ r, row = some r → ∃ cs e fr, w.heap[r]? = some (.cells cs e fr) ∧ e ≠ 70 ∧ e ≠ 72 ∧ e ≠ 73) : MemI w' B hd ns :=
  h.keep fun g hb => hg.block g (h.lt g hb).2 fun e => by
    obtain ⟨cs, t, fr, h1, h2, h3, h4⟩ := hr g e.symm
    rcases h.lst.type hb h1 with e | e | e
    · exact h2 e
    · exact h3 e
    · exact h4 e
theorem MemI.apart (h : MemI w B hd ns) (hk : ∀ (g : Nat) (cs : Array Value) (e : TypeId) (fr : Nat × Nat), w.heap[g]? = some (.cells cs e fr) → w'.heap[g]? = some (.cells cs e fr)) : MemI w' B hd ns :=
  h.keep fun g hb => by
    obtain ⟨nd, hm, rfl | rfl⟩ := hb
    · obtain ⟨cs, e, h1, _⟩ := h.lst.node nd hm
      rw [h1, hk _ _ _ _ h1]
    · obtain ⟨A, R, e⟩ := List.append_of_mem hm
      obtain ⟨cs, h1, _⟩ := h.lst.row A nd R e
      rw [h1, hk _ _ _ _ h1]
/-- what lies in a block of another type, behind a call that keeps all but the keeper's own -/
theorem MemI.kept (h : MemI w B hd ns) (hs : Stay (blksN (hd :: ns)) w w') {g : Nat} {cs : Array Value} {e : TypeId} {fr : Nat × Nat} (hg : w.heap[g]? = some (.cells cs e fr)) (h1 : e ≠ 70) (h2 : e ≠ 72) (h3 : e ≠ 73) : w'.heap[g]? = w.heap[g]? :=
  hs.block g (lt_of_blk hg) fun hb => by
    rcases h.lst.type hb hg with e | e | e
    · exact h1 e
    · exact h2 e
    · exact h3 e
theorem MemI.item_ne : 29 ≠ 70 ∧ 29 ≠ 72 ∧ 29 ≠ 73 := by decide
theorem MemI.ownI (h : MemI w B hd ns) (hs : Stay (blksN (hd :: ns)) w w') {base n cap : Nat} {A : Option Addr} {l : List It} (ho : OwnI w base A n cap l) : OwnI w' base A n cap l := by
  refine Own.keep ho fun g hg => ?_
  rcases ho.2.2.2 with ⟨rfl, _⟩ | ⟨g', off, cur, fr, rfl, _, hh, _⟩
  · cases hg
  · simp [blk] at hg
    subst hg
    exact h.kept hs hh MemI.item_ne.1 MemI.item_ne.2.1 MemI.item_ne.2.2
theorem MemI.ibox (h : MemI w B hd ns) (hs : Stay (blksN (hd :: ns)) w w') {g : Nat} {x : It} (hb : IBox w g x) : IBox w' g x := (h.kept hs hb MemI.item_ne.1 MemI.item_ne.2.1 MemI.item_ne.2.2).trans hb
/-- an append to items of one's own -/
theorem MemI.appI (h : MemI w B hd ns) {base n cap : Nat} {A : Option Addr} {l : List It} (ho : OwnI w base A n cap l) (hg : w.grownBy w' (blk A)) : MemI w' B hd ns :=
  h.other hg fun r e => by
    rcases ho.2.2.2 with ⟨rfl, _⟩ | ⟨g', off, cur, fr, rfl, _, hh, _⟩
    · cases e
    · simp [blk] at e
      subst e
      exact ⟨_, _, _, hh, MemI.item_ne⟩
end
set_option maxHeartbeats 400000 in
theorem mem_height (h0 : Nat) (w : World) (hb : h0 ≤ 9007199254740992) : Calls Try.prog 44 #[.int .i64 (h0 : Int)] w fun e w' => e = .returned (.int .i64 (hgt h0 : Int)) ∧ w = w' := by
  have HT := Lib.hid (show hgtF 12 1 h0 = hgt h0 from rfl)
  go_enter Try.func44, Try.ntmps44
  go_wp2_with fail
  go_loop [0, 3] (fun u n => ∃ f k h : Nat, u = .int .i64 (h : Int) ∧ n = .int .i64 (k : Int) ∧ f + k = 13 ∧ 1 ≤ k ∧ k ≤ 12 ∧ h ≤ 9007199254740992 ∧ hgtF f k h = hgt h0) (fun _ n => 13 - (intOf n).toNat)
  case atStart => exact ⟨12, 1, h0, rfl, rfl, rfl, by omega, by omega, hb, rfl⟩
  case round =>
    obtain ⟨f, k, h, rfl, rfl, hf, hk1, hk12, hhb, he⟩ := hrel
    have HE := Lib.hid he
    clear he
    by_cases hc : h % 4 = 0 ∧ k < 12
    · obtain ⟨f', rfl⟩ : ∃ f', f = f' + 1 := ⟨f - 1, by omega⟩
      have HE2 := Lib.hid (show hgtF f' (k + 1) (h / 4) = hgt h0 by rw [← HE.out]; conv => rhs; unfold hgtF; rw [if_pos hc])
      have q1 : ((h : Int) % 4 == 0) = true := by simp; omega
      have q2 : (k : Int) < 12 := by omega
      have q3 : (0 : Int) ≤ (h : Int) := by omega
      have q4 : (h : Int) ≤ 9007199254740992 := by omega
      clear hc
      go_wp2_with fail
      go_round
      case rel => exact ⟨f', k + 1, h / 4, by go_num, by go_num, by omega, by omega, by omega, by omega, HE2.out⟩
      case measure => simp [intOf]; omega
    · have HK := Lib.hid (show hgt h0 = k by
        rw [← HE.out]
        cases f with
        | zero => rfl
        | succ f => unfold hgtF; rw [if_neg hc])
      have q3 : (0 : Int) ≤ (h : Int) := by omega
      have q4 : (h : Int) ≤ 9007199254740992 := by omega
      by_cases h4 : h % 4 = 0
      · have q1 : ((h : Int) % 4 == 0) = true := by simp; omega
        have q2 : ¬ (k : Int) < 12 := by omega
        clear hc
        go_wp2_with fail
        go_ret
        exact ⟨by rw [HK.out]; rfl, rfl⟩
      · have q1 : ((h : Int) % 4 == 0) = false := by simp; omega
        clear hc
        go_wp2_with fail
        go_ret
        exact ⟨by rw [HK.out]; rfl, rfl⟩
end Go.Proofs.Ytkkeodfoiffofaa
