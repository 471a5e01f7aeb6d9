/- Copies of lists of items, each in a block of its own, in a row of slices; the copies spoilt. -/
import Derived.Test.YtemckkcbakccnaaItemCat
import Derived.Test.YtemckkcbakccnaaItemRev
import Derived.Test.YtemckkcbakccnaaBytes
namespace Go.Proofs.Ytemckkcbakccnaa
open Go.RowKit
set_option linter.unusedVariables false
structure Cp where
  g : Nat
  o : Nat
  c : Nat
  l : List It
def Cp.v (r : Cp) : Value := .slice (some ⟨r.g, r.o, none⟩) r.l.length r.c
def Cp.own (w : World) (base : Nat) (r : Cp) : Prop := OwnI w base (some ⟨r.g, r.o, none⟩) r.l.length r.c r.l
theorem own_types {w : World} {b1 b2 s1 s2 n1 n2 c1 c2 g o : Nat} {e1 e2 : TypeId} {A1 : Option Addr} {x1 x2 : List Value} (h : Own w b1 e1 s1 A1 n1 c1 x1) (k : Own w b2 e2 s2 (some ⟨g, o, none⟩) n2 c2 x2) (hne : e1 ≠ e2) : blk (some ⟨g, o, none⟩) ≠ blk A1 := by
  rcases h.2.2.2 with ⟨rfl, _⟩ | ⟨g1, o1, cur, fr, rfl, _, hh, _⟩
  · intro e; cases e
  · rcases k.2.2.2 with ⟨h0, _⟩ | ⟨g2, o2, cur2, fr2, h0, _, hh2, _⟩
    · cases h0
    · simp only [Option.some.injEq, Addr.mk.injEq] at h0
      obtain ⟨rfl, rfl, _⟩ := h0
      intro e
      simp [blk] at e
      subst e
      rw [hh] at hh2
      injection hh2 with hh2
      injection hh2 with _ he _
      exact hne he
structure Copies (w : World) (base : Nat) (A : Option Addr) (n c : Nat) (rs : List Cp) : Prop where
  len : rs.length = n
  row : Own w base 23 1 A n c (rs.map Cp.v)
  each : ∀ r ∈ rs, r.own w base
  apart : rs.Pairwise fun a b => a.g ≠ b.g
section
variable {w w' w1 w2 : World} {base n c : Nat} {A : Option Addr} {rs : List Cp}
theorem Copies.nil (w : World) (base : Nat) : Copies w base none 0 0 [] := ⟨rfl, Own.nil _ _ _ _, (fun r h => by cases h), List.Pairwise.nil⟩
theorem Copies.grew (h : Copies w base A n c rs) (hg : Grew w w') : Copies w' base A n c rs := ⟨h.len, Own.below_all h.row hg, fun r hr => OwnI.below_all (h.each r hr) hg, h.apart⟩
theorem Copies.add {A2 : Option Addr} {c2 N : Nat} {tmp : Obj} {r : Cp} (h : Copies w base A n c rs) (hg : Grew w w1) (hb : base ≤ w.heap.size) (hr : r.own w1 w.heap.size) (hO : Own w2 base 23 1 A2 N c2 (rs.map Cp.v ++ [r.v])) (hN : N = n + 1) (hg2 : (w1.alloc tmp).grownBy w2 (blk A)) :
    Copies w2 base A2 N c2 (rs ++ [r]) := by
  have k := (h.grew hg).row.alloc tmp
  have ho : ∀ q : Cp, q.own w1 base → q.own w2 base := fun q hq => Own.grown (Own.alloc hq tmp) hg2 (.inr (own_types k (Own.alloc hq tmp) (by decide)))
  refine ⟨by rw [List.length_append, h.len, hN]; rfl, by simpa using hO, fun q hq => ?_, ?_⟩
  · rcases List.mem_append.1 hq with hq | hq
    · exact ho q ((h.grew hg).each q hq)
    · rw [List.mem_singleton.1 hq]
      exact ho r (Own.lower hr hb)
  · rw [List.pairwise_append]
    refine ⟨h.apart, List.pairwise_singleton _ _, fun a ha b hb' => ?_⟩
    rw [List.mem_singleton.1 hb']
    have h1 := (Own.lt (h.each a ha) a.g rfl).2
    have h2 := (Own.lt hr r.g rfl).1
    omega
theorem Copies.head (h : Copies w base A n c rs) {i : Nat} {r : Cp} (hi : rs[i]? = some r) : ∃ ad, A = some ad ∧ ad.block < w.heap.size ∧ w.cell? (ad.add i) = some r.v := by
  obtain ⟨ad, e, hb, hc⟩ := Own.row h.row (Nat.le_refl _) i r.v (by rw [List.getElem?_map, hi]; rfl)
  exact ⟨ad, e, hb, hc⟩
theorem Copies.lrow (h : Copies w base A n c rs) : LRowI w w.heap.size A (rs.map (·.l)) := by
  intro i l hl
  rw [List.getElem?_map] at hl
  cases hr : rs[i]? with
  | none => rw [hr] at hl; cases hl
  | some r =>
    rw [hr] at hl
    injection hl with hl
    subst hl
    obtain ⟨ad, e, hb, hc⟩ := h.head hr
    exact ⟨ad, _, r.c, e, hb, hc, OwnI.is (h.each r (List.mem_of_getElem? hr)) (Nat.le_refl _)⟩
end
theorem itvs_key : ∀ (l : List It) (k : Nat) (x : It) (v : List UInt8), l[k]? = some x → (itvs l).set (k * 4) (sv v) = itvs (l.set k { x with key := v })
  | [], _, _, _, h => by simp at h
  | y :: r, 0, x, v, h => by
    simp at h
    subst h
    rw [Nat.zero_mul, itvs_cons, List.set_cons_zero, itvs_cons]
    simp [itv]
  | y :: r, k + 1, x, v, h => by
    have ih := itvs_key r k x v (by simpa using h)
    rw [itvs_cons, List.set_cons_succ, itvs_cons, ← ih, show (k + 1) * 4 = 4 + k * 4 by omega, List.set_append_right _ _ (by rw [itv_len]; omega), itv_len]
    congr 2
    omega
/-- the copies from the k-th on are whole, the others somehow; what else there is stays -/
structure Spoilt (w0 w : World) (base : Nat) (A : Option Addr) (n c : Nat) (rs : List Cp) (k : Nat) : Prop where
  row : Own w base 23 1 A n c (rs.map Cp.v)
  each : ∀ (i : Nat) (r : Cp), rs[i]? = some r → ∃ l, OwnI w base (some ⟨r.g, r.o, none⟩) r.l.length r.c l ∧ (k ≤ i → l = r.l)
  apart : rs.Pairwise fun a b => a.g ≠ b.g
  below : Below base w0 w
  kept : ∀ g, g < w0.heap.size → (∀ r ∈ rs, r.g ≠ g) → w.heap[g]? = w0.heap[g]?
section
variable {w0 w w' : World} {base n c k : Nat} {A : Option Addr} {rs : List Cp}
theorem Copies.spoilt (h : Copies w base A n c rs) : Spoilt w w base A n c rs 0 :=
  ⟨h.row, fun i r hr => ⟨r.l, h.each r (List.mem_of_getElem? hr), fun _ => rfl⟩, h.apart, Below.refl _ _, fun _ _ _ => rfl⟩
theorem Spoilt.grew (h : Spoilt w0 w base A n c rs k) (hg : Grew w w') (hb : base ≤ w.heap.size) : Spoilt w0 w' base A n c rs k :=
  ⟨Own.below_all h.row hg, fun i r hr => by
    obtain ⟨l, h1, h2⟩ := h.each i r hr
    exact ⟨l, OwnI.below_all h1 hg, h2⟩, h.apart, h.below.trans (Below.mono hg hb), fun g hg' hr => (hg.block g (Nat.lt_of_lt_of_le hg' h.below.size)).trans (h.kept g hg' hr)⟩
theorem Spoilt.next (h : Spoilt w0 w base A n c rs k) : Spoilt w0 w base A n c rs (k + 1) :=
  ⟨h.row, fun i r hr => by
    obtain ⟨l, h1, h2⟩ := h.each i r hr
    exact ⟨l, h1, fun hk => h2 (by omega)⟩, h.apart, h.below, h.kept⟩
theorem Spoilt.head (h : Spoilt w0 w base A n c rs k) {i : Nat} {r : Cp} (hi : rs[i]? = some r) : ∃ ad, A = some ad ∧ ad.block < w.heap.size ∧ w.cell? (ad.add i) = some r.v := by
  obtain ⟨ad, e, hb, hc⟩ := Own.row h.row (Nat.le_refl _) i r.v (by rw [List.getElem?_map, hi]; rfl)
  exact ⟨ad, e, hb, hc⟩
theorem Spoilt.one (h : Spoilt w0 w base A n c rs k) {r : Cp} (hi : rs[k]? = some r) : r.own w base := by
  obtain ⟨l, h1, h2⟩ := h.each k r hi
  rw [h2 (Nat.le_refl _)] at h1
  exact h1
/-- a place of the copy ahead may be written -/
theorem Spoilt.place (h : Spoilt w0 w base A n c rs (k + 1)) {r : Cp} (hi : rs[k]? = some r) {m : Nat} (hm : m < r.l.length) : (∃ u, w.cell? ⟨r.g, r.o + m * 4, none⟩ = some u) ∧ w.frozen? ⟨r.g, r.o + m * 4, none⟩ = false := by
  obtain ⟨l, h1, _⟩ := h.each k r hi
  have h2 := h1.there hm 0 (by omega)
  exact ⟨Option.isSome_iff_exists.1 h2.1, h2.2⟩
theorem Spoilt.set (h : Spoilt w0 w base A n c rs (k + 1)) {r : Cp} (hi : rs[k]? = some r) {m : Nat} (hm : m < r.l.length) (v : List UInt8) : Spoilt w0 (w.setCell ⟨r.g, r.o + m * 4, none⟩ (sv v)) base A n c rs (k + 1) := by
  obtain ⟨l, h1, _⟩ := h.each k r hi
  obtain ⟨x, hx⟩ : ∃ x, l[m]? = some x := ⟨_, List.getElem?_eq_getElem (by have := h1.len; omega)⟩
  have hs : OwnI (w.setCell ⟨r.g, r.o + m * 4, none⟩ (sv v)) base (some ⟨r.g, r.o, none⟩) r.l.length r.c (l.set m { x with key := v }) := by
    unfold OwnI
    rw [← itvs_key l m x v hx]
    exact Own.set h1 (by omega) _
  refine ⟨Own.setCell (p := ⟨r.g, r.o + m * 4, none⟩) h.row (fun e => own_types h.row h1 (by decide) e.symm) (sv v), fun i q hq => ?_, h.apart, h.below.setCell (p := ⟨r.g, r.o + m * 4, none⟩) (Own.lt h1 r.g rfl).1 (sv v), fun g hg hr => (Below.heap_setCell w ⟨r.g, r.o + m * 4, none⟩ (sv v) g (fun e => hr r (List.mem_of_getElem? hi) e.symm)).trans (h.kept g hg hr)⟩
  by_cases hik : i = k
  · subst hik
    rw [hi] at hq
    injection hq with hq
    subst hq
    exact ⟨_, hs, fun hk => by omega⟩
  · obtain ⟨l2, h3, h4⟩ := h.each i q hq
    refine ⟨l2, Own.setCell (p := ⟨r.g, r.o + m * 4, none⟩) h3 (fun e => ?_) (sv v), h4⟩
    simp [blk] at e
    have hne : ∀ (i j : Nat) (a b : Cp), i < j → rs[i]? = some a → rs[j]? = some b → a.g ≠ b.g := fun i j a b hij ha hb => by
      have h5 := List.getElem?_eq_some_iff.1 ha
      have h6 := List.getElem?_eq_some_iff.1 hb
      obtain ⟨h5, rfl⟩ := h5
      obtain ⟨h6, rfl⟩ := h6
      exact List.pairwise_iff_getElem.1 h.apart i j h5 h6 hij
    rcases Nat.lt_or_ge i k with hlt | hge
    · exact hne i k q r hlt hq hi e
    · exact hne k i r q (by omega) hi hq e.symm
/-- what lies behind the copies stays -/
theorem Spoilt.keep (h : Spoilt w0 w base A n c rs k) {B : Nat} (hB : ∀ r ∈ rs, r.g < B) {base2 n2 c2 : Nat} {A2 : Option Addr} {l2 : List It} (ho : OwnI w0 base2 A2 n2 c2 l2) (hb : B ≤ base2) : OwnI w base2 A2 n2 c2 l2 :=
  Own.keep ho fun g hg => h.kept g (Own.lt ho g hg).2 fun r hr e => by
    have h1 := hB r hr
    have h2 := (Own.lt ho g hg).1
    omega
end
end Go.Proofs.Ytemckkcbakccnaa
