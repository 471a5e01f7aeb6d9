/- Memory words of our own: a row of cells behind a slice value, nil let in; how it is kept. -/
import Derived.WalkKit
import Derived.WalkSpells
import Derived.WalkLawsBesides
import Derived.Lib.Hide
namespace Go.Proofs.Ytohgkadbajmphaa
open Go.RowKit

theorem add_block (a : Addr) (n : Nat) : (a.add n).block = a.block := by unfold Addr.add; split <;> rfl
theorem add_add (a : Addr) (i j : Nat) : (a.add i).add j = a.add (i + j) := by
  unfold Addr.add
  by_cases hi : i = 0 <;> by_cases hj : j = 0 <;> simp [hi, hj, Nat.add_assoc]

/-- The cells xs lie one behind the other from address A on, below block B; no cell: nothing is asked of A. -/
def Row (w : World) (B : Nat) (A : Option Addr) (xs : List Value) : Prop :=
  ∀ (j : Nat) (u : Value), xs[j]? = some u → ∃ ad, A = some ad ∧ ad.block < B ∧ w.cell? (ad.add j) = some u

section
variable {w w' : World} {B B' : Nat} {A : Option Addr} {xs ys : List Value}
theorem Row.nil : Row w B A [] := by intro j u h; simp at h
theorem Row.keep (h : Row w B A xs) (hk : ∀ p : Addr, p.block < B → w'.cell? p = w.cell? p) : Row w' B A xs := by
  intro j u hu
  obtain ⟨ad, e, hb, hc⟩ := h j u hu
  exact ⟨ad, e, hb, (hk _ (by rw [add_block]; exact hb)).trans hc⟩
theorem Row.more (h : Row w B A xs) (hB : B ≤ B') : Row w B' A xs := by
  intro j u hu
  obtain ⟨ad, e, hb, hc⟩ := h j u hu
  exact ⟨ad, e, by omega, hc⟩
theorem Row.below (h : Row w B A xs) (hb : Below B w w') : Row w' B A xs := h.keep fun _ hp => hb.cell hp
theorem Row.drewN (h : Row w B A xs) (k : Nat) : Row (w.drewN k) B A xs := h
theorem Row.alloc (h : Row w B A xs) (hB : B ≤ w.heap.size) (o : Obj) : Row (w.alloc o) B A xs := h.keep fun p hp => World.cell?_alloc_lt w o p (by omega)
theorem Row.setCell (h : Row w B A xs) {p : Addr} (hB : B ≤ p.block) (u : Value) : Row (w.setCell p u) B A xs :=
  h.keep fun q hq => World.cell?_setCell_other w p q u (fun e => by subst e; omega)
theorem Row.grown (h : Row w B A xs) {row : Option Nat} (hg : w.grownBy w' row) (hB : B ≤ w.heap.size) (hr : ∀ g, row = some g → B ≤ g) : Row w' B A xs :=
  h.keep fun p hp => World.cell?_of_block (hg.block p.block (by omega) (fun e => by have := hr _ e.symm; omega))
/-- the j-th cell -/
theorem Row.at_ (h : Row w B A xs) (j : Nat) (hj : j < xs.length) : ∃ ad, A = some ad ∧ ad.block < B ∧ w.cell? (ad.add j) = some xs[j] := h j _ (List.getElem?_eq_getElem hj)
/-- from the k-th cell on -/
theorem Row.drop {ad : Addr} (h : Row w B (some ad) xs) (k : Nat) : Row w B (some (ad.add k)) (xs.drop k) := by
  intro j u hu
  rw [List.getElem?_drop] at hu
  obtain ⟨ad', e, hb, hc⟩ := h _ _ hu
  injection e with e
  subst e
  exact ⟨_, rfl, by rw [add_block]; exact hb, by rw [add_add]; exact hc⟩
theorem Row.take (h : Row w B A xs) (k : Nat) : Row w B A (xs.take k) := by
  intro j u hu
  rw [List.getElem?_take] at hu
  split at hu
  · exact h j u hu
  · cases hu
theorem Row.of_own {base : Nat} {e : TypeId} {size n c : Nat} (h : w.ownsRow base e size (.slice A n c) n xs) (hB : w.heap.size ≤ B) : Row w B A xs := by
  intro j u hu
  have hlt : j < xs.length := (List.getElem?_eq_some_iff.1 hu).1
  have h1 := h.1
  have hn : 0 < n := by
    rcases Nat.eq_zero_or_pos n with h0 | h0
    · subst h0; simp at h1; simp [h1] at hlt
    · exact h0
  rcases h.2 with ⟨_, h0⟩ | ⟨g, cap, cur, hv, _, hh, hnc, _, hsz, ht⟩
  · omega
  · have hA : A = some ⟨g, 0, none⟩ := by injection hv
    subst hA
    have hg : g < w.heap.size := by
      rcases Nat.lt_or_ge g w.heap.size with hlt | hge
      · exact hlt
      · rw [Array.getElem?_eq_none hge] at hh; cases hh
    exact ⟨_, rfl, by show g < B; omega, h.cells (g := g) rfl j u hu⟩
end
end Go.Proofs.Ytohgkadbajmphaa
