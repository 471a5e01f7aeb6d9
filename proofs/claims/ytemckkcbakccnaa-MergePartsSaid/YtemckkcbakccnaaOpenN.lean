/- A slice of whole numbers that came in, opened. -/
import Derived.Test.YtemckkcbakccnaaOpen
namespace Go.Proofs.Ytemckkcbakccnaa
open Go.RowKit Go.ChangeShapes Go.WideShapes
structure NumsIn (k : IntKind) (w : World) (A : Option Addr) (n c : Nat) (l : List Int) : Prop where
  len : l.length = n
  le : n ≤ c
  max : c ≤ maxLen
  row : Row w w.heap.size A (l.map (Value.int k))
  wf : ∀ z ∈ l, (Lit.int k z).wf = true
section
variable {H : Type} {enc : TypeId × Value → H} {P : Program} {w : World} {base : Nat} {spare : Nat → Bool} {held : Bool}
theorem open_nums {k : IntKind} {t e : TypeId} {fuel : Nat} {A : Option Addr} {n c : Nat} {x : DataW H × List MemPlace} (ht : P.underlying t = some (.slice e)) (he : P.underlying e = some (.int k)) (hc : P.cellsOf e = 1)
    (h : DataW.trod enc P w base spare held fuel t [.slice A n c] = some x) :
    ∃ l, NumsIn k w A n c l ∧ n + 1 ≤ Rows.uptoBulk x.1 ∧ ((x.1 = .nil ∧ n = 0) ∨ ∃ es sp, x.1 = .slice es sp ∧ es.length = n) := by
  rcases open_ints ht he hc h with ⟨hcs, hx⟩ | ⟨a, n', c', zs, hcs, _, hl, hm, hz, hx, hcell, hwz⟩
  · simp only [List.cons.injEq, Value.slice.injEq, and_true] at hcs
    obtain ⟨rfl, rfl, rfl⟩ := hcs
    exact ⟨[], ⟨rfl, Nat.le_refl _, Nat.zero_le _, Row.nil, fun _ h => by cases h⟩, one_le_bulk _, .inl ⟨by rw [hx], rfl⟩⟩
  · simp only [List.cons.injEq, Value.slice.injEq, and_true] at hcs
    obtain ⟨rfl, rfl, rfl⟩ := hcs
    have hnz : n ≤ zs.length := by rw [hz]; split <;> omega
    have hlen : (lits (H := H) k (zs.take n)).length = n := by simp [lits]; omega
    refine ⟨zs.take n, ⟨by simp; omega, hl, hm, ?_, fun z hz => hwz z (List.mem_of_mem_take hz)⟩, ?_, .inr ⟨_, _, by rw [hx], hlen⟩⟩
    · intro j u hu
      simp only [List.getElem?_map, Option.map_eq_some_iff] at hu
      obtain ⟨z, hz1, rfl⟩ := hu
      have hz2 : zs[j]? = some z := by
        rw [List.getElem?_take] at hz1
        split at hz1
        · exact hz1
        · cases hz1
      have hj : j < zs.length := (List.getElem?_eq_some_iff.1 hz2).1
      have hcc := hcell j hj
      have hzd : zs.getD j 0 = z := by simp [List.getD, hz2]
      rw [hzd] at hcc
      refine ⟨a, rfl, ?_, hcc⟩
      have := World.block_lt_of_cell? w _ hcc
      rwa [add_block] at this
    · rw [hx]
      have h2 := length_le_bulk (lits (H := H) k (zs.take n))
      simp only [Rows.uptoBulk]
      omega
end
end Go.Proofs.Ytemckkcbakccnaa
