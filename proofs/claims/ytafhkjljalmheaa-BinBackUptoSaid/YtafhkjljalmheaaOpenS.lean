/- A slice of texts that came in, opened: a list of lists of bytes. -/
import Derived.Test.YtafhkjljalmheaaOpen
import Derived.Deep.Slices
namespace Go.Proofs.Ytafhkjljalmheaa
open Go.RowKit Go.ChangeShapes Go.WideShapes
structure StrsIn (w : World) (A : Option Addr) (n c : Nat) (ll : List (List UInt8)) : Prop where
  len : ll.length = n
  le : n ≤ c
  max : c ≤ maxLen
  row : Row w w.heap.size A (ll.map fun s => .string ⟨s.toArray⟩)
def bulk_strs : List (List UInt8) → Nat
  | [] => 0
  | l :: r => l.length + 1 + bulk_strs r
section
variable {H : Type} {enc : TypeId × Value → H} {P : Program} {w : World} {base : Nat} {spare : Nat → Bool} {held : Bool}
theorem open_strs {t u : TypeId} {fuel : Nat} {A : Option Addr} {n c : Nat} {x : DataW H × List MemPlace} (ht : P.underlying t = some (.slice u)) (hu : P.underlying u = some .string) (hcu : P.cellsOf u = 1)
    (h : DataW.trod enc P w base spare held fuel t [.slice A n c] = some x) :
    ∃ ll, StrsIn w A n c ll ∧ bulk_strs ll + 1 ≤ Rows.uptoBulk x.1 ∧ ((x.1 = .nil ∧ n = 0) ∨ ∃ es sp, x.1 = .slice es sp ∧ es.length = n) := by
  rcases Deep.open_slice1 ht hcu h with ⟨hcs, hx⟩ | ⟨a, len, cap, m, n1, V, D, Pl, hcs, _, hl, hm, hmm, hx, hi⟩
  · simp only [List.cons.injEq, Value.slice.injEq, and_true] at hcs
    obtain ⟨rfl, rfl, rfl⟩ := hcs
    exact ⟨[], ⟨rfl, Nat.le_refl _, Nat.zero_le _, Row.nil⟩, one_le_bulk _, .inl ⟨by rw [hx], rfl⟩⟩
  · simp only [List.cons.injEq, Value.slice.injEq, and_true] at hcs
    obtain ⟨rfl, rfl, rfl⟩ := hcs
    have hnm : n ≤ m := by rw [hmm]; split <;> omega
    have each : ∀ i, i < n → ∃ l : List UInt8, V i = .string ⟨l.toArray⟩ ∧ l.length + 1 ≤ Rows.uptoBulk (D i) := by
      intro i hin
      obtain ⟨_, h2⟩ := hi i (by omega)
      obtain ⟨b, hb, hd, _⟩ := DataW.trod_string hu h2
      simp only [List.cons.injEq, and_true] at hb
      simp only [Prod.mk.injEq] at hd
      refine ⟨b.data.toList, by rw [hb, Array.toArray_toList], ?_⟩
      rw [hd.1]
      simp [Rows.uptoBulk]
    have pick : ∃ f : Nat → List UInt8, ∀ i, i < n → V i = .string ⟨(f i).toArray⟩ ∧ (f i).length + 1 ≤ Rows.uptoBulk (D i) := by
      refine ⟨fun i => if h : i < n then (each i h).choose else [], fun i hin => ?_⟩
      have := (each i hin).choose_spec
      simp only [hin, dif_pos]
      exact this
    obtain ⟨f, hf⟩ := pick
    refine ⟨(List.range n).map f, ⟨by simp, hl, hm, ?_⟩, ?_, .inr ⟨_, _, by rw [hx], by simp⟩⟩
    · intro j v hjv
      simp only [List.map_map, List.getElem?_map, Option.map_eq_some_iff, Function.comp] at hjv
      obtain ⟨k, hk, rfl⟩ := hjv
      obtain ⟨hlt, hjk⟩ := List.getElem?_eq_some_iff.1 hk
      simp at hlt hjk
      subst hjk
      obtain ⟨h1, _⟩ := hf j hlt
      obtain ⟨hc1, _⟩ := hi j (by omega)
      rw [h1] at hc1
      refine ⟨a, rfl, ?_, hc1⟩
      have := World.block_lt_of_cell? w _ hc1
      rwa [add_block] at this
    · rw [hx]
      have key : ∀ ks : List Nat, (∀ k ∈ ks, k < n) → bulk_strs (ks.map f) ≤ Rows.uptoBulkAll (ks.map D) := by
        intro ks
        induction ks with
        | nil => intro _; simp [bulk_strs]
        | cons k ks ih =>
          intro hks
          have h1 := ih (fun j hj => hks j (by simp [hj]))
          obtain ⟨_, h3⟩ := hf k (hks k (by simp))
          simp only [List.map_cons, bulk_strs, Rows.uptoBulkAll]
          omega
      have h1 := key (List.range n) (fun k hk => by simpa using hk)
      simp only [Rows.uptoBulk]
      omega
end
end Go.Proofs.Ytafhkjljalmheaa
