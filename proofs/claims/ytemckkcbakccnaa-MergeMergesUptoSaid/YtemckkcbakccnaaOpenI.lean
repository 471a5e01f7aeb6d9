/- A slice of items that came in, opened. -/
import Derived.Test.YtemckkcbakccnaaOpen
import Derived.Test.YtemckkcbakccnaaItem
import Derived.Deep.Slices
import Derived.Deep.Fields
import Derived.ChangeSame
namespace Go.Proofs.Ytemckkcbakccnaa
open Go.RowKit Go.ChangeShapes Go.WideShapes Go.Deep
set_option linter.unusedVariables false
/-- a slice of items that came in: what is known of each number -/
structure ItemsIn (w : World) (A : Option Addr) (n c : Nat) (l : List It) : Prop where
  is : Is w w.heap.size A n c l
  seq : ∀ x ∈ l, x.seq < m64
  kln : ∀ x ∈ l, x.key.length ≤ maxLen
def bulk_items : List It → Nat
  | [] => 0
  | x :: r => x.key.length + x.val.length + 1 + bulk_items r
section
variable {H : Type} {enc : TypeId × Value → H} {w : World} {base : Nat} {spare : Nat → Bool} {held : Bool}
theorem wf_u64 {z : Int} (h : (Lit.int .u64 z).wf = true) : 0 ≤ z ∧ z ≤ 18446744073709551615 := by
  simpa [Lit.wf, IntKind.min, IntKind.max, IntKind.signed, IntKind.bits] using h
set_option maxRecDepth 100000 in
theorem item_cells {a : Addr} {fuel : Nat} {cs : List Value} {y : DataW H × List MemPlace} (hc : cs.length = 4) (h : DataW.trod enc Try.prog w base spare held fuel 29 cs = some y) :
    ∃ x : It, cs = itv x ∧ (x.seq < m64 ∧ x.key.length ≤ maxLen) ∧ x.key.length + x.val.length + 1 ≤ Rows.uptoBulk y.1 := by
  obtain ⟨ys, n, _, hy, hlen, hyl, hf⟩ := DataW.trod_struct Try.underlying29 h
  match cs, hc with
  | [c0, c1, c2, c3], _ =>
    match ys, hyl with
    | [y0, y1, y2, y3], _ =>
      have k0 : Try.prog.cellsOf 9 = 1 := by kernel_rfl
      have k1 : Try.prog.cellsOf 27 = 1 := by kernel_rfl
      have k2 : Try.prog.cellsOf 4 = 1 := by kernel_rfl
      have h0 : DataW.trod enc Try.prog w base spare held n 9 [c0] = some y0 := by simpa [k0] using hf 0 _ rfl
      have h1 : DataW.trod enc Try.prog w base spare held n 27 [c1] = some y1 := by simpa [k1] using hf 1 _ rfl
      have h2 : DataW.trod enc Try.prog w base spare held n 4 [c2] = some y2 := by simpa [k2] using hf 2 _ rfl
      have h3 : DataW.trod enc Try.prog w base spare held n 9 [c3] = some y3 := by simpa [k0] using hf 3 _ rfl
      obtain ⟨s0, e0, d0, ln0⟩ := DataW.trod_string Try.underlying9 h0
      obtain ⟨z1, e1, d1, wf1⟩ := DataW.trod_int Try.underlying27 h1
      obtain ⟨b2, e2, d2⟩ := DataW.trod_bool Try.underlying4 h2
      obtain ⟨s3, e3, d3, _⟩ := DataW.trod_string Try.underlying9 h3
      obtain ⟨w1, w2⟩ := wf_u64 wf1
      simp only [List.cons.injEq, and_true] at e0 e1 e2 e3
      refine ⟨⟨s0.data.toList, z1.toNat, b2, s3.data.toList⟩, ?_, ⟨show z1.toNat < m64 by rw [m64_eq]; omega, by have := ln0; rw [← ByteArray.size_data, ← Array.length_toList] at this; exact this⟩, ?_⟩
      · rw [e0, e1, e2, e3]
        simp only [itv, Array.toArray_toList, Int.toNat_of_nonneg w1]
      · rw [hy]
        simp only [List.map_cons, List.map_nil, d0, d1, d2, d3, Rows.uptoBulk, Rows.uptoBulkAll]
        simp
        omega
set_option maxRecDepth 100000 in
theorem open_items {fuel : Nat} {A : Option Addr} {n c : Nat} {x : DataW H × List MemPlace} (h : DataW.trod enc Try.prog w base spare held fuel 23 [.slice A n c] = some x) :
    ∃ l, ItemsIn w A n c l ∧ bulk_items l + 1 ≤ Rows.uptoBulk x.1 ∧ ((x.1 = .nil ∧ n = 0) ∨ ∃ es sp, x.1 = .slice es sp ∧ es.length = n) := by
  have hC : Try.prog.cellsOf 29 = 4 := by kernel_rfl
  rcases open_slice Try.underlying23 h with ⟨hcs, hx⟩ | ⟨a, len, cap, m, n1, D, Pl, hcs, _, hl, hm, hmm, hx, hi⟩
  · simp only [List.cons.injEq, Value.slice.injEq, and_true] at hcs
    obtain ⟨rfl, rfl, rfl⟩ := hcs
    exact ⟨[], ⟨Is.nil _ _, (fun x h => by cases h), fun x h => by cases h⟩, one_le_bulk _, .inl ⟨by rw [hx], rfl⟩⟩
  · simp only [List.cons.injEq, Value.slice.injEq, and_true] at hcs
    obtain ⟨rfl, rfl, rfl⟩ := hcs
    have hnm : n ≤ m := by rw [hmm]; split <;> omega
    have each : ∀ i, i < n → ∃ x : It, (∀ j u, (itv x)[j]? = some u → w.cell? (a.add (i * 4 + j)) = some u) ∧ (x.seq < m64 ∧ x.key.length ≤ maxLen) ∧ x.key.length + x.val.length + 1 ≤ Rows.uptoBulk (D i) := by
      intro i hin
      obtain ⟨cs', hc, ht'⟩ := hi i (by omega)
      rw [hC] at hc
      obtain ⟨_, hcl, hat⟩ := World.cells?_some hc
      obtain ⟨x, e1, e2, e3⟩ := item_cells (a := a) hcl ht'
      refine ⟨x, fun j u hu => ?_, e2, e3⟩
      have hj : j < 4 := by have := (List.getElem?_eq_some_iff.1 hu).1; rwa [itv_len] at this
      have := hat j hj
      rw [Go.Deep.add_add] at this
      rw [this, e1]
      exact hu
    have pick : ∃ f : Nat → It, ∀ i, i < n → (∀ j u, (itv (f i))[j]? = some u → w.cell? (a.add (i * 4 + j)) = some u) ∧ ((f i).seq < m64 ∧ (f i).key.length ≤ maxLen) ∧ (f i).key.length + (f i).val.length + 1 ≤ Rows.uptoBulk (D i) := by
      refine ⟨fun i => if h : i < n then (each i h).choose else ItP.none0, fun i hin => ?_⟩
      have := (each i hin).choose_spec
      simp only [hin, dif_pos]
      exact this
    obtain ⟨f, hf⟩ := pick
    have row : ∀ (k : Nat) (hk : k ≤ n) (j : Nat) (u : Value), (itvs ((List.range k).map f))[j]? = some u → w.cell? (a.add j) = some u := by
      intro k
      induction k with
      | zero => intro _ j u h; simp [itvs] at h
      | succ k ih =>
        intro hk j u h
        rw [List.range_succ, List.map_append, itvs_append, List.getElem?_append] at h
        split at h
        · exact ih (by omega) j u h
        · rename_i hge
          rw [itvs_len] at h hge
          simp only [List.length_map, List.length_range] at h hge
          simp only [List.map_cons, List.map_nil, itvs_one] at h
          have := (hf k (by omega)).1 _ _ h
          rwa [show k * 4 + (j - k * 4) = j from by omega] at this
    refine ⟨(List.range n).map f, ⟨⟨by simp, hl, hm, ?_⟩, ?_, ?_⟩, ?_, .inr ⟨_, _, by rw [hx], by simp⟩⟩
    · intro j u hu
      have hc1 := row n (Nat.le_refl _) j u hu
      refine ⟨a, rfl, ?_, hc1⟩
      have := World.block_lt_of_cell? w _ hc1
      rwa [add_block] at this
    · intro x hx
      obtain ⟨i, hi1, rfl⟩ := List.mem_map.1 hx
      exact (hf i (by simpa using hi1)).2.1.1
    · intro x hx
      obtain ⟨i, hi1, rfl⟩ := List.mem_map.1 hx
      exact (hf i (by simpa using hi1)).2.1.2
    · rw [hx]
      have key : ∀ ks : List Nat, (∀ k ∈ ks, k < n) → bulk_items (ks.map f) ≤ Rows.uptoBulkAll (ks.map D) := by
        intro ks
        induction ks with
        | nil => intro _; simp [bulk_items]
        | cons k ks ih =>
          intro hks
          have h1 := ih (fun j hj => hks j (by simp [hj]))
          have h3 := (hf k (hks k (by simp))).2.2
          simp only [List.map_cons, bulk_items, Rows.uptoBulkAll]
          omega
      have h1 := key (List.range n) (fun k hk => by simpa using hk)
      simp only [Rows.uptoBulk]
      omega
end
end Go.Proofs.Ytemckkcbakccnaa
