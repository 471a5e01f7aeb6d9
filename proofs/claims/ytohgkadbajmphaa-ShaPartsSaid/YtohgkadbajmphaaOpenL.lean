/- A slice of slices of bytes that came in, opened: a list of lists of bytes. -/
import Derived.Test.YtohgkadbajmphaaOpen
import Derived.Deep.Slices
namespace Go.Proofs.Ytohgkadbajmphaa
open Go.RowKit Go.ChangeShapes Go.WideShapes
/-- the elements of a slice of slices of bytes, one by one -/
def LRow (w : World) (B : Nat) (A : Option Addr) (ll : List (List UInt8)) : Prop :=
  ∀ (i : Nat) (l : List UInt8), ll[i]? = some l → ∃ ad A' c', A = some ad ∧ ad.block < B ∧ w.cell? (ad.add i) = some (.slice A' l.length c') ∧ l.length ≤ c' ∧ c' ≤ maxLen ∧ Row w B A' (l.map b8)
theorem LRow.keep {w w' : World} {B : Nat} {A : Option Addr} {ll : List (List UInt8)} (h : LRow w B A ll) (hk : ∀ p : Addr, p.block < B → w'.cell? p = w.cell? p) : LRow w' B A ll := by
  intro i l hl
  obtain ⟨ad, A', c', e, hb, hc, h1, h2, h3⟩ := h i l hl
  exact ⟨ad, A', c', e, hb, (hk _ (by rw [add_block]; exact hb)).trans hc, h1, h2, h3.keep hk⟩
theorem LRow.below {w w' : World} {B : Nat} {A : Option Addr} {ll : List (List UInt8)} (h : LRow w B A ll) (hb : Below B w w') : LRow w' B A ll := h.keep fun _ hp => hb.cell hp
structure LBytesIn (w : World) (A : Option Addr) (n c : Nat) (ll : List (List UInt8)) : Prop where
  len : ll.length = n
  le : n ≤ c
  max : c ≤ maxLen
  row : LRow w w.heap.size A ll
/-- how many values and letters: at least -/
def bulk_lbytes : List (List UInt8) → Nat
  | [] => 0
  | l :: r => l.length + 1 + bulk_lbytes r
section
variable {H : Type} {enc : TypeId × Value → H} {P : Program} {w : World} {base : Nat} {spare : Nat → Bool} {held : Bool}
theorem bytes_form {t e : TypeId} {fuel : Nat} {v : Value} {x : DataW H × List MemPlace} (ht : P.underlying t = some (.slice e)) (he : P.underlying e = some (.int .u8)) (hc : P.cellsOf e = 1)
    (h : DataW.trod enc P w base spare held fuel t [v] = some x) : ∃ A n c, v = .slice A n c := by
  rcases open_ints ht he hc h with ⟨hcs, hx⟩ | ⟨a, n', c', zs, hcs, _⟩
  · simp only [List.cons.injEq, and_true] at hcs
    exact ⟨_, _, _, hcs⟩
  · simp only [List.cons.injEq, and_true] at hcs
    exact ⟨_, _, _, hcs⟩
theorem open_lbytes {t u e : TypeId} {fuel : Nat} {A : Option Addr} {n c : Nat} {x : DataW H × List MemPlace} (ht : P.underlying t = some (.slice u)) (hu : P.underlying u = some (.slice e)) (he : P.underlying e = some (.int .u8)) (hcu : P.cellsOf u = 1) (hc : P.cellsOf e = 1)
    (h : DataW.trod enc P w base spare held fuel t [.slice A n c] = some x) :
    ∃ ll, LBytesIn w A n c ll ∧ bulk_lbytes ll + 1 ≤ Rows.uptoBulk x.1 ∧ ((x.1 = .nil ∧ n = 0) ∨ ∃ es sp, x.1 = .slice es sp ∧ es.length = n) := by
  rcases Deep.open_slice1 ht hcu h with ⟨hcs, hx⟩ | ⟨a, len, cap, m, n1, V, D, Pl, hcs, _, hl, hm, hmm, hx, hi⟩
  · simp only [List.cons.injEq, Value.slice.injEq, and_true] at hcs
    obtain ⟨rfl, rfl, rfl⟩ := hcs
    exact ⟨[], ⟨rfl, Nat.le_refl _, Nat.zero_le _, fun i l h => by simp at h⟩, one_le_bulk _, .inl ⟨by rw [hx], rfl⟩⟩
  · simp only [List.cons.injEq, Value.slice.injEq, and_true] at hcs
    obtain ⟨rfl, rfl, rfl⟩ := hcs
    have hnm : n ≤ m := by rw [hmm]; split <;> omega
    have each : ∀ i, i < n → ∃ l A' c', V i = .slice A' l.length c' ∧ BytesIn w A' l.length c' l ∧ l.length + 1 ≤ Rows.uptoBulk (D i) := by
      intro i hin
      obtain ⟨_, h2⟩ := hi i (by omega)
      obtain ⟨A', n', c', hv⟩ := bytes_form hu he hc h2
      rw [hv] at h2
      obtain ⟨l, hb, hbu, _⟩ := open_bytes hu he hc h2
      have hln := hb.len
      subst hln
      exact ⟨l, A', c', hv, hb, hbu⟩
    have pick : ∃ f : Nat → List UInt8, ∀ i, i < n → ∃ A' c', V i = .slice A' (f i).length c' ∧ BytesIn w A' (f i).length c' (f i) ∧ (f i).length + 1 ≤ Rows.uptoBulk (D i) := by
      refine ⟨fun i => if h : i < n then (each i h).choose else [], fun i hin => ?_⟩
      obtain ⟨A', c', h1, h2, h3⟩ := (each i hin).choose_spec
      refine ⟨A', c', ?_⟩
      simp only [hin, dif_pos]
      exact ⟨h1, h2, h3⟩
    obtain ⟨f, hf⟩ := pick
    refine ⟨(List.range n).map f, ⟨by simp, hl, hm, ?_⟩, ?_, .inr ⟨_, _, by rw [hx], by simp⟩⟩
    · intro i l hil
      simp only [List.getElem?_map, Option.map_eq_some_iff] at hil
      obtain ⟨j, hj, rfl⟩ := hil
      have hjn := List.getElem?_eq_some_iff.1 hj
      obtain ⟨hlt, hji⟩ := hjn
      simp at hlt hji
      subst hji
      obtain ⟨A', c', h1, h2, _⟩ := hf i hlt
      obtain ⟨hc1, _⟩ := hi i (by omega)
      rw [h1] at hc1
      refine ⟨a, A', c', rfl, ?_, hc1, h2.le, h2.max, h2.row⟩
      have := World.block_lt_of_cell? w _ hc1
      rwa [add_block] at this
    · rw [hx]
      have key : ∀ ks : List Nat, (∀ k ∈ ks, k < n) → bulk_lbytes (ks.map f) ≤ Rows.uptoBulkAll (ks.map D) := by
        intro ks
        induction ks with
        | nil => intro _; simp [bulk_lbytes]
        | cons k ks ih =>
          intro hks
          have h1 := ih (fun j hj => hks j (by simp [hj]))
          obtain ⟨_, _, _, _, h3⟩ := hf k (hks k (by simp))
          simp only [List.map_cons, bulk_lbytes, Rows.uptoBulkAll]
          omega
      have h1 := key (List.range n) (fun k hk => by simpa using hk)
      simp only [Rows.uptoBulk]
      omega
end
end Go.Proofs.Ytohgkadbajmphaa
