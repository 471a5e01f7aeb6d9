/- The skip list in memory: its nodes one behind the other; who comes next on a level; the last one ahead of a place. -/
import Derived.Test.YtkkeodfoiffofaaItemBox
import Derived.Test.YtkkeodfoiffofaaArr
namespace Go.Proofs.Ytkkeodfoiffofaa
open Go.RowKit
set_option linter.unusedVariables false
/-- a node: its block, its row's block, on how many levels it is linked, how many its row has, its item -/
structure Nd where
  b : Nat
  r : Nat
  h : Nat
  s : Nat
  x : It
namespace MemP
def pa (b : Nat) : Option Addr := some ⟨b, 0, none⟩
/-- the first node of l that is linked on level i -/
def nxt (l : List Nd) (i : Nat) : Option Addr := (l.find? fun nd => decide (i < nd.h)).map fun nd => ⟨nd.b, 0, none⟩
theorem nxt_nil (i : Nat) : nxt [] i = none := rfl
theorem nxt_none {l : List Nd} {i : Nat} (h : nxt l i = none) : ∀ q ∈ l, q.h ≤ i := by
  intro q hq
  unfold nxt at h
  rw [Option.map_eq_none_iff, List.find?_eq_none] at h
  have := h q hq
  simp at this
  omega
theorem nxt_some {l : List Nd} {i : Nat} {a : Addr} (h : nxt l i = some a) : ∃ A nd R, l = A ++ nd :: R ∧ a = ⟨nd.b, 0, none⟩ ∧ i < nd.h ∧ ∀ q ∈ A, q.h ≤ i := by
  unfold nxt at h
  rw [Option.map_eq_some_iff] at h
  obtain ⟨nd, h1, h2⟩ := h
  rw [List.find?_eq_some_iff_append] at h1
  obtain ⟨h3, A, R, h4, h5⟩ := h1
  refine ⟨A, nd, R, h4, h2.symm, by simpa using h3, fun q hq => ?_⟩
  have := h5 q hq
  simp at this
  omega
/-- nd is the last one that is linked on level i and is the head or stands ahead of x -/
def LastAt (full : List Nd) (x : It) (i : Nat) (nd : Nd) : Prop := ∃ A R, full = A ++ nd :: R ∧ (A = [] ∨ ItP.ahead nd.x x = true) ∧ i < nd.h ∧ ∀ q ∈ R, i < q.h → ItP.ahead q.x x = false
/-- the items of the nodes behind the head are sorted -/
def SrtN (ns : List Nd) : Prop := ItP.Srt (ns.map (·.x))
theorem srt_behind {A R : List Nd} {nd : Nd} {x : It} (h : SrtN (A ++ nd :: R)) (hn : ItP.ahead nd.x x = false) : ∀ q ∈ R, ItP.ahead q.x x = false := by
  intro q hq
  unfold SrtN ItP.Srt at h
  rw [List.map_append, List.map_cons, List.pairwise_append, List.pairwise_cons] at h
  have h1 := h.2.1.1 q.x (List.mem_map.2 ⟨q, hq, rfl⟩)
  cases h2 : ItP.ahead q.x x with
  | false => rfl
  | true =>
    rw [ItP.ahead_trans h1 h2] at hn
    cases hn
theorem srt_suffix {A R : List Nd} (h : SrtN (A ++ R)) : SrtN R := by
  unfold SrtN ItP.Srt at *
  rw [List.map_append, List.pairwise_append] at h
  exact h.2.1
end MemP
def NodeC (w : World) (nd : Nd) : Prop := ∃ (cs : Array Value) (e : TypeId), w.heap[nd.b]? = some (.cells cs e (0, 0)) ∧ (e = 70 ∨ e = 72) ∧ ∀ (j : Nat) (v : Value), (itv nd.x ++ [.slice (some ⟨nd.r, 0, none⟩) nd.s nd.s])[j]? = some v → cs[j]? = some v
def RowC (w : World) (nd : Nd) (rest : List Nd) : Prop := ∃ cs : Array Value, w.heap[nd.r]? = some (.cells cs 73 (0, 0)) ∧ cs.size = nd.s ∧ nd.h ≤ nd.s ∧ ∀ i, i < nd.h → cs[i]? = some (.pointer (MemP.nxt rest i))
structure Lst (w : World) (B : Nat) (full : List Nd) : Prop where
  node : ∀ nd ∈ full, NodeC w nd
  row : ∀ A nd R, full = A ++ nd :: R → RowC w nd R
  apart : (full.map (·.r)).Nodup
  base : ∀ nd ∈ full, B ≤ nd.b ∧ B ≤ nd.r
  tops : (full.map (·.b)).Nodup
/-- the blocks of a list of nodes -/
def blksN (full : List Nd) (g : Nat) : Prop := ∃ nd ∈ full, g = nd.b ∨ g = nd.r
section
variable {w w' : World} {B : Nat} {full : List Nd} {nd : Nd}
theorem NodeC.lt (h : NodeC w nd) : nd.b < w.heap.size := by obtain ⟨cs, e, h, _⟩ := h; exact lt_of_blk h
theorem NodeC.keep (h : NodeC w nd) (hk : w'.heap[nd.b]? = w.heap[nd.b]?) : NodeC w' nd := by
  obtain ⟨cs, e, h, h1⟩ := h
  exact ⟨cs, e, hk.trans h, h1⟩
theorem NodeC.cells (h : NodeC w nd) : (w.cell? ⟨nd.b, 0, none⟩ = some (sv nd.x.key) ∧ w.cell? ⟨nd.b, 1, none⟩ = some (.int .u64 (nd.x.seq : Int)) ∧ w.cell? ⟨nd.b, 2, none⟩ = some (.bool nd.x.gone) ∧ w.cell? ⟨nd.b, 3, none⟩ = some (sv nd.x.val)) ∧
    w.cell? ⟨nd.b, 4, none⟩ = some (.slice (some ⟨nd.r, 0, none⟩) nd.s nd.s) := by
  obtain ⟨cs, e, h, _, h1⟩ := h
  refine ⟨⟨?_, ?_, ?_, ?_⟩, ?_⟩ <;> (rw [cell_blk h]; exact h1 _ _ rfl)
theorem RowC.lt {rest : List Nd} (h : RowC w nd rest) : nd.r < w.heap.size := by obtain ⟨cs, h, _⟩ := h; exact lt_of_blk h
theorem RowC.keep {rest : List Nd} (h : RowC w nd rest) (hk : w'.heap[nd.r]? = w.heap[nd.r]?) : RowC w' nd rest := by
  obtain ⟨cs, h, h1⟩ := h
  exact ⟨cs, hk.trans h, h1⟩
theorem RowC.cell {rest : List Nd} (h : RowC w nd rest) {i : Nat} (hi : i < nd.h) : w.cell? ⟨nd.r, i, none⟩ = some (.pointer (MemP.nxt rest i)) ∧ w.frozen? ⟨nd.r, i, none⟩ = false := by
  obtain ⟨cs, h, _, _, h1⟩ := h
  exact ⟨by rw [cell_blk h]; exact h1 i hi, by simp [World.frozen?, h]⟩
theorem Lst.lt (h : Lst w B full) : ∀ g, blksN full g → B ≤ g ∧ g < w.heap.size := by
  rintro g ⟨nd, hm, rfl | rfl⟩
  · exact ⟨(h.base nd hm).1, (h.node nd hm).lt⟩
  · obtain ⟨A, R, e⟩ := List.append_of_mem hm
    exact ⟨(h.base nd hm).2, (h.row A nd R e).lt⟩
theorem Lst.keep (h : Lst w B full) (hk : ∀ g, blksN full g → w'.heap[g]? = w.heap[g]?) : Lst w' B full :=
  ⟨fun nd hm => (h.node nd hm).keep (hk _ ⟨nd, hm, .inl rfl⟩), fun A nd R e => (h.row A nd R e).keep (hk _ ⟨nd, by rw [e]; simp, .inr rfl⟩), h.apart, h.base, h.tops⟩
theorem Lst.grew (h : Lst w B full) (hg : Grew w w') : Lst w' B full := h.keep fun g hb => hg.block g (h.lt g hb).2
theorem Lst.below {n : Nat} (h : Lst w B full) (hg : Below n w w') (hn : w.heap.size ≤ n) : Lst w' B full := h.keep fun g hb => hg.block g (Nat.lt_of_lt_of_le (h.lt g hb).2 hn)
/-- of which type a node's blocks are -/
theorem Lst.type (h : Lst w B full) {g : Nat} (hb : blksN full g) {cs : Array Value} {e : TypeId} {fr : Nat × Nat} (hg : w.heap[g]? = some (.cells cs e fr)) : e = 70 ∨ e = 72 ∨ e = 73 := by
  obtain ⟨nd, hm, rfl | rfl⟩ := hb
  · obtain ⟨cs', e', h1, h2, _⟩ := h.node nd hm
    rw [h1] at hg
    injection hg with hg
    injection hg with _ hg _
    subst hg
    rcases h2 with h2 | h2
    · exact .inl h2
    · exact .inr (.inl h2)
  · obtain ⟨A, R, e⟩ := List.append_of_mem hm
    obtain ⟨cs', h1, _⟩ := h.row A nd R e
    rw [h1] at hg
    injection hg with hg
    injection hg with _ hg _
    exact .inr (.inr hg.symm)
/-- a node's block is not a row's -/
theorem Lst.b_ne_r (h : Lst w B full) {p q : Nd} (hp : p ∈ full) (hq : q ∈ full) : p.b ≠ q.r := by
  intro e
  obtain ⟨cs, t, h1, h2, _⟩ := h.node p hp
  obtain ⟨A, R, e2⟩ := List.append_of_mem hq
  obtain ⟨cs', h3, _⟩ := h.row A q R e2
  rw [e, h3] at h1
  injection h1 with h1
  injection h1 with _ h1 _
  rw [← h1] at h2
  rcases h2 with h2 | h2 <;> exact absurd h2 (by decide)
end
end Go.Proofs.Ytkkeodfoiffofaa
