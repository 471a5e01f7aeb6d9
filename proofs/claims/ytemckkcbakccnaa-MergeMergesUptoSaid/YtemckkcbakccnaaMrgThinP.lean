/- What merge.Thin's walk leans on. -/
import Derived.Test.YtemckkcbakccnaaMrgNum
import Derived.Test.YtemckkcbakccnaaMrgSorted
import Derived.Test.YtemckkcbakccnaaMrgPlain
import Derived.Test.YtemckkcbakccnaaRange2
import Derived.Test.YtemckkcbakccnaaItemRev
import Derived.Test.YtemckkcbakccnaaPh2
namespace Go.Proofs.Ytemckkcbakccnaa
open Go.RowKit
set_option linter.unusedVariables false
/-- an operation that makes a block -/
theorem wpP_make {P : Program} {ops : Array Oper} {C : Nat → World → Prop} {Mu : List Nat} {rest : List Oper} {o : Oper} {a : Act} {Q : Nat → Act → Prop} {k p : Nat} (v : Value) (hw : Region.wanted o (yielded ops a.tmps) = true) (hk : Mu.contains k = true)
    (hr : ∀ w, C p w → ∃ w', (execOp a.eval o).run P w = .ok (.value v) w' ∧ C (p + 1) w') (h : wpP P ops C Mu Q rest (k + 1) (p + 1) (a.put o.dst v)) : wpP P ops C Mu Q (o :: rest) k p a := by
  have hk' : k ∈ Mu := by simpa using hk
  unfold wpP
  rw [if_pos hw]
  refine ⟨v, ?_, by unfold nextP; rw [if_pos hk']; exact h⟩
  unfold pat
  rw [if_pos hk']
  intro w hw'
  obtain ⟨w', h1, h2⟩ := hr w hw'
  rw [h1]
  exact ⟨h2, rfl⟩
/-- 'v := ..' of a bool in a box of its own: the worlds -/
def BoxC (w0 : World) (v : Bool) (p : Nat) (W : World) : Prop := (p = 0 ∧ W = w0) ∨ (p = 1 ∧ W = w0.alloc (.cells #[.bool false] 4)) ∨ (p = 2 ∧ W = (w0.alloc (.cells #[.bool false] 4)).setCell ⟨w0.heap.size, 0, none⟩ (.bool v))
theorem BoxC.grew {w0 W : World} {v : Bool} {p : Nat} (h : BoxC w0 v p W) : Grew w0 W := by
  rcases h with ⟨_, rfl⟩ | ⟨_, rfl⟩ | ⟨_, rfl⟩
  · exact Grew.refl _
  · exact grew_new _ _
  · exact (grew_new w0 _).setCell (Nat.le_refl _) _
theorem BoxC.boxed {w0 : World} {v : Bool} : Boxed ((w0.alloc (.cells #[.bool false] 4)).setCell ⟨w0.heap.size, 0, none⟩ (.bool v)) w0.heap.size 4 (.bool v) := (Boxed.new w0 4 (.bool false)).set (.bool v)
/-- cells of an item in all of a step's worlds -/
theorem boxC_cells {w0 : World} {v : Bool} {g o : Nat} {x : It} (h : w0.rangeAt g o (itv x)) (hg : g < w0.heap.size) (y : AnyOf (BoxC w0 v)) :
    y.1.2.cell? ⟨g, o, none⟩ = some (sv x.key) ∧ y.1.2.cell? ⟨g, o + 1, none⟩ = some (.int .u64 (x.seq : Int)) ∧ y.1.2.cell? ⟨g, o + 2, none⟩ = some (.bool x.gone) ∧ y.1.2.cell? ⟨g, o + 3, none⟩ = some (sv x.val) :=
  range_cells (range_below h (BoxC.grew y.2) hg)
theorem hBx2 {w1 w2 : World} {b : Nat} {t : TypeId} {v : Value} (h : Boxed w1 b t v) (hg : Grew w1 w2) : Boxed w2 b t v := (hg.block b h.lt).trans h
/-- a box of a number is no row of items -/
theorem boxu_ne {W : World} {bl base n cap : Nat} {v : Value} {A : Option Addr} {l : List It} (hb : Boxed W bl 27 v) (ho : OwnI W base A n cap l) (e : blk A = some bl) : False := by
  rcases ho.2.2.2 with ⟨rfl, _⟩ | ⟨g', off, cur, fr, rfl, _, hh, _⟩
  · simp [blk] at e
  · simp [blk] at e
    subst e
    rw [show W.heap[g']? = _ from hb] at hh
    injection hh with hh
    injection hh with _ hh _
    exact absurd hh (by decide)
namespace MrgP
theorem keepB_none {ms : List Nat} {pre : List It} {x : It} (h : hidBy pre x = none) (next : Nat) : keepB ms pre x = ms.any (thinQ x false next) := by
  unfold keepB thinQ
  rw [h]
  congr 1
theorem keepB_some {ms : List Nat} {pre : List It} {x : It} {next : Nat} (h : hidBy pre x = some next) : keepB ms pre x = ms.any (thinQ x true next) := by
  unfold keepB thinQ
  rw [h]
  congr 1
theorem hidBy_zero (l : List It) (x : It) : hidBy (l.take 0) x = none := rfl
theorem hidBy_add {l : List It} {j : Nat} {x z : It} (hz : l[j]? = some z) : hidBy (l.take (j + 1)) x = if z.key = x.key then some z.seq else none := by
  unfold hidBy
  rw [List.take_add_one, hz, Option.toList_some, List.getLast?_append, List.getLast?_singleton]
  rfl
end MrgP
/-- what is kept, from the last one on -/
def keptOf (pre : List (It × Nat)) : List It := (MrgP.strip (pre.map (·.1)).reverse).reverse
theorem keptOf_le (pre : List (It × Nat)) : (keptOf pre).length ≤ pre.length := by
  unfold keptOf
  rw [List.length_reverse]
  have := (MrgP.strip_sub (pre.map (·.1)).reverse).length_le
  simpa using this
theorem keptOf_add (pre : List (It × Nat)) (x : It × Nat) : keptOf (pre ++ [x]) = if (x.1.gone && decide ((MrgP.strip (pre.map (·.1)).reverse).head?.map (·.key) ≠ some x.1.key)) = true then (MrgP.strip (pre.map (·.1)).reverse).reverse else (MrgP.strip (pre.map (·.1)).reverse).reverse ++ [x.1] := by
  unfold keptOf
  rw [List.map_append, List.reverse_append]
  simp only [List.map_cons, List.map_nil, List.reverse_cons, List.reverse_nil, List.nil_append, List.singleton_append]
  rw [MrgP.strip]
  split
  · rfl
  · rw [List.reverse_cons]
theorem keptOf_all (X : List It) : keptOf (backs X) = (MrgP.strip X).reverse := by
  unfold keptOf backs
  rw [List.map_reverse, List.reverse_reverse, List.zipIdx_map_fst]
end Go.Proofs.Ytemckkcbakccnaa
