/- An array in a block of its own, cell by cell. -/
import Derived.Test.YtohgkadbajmphaaSl
namespace Go.Proofs.Ytohgkadbajmphaa
open Go.RowKit
set_option linter.unusedVariables false
/-- block g holds just the cells xs, none of them frozen -/
def ArrV (w : World) (g : Nat) (xs : List Value) : Prop := ∃ e, w.heap[g]? = some (.cells xs.toArray e (0, 0))
section
variable {w w' : World} {g : Nat} {xs : List Value}
theorem ArrV.lt (h : ArrV w g xs) : g < w.heap.size := by obtain ⟨e, h⟩ := h; exact lt_of_blk h
theorem ArrV.cell (h : ArrV w g xs) {i : Nat} (hi : i < xs.length) : w.cell? ⟨g, i, none⟩ = some xs[i] := by
  obtain ⟨e, h⟩ := h
  rw [cell_blk h]
  simp [hi]
theorem ArrV.frozen (h : ArrV w g xs) (i : Nat) : w.frozen? ⟨g, i, none⟩ = false := by
  obtain ⟨e, h⟩ := h
  simp [World.frozen?, h]
theorem ArrV.set (h : ArrV w g xs) (i : Nat) (v : Value) : ArrV (w.setCell ⟨g, i, none⟩ v) g (xs.set i v) := by
  obtain ⟨e, h⟩ := h
  refine ⟨e, ?_⟩
  rw [heap_setCell_at w g i _ e _ v h]
  simp
theorem ArrV.keep (h : ArrV w g xs) (hk : w'.heap[g]? = w.heap[g]?) : ArrV w' g xs := by obtain ⟨e, h⟩ := h; exact ⟨e, hk.trans h⟩
theorem ArrV.below (h : ArrV w g xs) {B : Nat} (hb : Below B w w') (hg : g < B) : ArrV w' g xs := h.keep (hb.block g hg)
theorem ArrV.grew (h : ArrV w g xs) (hb : Grew w w') : ArrV w' g xs := h.below hb h.lt
theorem ArrV.other (h : ArrV w g xs) {row : Option Nat} (hg : w.grownBy w' row) (hne : row ≠ some g) : ArrV w' g xs := h.keep (hg.block g h.lt (fun e => hne e.symm))
theorem ArrV.drewN (h : ArrV w g xs) (n : Nat) : ArrV (w.drewN n) g xs := h
theorem ArrV.setOther (h : ArrV w g xs) {p : Addr} (hp : p.block ≠ g) (v : Value) : ArrV (w.setCell p v) g xs := h.keep (Below.heap_setCell w p v g (fun e => hp e.symm))
theorem ArrV.made (w : World) (C : Array Value) (e : TypeId) : ArrV (w.alloc (.cells C e)) w.heap.size C.toList := ⟨e, by rw [heap_alloc_new]⟩
theorem ArrV.alloc (h : ArrV w g xs) (o : Obj) : ArrV (w.alloc o) g xs := h.keep (Below.heap_alloc w o g h.lt)
end
/-- a[i] of an array by value, its elements of one cell -/
theorem run_index_array {P : Program} (t e : TypeId) (n : Nat) (cs : Array Value) (k : IntKind) (i : Nat) (v : Value) (h : P.underlying t = some (.array n e)) (hs : (P.info? e).map (·.size) = some 1) (ha : ∀ W : World, (isAgg e).run P W = .ok false W) (hi : i < n) (hv : cs[i]? = some v) (W : World) :
    (Instr.index t (.agg cs) (.int k (i : Int))).run P W = .ok v W := by
  cases hq : P.info? e with
  | none => simp [hq] at hs
  | some x =>
    have hx : x.size = 1 := by simpa [hq] using hs
    have hz : (sizeOf e).run P W = .ok 1 W := by simp [sizeOf, typeInfo, hq, hx]
    simp [Instr.index, run_underlying h, asIntOf, hi, hz, part, ha, hv, go_sem]
abbrev u32s (xs : List (BitVec 32)) : List Value := xs.map fun x => .int .u32 (bv32 x)
end Go.Proofs.Ytohgkadbajmphaa
