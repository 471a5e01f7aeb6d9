/- A variable that holds an item: its block, a store into it, its value. -/
import Derived.Test.YtemckkcbakccnaaItemSl
import Derived.Test.YtemckkcbakccnaaItemEq
namespace Go.Proofs.Ytemckkcbakccnaa
open Go.RowKit
set_option linter.unusedVariables false
/-- block g is a variable that holds item x -/
def IBox (w : World) (g : Nat) (x : It) : Prop := w.heap[g]? = some (.cells #[.string ⟨x.key.toArray⟩, .int .u64 (x.seq : Int), .bool x.gone, .string ⟨x.val.toArray⟩] 29 (0, 0))
section
variable {w w' : World} {g : Nat} {x y : It}
theorem IBox.lt (h : IBox w g x) : g < w.heap.size := lt_of_blk h
theorem IBox.keep (h : IBox w g x) (hk : w'.heap[g]? = w.heap[g]?) : IBox w' g x := hk.trans h
theorem IBox.below {B : Nat} (h : IBox w g x) (hb : Below B w w') (hg : g < B) : IBox w' g x := h.keep (hb.block g hg)
theorem IBox.grew (h : IBox w g x) (hb : Grew w w') : IBox w' g x := h.below hb h.lt
theorem IBox.alloc (h : IBox w g x) (o : Obj) : IBox (w.alloc o) g x := h.keep (Below.heap_alloc w o g h.lt)
theorem IBox.drewN (h : IBox w g x) (n : Nat) : IBox (w.drewN n) g x := h
theorem IBox.new (w : World) (x : It) : IBox (w.alloc (.cells #[.string ⟨x.key.toArray⟩, .int .u64 (x.seq : Int), .bool x.gone, .string ⟨x.val.toArray⟩] 29)) w.heap.size x := heap_alloc_new w _
theorem IBox.zero (w : World) : IBox (w.alloc (.cells #[.string ⟨#[]⟩, .int .u64 0, .bool false, .string ⟨#[]⟩] 29)) w.heap.size ItP.none0 := heap_alloc_new w _
theorem IBox.range (h : IBox w g x) : w.rangeAt g 0 (itv x) := fun j v hj => by
  rw [cell_blk h, Nat.zero_add]
  have : ((itv x).toArray)[j]? = some v := by simpa using hj
  exact this
theorem IBox.there (h : IBox w g x) : w.there g 0 4 := fun j hj => by
  refine ⟨?_, ?_⟩
  · rw [cell_blk h, Nat.zero_add]
    have : j < (#[sv x.key, Value.int .u64 (x.seq : Int), .bool x.gone, sv x.val] : Array Value).size := hj
    rw [Array.getElem?_eq_getElem this]
    rfl
  · simp [World.frozen?, show w.heap[g]? = _ from h]
theorem IBox.set (h : IBox w g x) (y : It) : IBox (w.setCells g 0 (itv y)) g y := by
  have := heap_setCells g 29 (0, 0) (itv y) 0 w _ h
  unfold IBox
  rw [this]
  rfl
theorem IBox.load (h : IBox w g x) : (loadVar 29 ⟨g, 0, none⟩).run Try.prog w = .ok (iv x) w :=
  run_loadVar_mid (P := Try.prog) w g 0 29 (itv x) _ h.range Try.underlying29 rfl size_item
end
theorem one_itv_all (y : It) : (itv y).toArray.all (·.oneCell') = true := all_oneCell_toArray (one_itv y)
/-- 'x = y' of a variable of an item -/
theorem wpList_storeI {ops : Array Oper} {rest : List Oper} {op : Oper} {a : Act} {w : World} {Q : Exit → Act → World → Prop} (hgd : op.guard = none) (x y : Operand) (ho : op.op = .store 29 x y) (g : Nat) (z v : It)
    (hx : a.eval x = .pointer (some ⟨g, 0, none⟩)) (hy : a.eval y = iv v) (hb : IBox w g z) (h : wpList Try.prog ops Q rest (a.put op.dst undef) (w.setCells g 0 (itv v))) : wpList Try.prog ops Q (op :: rest) a w :=
  wpList_store_mid hgd 29 x y ho g 0 (itv v).toArray hx hy hb.there size_item (one_itv_all v) (by rw [List.toList_toArray]; exact h)
theorem grown_setI (w : World) (g : Nat) (v : It) : w.grownBy (w.setCells g 0 (itv v)) (some g) := grown_setCells g (itv v) 0 w
theorem setI_size (w : World) (g : Nat) (v : It) : (w.setCells g 0 (itv v)).heap.size = w.heap.size := size_setCells g (itv v) 0 w
end Go.Proofs.Ytemckkcbakccnaa
