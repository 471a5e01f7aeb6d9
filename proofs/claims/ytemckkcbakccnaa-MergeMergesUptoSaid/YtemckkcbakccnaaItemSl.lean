/- Parts of slices of items; literals of one item, of none. -/
import Derived.Test.YtemckkcbakccnaaItemCmp
namespace Go.Proofs.Ytemckkcbakccnaa
open Go.RowKit
set_option linter.unusedVariables false
def cutI (A : Option Addr) (lo c : Nat) : Option Addr := if c = lo then A else A.map fun x => x.add (lo * 4)
theorem run_fromI (A : Option Addr) (n c lo : Nat) (hlo : lo ≤ n) (hnc : n ≤ c) (hcm : c ≤ maxLen) (x : Int) (hx : x = (lo : Int)) (W : World) :
    (Instr.slice 23 (.slice A n c) (some (.int .i64 x)) none none).run Try.prog W = .ok (.slice (cutI A lo c) (n - lo) (c - lo)) W := by
  subst hx
  have hu := Try.underlying23
  unfold cutI
  by_cases hc : c = lo
  · subst hc
    obtain rfl : n = c := by omega
    simp [go_sem, hu]
  · rw [if_neg hc]
    simp [go_sem, hu, hc, hlo]
theorem run_toI (A : Option Addr) (n c hi : Nat) (hhi : hi ≤ c) (hnc : n ≤ c) (hcm : c ≤ maxLen) (x : Int) (hx : x = (hi : Int)) (W : World) :
    (Instr.slice 23 (.slice A n c) none (some (.int .i64 x)) none).run Try.prog W = .ok (.slice A hi c) W := by
  subst hx
  have hu := Try.underlying23
  simp [go_sem, hu, hhi]
theorem exec_fromI {o : Oper} {ev : Operand → Value} (x y : Operand) (ho : o.op = .slice 23 x (some y) none none) {A : Option Addr} {n c lo : Nat} (hx : ev x = .slice A n c) (hy : ev y = .int .i64 (lo : Int)) (hlo : lo ≤ n) (hnc : n ≤ c) (hcm : c ≤ maxLen) (W : World) :
    (execOp ev o).run Try.prog W = .ok (.value (.slice (cutI A lo c) (n - lo) (c - lo))) W := by
  unfold execOp
  simp only [ho, hx, hy, Option.map_some, Option.map_none, Instr.sliceAt, Sem.run_bind, run_underlying Try.underlying23, run_fromI A n c lo hlo hnc hcm _ rfl, Result.andThen_ok, Sem.run_pure]
theorem exec_toI {o : Oper} {ev : Operand → Value} (x y : Operand) (ho : o.op = .slice 23 x none (some y) none) {A : Option Addr} {n c hi : Nat} (hx : ev x = .slice A n c) (hy : ev y = .int .i64 (hi : Int)) (hhi : hi ≤ c) (hnc : n ≤ c) (hcm : c ≤ maxLen) (W : World) :
    (execOp ev o).run Try.prog W = .ok (.value (.slice A hi c)) W := by
  unfold execOp
  simp only [ho, hx, hy, Option.map_some, Option.map_none, Instr.sliceAt, Sem.run_bind, run_underlying Try.underlying23, run_toI A n c hi hhi hnc hcm _ rfl, Result.andThen_ok, Sem.run_pure]
section
variable {w w' : World} {B n c : Nat} {A : Option Addr} {l : List It}
theorem IRow.none_nil (h : IRow w B none l) : l = [] := by
  rcases l with _ | ⟨x, r⟩
  · rfl
  · obtain ⟨_, e, _⟩ := h 0 _ rfl
    cases e
theorem IRow.keep1 {g : Nat} (h : IRow w (g + 1) (some ⟨g, 0, none⟩) l) {row : Option Nat} (hg : w.grownBy w' row) (hlt : g < w.heap.size) (hne : row ≠ some g) : IRow w' (g + 1) (some ⟨g, 0, none⟩) l := fun j u hu => by
  obtain ⟨ad, e, hb, hc⟩ := h j u hu
  cases e
  refine ⟨_, rfl, hb, ?_⟩
  rw [add_off] at hc ⊢
  exact (World.cell?_of_block (w := w) (a := ⟨g, 0 + j, none⟩) (hg.block g hlt (fun e => hne e.symm))).trans hc
theorem Is.range {g o : Nat} (h : Is w B (some ⟨g, o, none⟩) n c l) {i : Nat} {x : It} (hx : l[i]? = some x) : w.rangeAt g (o + i * 4) (itv x) := by
  obtain ⟨g', o', e, _, hr⟩ := h.at hx
  cases e
  exact hr
theorem Is.from_ (h : Is w B A n c l) (lo : Nat) (hlo : lo ≤ n) : Is w B (cutI A lo c) (n - lo) (c - lo) (l.drop lo) := by
  have hl := h.len
  have hc := h.le
  have hm := h.max
  refine ⟨by simp; omega, by omega, by omega, ?_⟩
  unfold cutI
  by_cases hcl : c = lo
  · rw [if_pos hcl, List.drop_of_length_le (by omega)]
    exact Row.nil
  · rw [if_neg hcl]
    rcases A with _ | ad
    · obtain rfl := IRow.none_nil h.row
      simp
      exact Row.nil
    · have := Row.drop h.row (lo * 4)
      rwa [itvs_drop] at this
theorem Is.to (h : Is w B A n c l) (hi : Nat) (hhi : hi ≤ n) : Is w B A hi c (l.take hi) := by
  have hl := h.len
  have hc := h.le
  refine ⟨by rw [List.length_take]; omega, by omega, h.max, ?_⟩
  have := Row.take h.row (hi * 4)
  rwa [itvs_take] at this
end
theorem run_build0 (w : World) : (Instr.buildSlice 23 0 #[]).run Try.prog w = .ok (.slice (some ⟨w.heap.size, 0, none⟩) 0 0) (w.alloc (.cells #[] 29)) := by kernel_rfl
theorem run_build1 (x : It) (w : World) : (Instr.buildSlice 23 1 #[(0, iv x)]).run Try.prog w = .ok (.slice (some ⟨w.heap.size, 0, none⟩) 1 1) (w.alloc (.cells #[.string ⟨x.key.toArray⟩, .int .u64 (x.seq : Int), .bool x.gone, .string ⟨x.val.toArray⟩] 29)) := by kernel_rfl
theorem OwnI.empty (w : World) (base : Nat) (hb : base ≤ w.heap.size) : OwnI (w.alloc (.cells #[] 29)) base (some ⟨w.heap.size, 0, none⟩) 0 0 [] :=
  Own.made w #[] _ (0, 0) 4 0 0 [] hb rfl (Nat.le_refl _) (Nat.zero_le _) (Nat.zero_le _) (.inr rfl) (fun j u hu => by simp at hu)
section
variable {P : Program} {ops : Array Oper} {rest : List Oper} {o : Oper} {a : Act} {w : World} {Q : Exit → Act → World → Prop}
/-- '[]Item{}' -/
theorem wpList_build0 (ho : o.op = .buildSlice 23 0 #[]) (hw : Region.wanted o (yielded ops a.tmps) = true)
    (h : wpList Try.prog ops Q rest (a.put o.dst (.slice (some ⟨w.heap.size, 0, none⟩) 0 0)) (w.alloc (.cells #[] 29))) : wpList Try.prog ops Q (o :: rest) a w := by
  refine wpList_value hw (v := .slice (some ⟨w.heap.size, 0, none⟩) 0 0) (w' := w.alloc (.cells #[] 29)) ?_ h
  unfold execOp
  simp only [ho, List.map_toArray, List.map_nil, Sem.run_bind, run_build0, Result.andThen_ok, Sem.run_pure]
/-- '[]Item{x}' -/
theorem wpList_build1 (t : Operand) (x : It) (ho : o.op = .buildSlice 23 1 #[(0, t)]) (hx : a.eval t = iv x) (hw : Region.wanted o (yielded ops a.tmps) = true)
    (h : wpList Try.prog ops Q rest (a.put o.dst (.slice (some ⟨w.heap.size, 0, none⟩) 1 1)) (w.alloc (.cells #[.string ⟨x.key.toArray⟩, .int .u64 (x.seq : Int), .bool x.gone, .string ⟨x.val.toArray⟩] 29))) : wpList Try.prog ops Q (o :: rest) a w := by
  refine wpList_value hw (v := .slice (some ⟨w.heap.size, 0, none⟩) 1 1) (w' := w.alloc (.cells #[.string ⟨x.key.toArray⟩, .int .u64 (x.seq : Int), .bool x.gone, .string ⟨x.val.toArray⟩] 29)) ?_ h
  unfold execOp
  simp only [ho, List.map_toArray, List.map_cons, List.map_nil, hx, Sem.run_bind, run_build1, Result.andThen_ok, Sem.run_pure]
end
end Go.Proofs.Ytemckkcbakccnaa
