/- CompactFunc of items: of neighbours that are alike the first one stays. -/
import Derived.Test.YtemckkcbakccnaaItemCpt
namespace Go.Proofs.Ytemckkcbakccnaa
open Go.RowKit
set_option linter.unusedVariables false
namespace MrgP
def newB (pre : List It) (x : It) : Bool := match pre.getLast? with | none => true | some y => !sameB x y
def compactP (l : List It) : List It := pick newB [] l
theorem newB_at {l : List It} {j : Nat} {y : It} (hy : l[j]? = some y) (x : It) : newB (l.take (j + 1)) x = !sameB x y := by
  unfold newB
  rw [List.take_add_one, hy, Option.toList_some, List.getLast?_append, List.getLast?_singleton]
  rfl
theorem compact_add {l : List It} {j : Nat} {x y : It} (hy : l[j]? = some y) (hx : l[j + 1]? = some x) : compactP (l.take (j + 2)) = compactP (l.take (j + 1)) ++ (if sameB x y = true then [] else [x]) := by
  unfold compactP
  rw [pick_add newB hx, newB_at hy]
  cases sameB x y <;> rfl
theorem compact_one (l : List It) : compactP (l.take 1) = l.take 1 := by
  rcases l with _ | ⟨x, r⟩
  · rfl
  · rfl
theorem compact_short {l : List It} (h : l.length < 2) : compactP l = l := by
  have := compact_one l
  rwa [List.take_of_length_le (by omega)] at this
end MrgP
/-- clear of a part of a row -/
theorem one_zeros (n : Nat) : ∀ v ∈ (Builtin.zeroCells #[sv [], .int .u64 0, .bool false, sv []] n).toList, v.oneCell' = true := by
  intro v hv
  unfold Builtin.zeroCells at hv
  simp only [Array.toList_map, List.mem_map] at hv
  obtain ⟨i, _, rfl⟩ := hv
  have h4 : i % 4 < 4 := Nat.mod_lt _ (by omega)
  show (#[sv [], Value.int .u64 0, .bool false, sv []] : Array Value)[i % 4]!.oneCell' = true
  rcases (show i % 4 = 0 ∨ i % 4 = 1 ∨ i % 4 = 2 ∨ i % 4 = 3 by omega) with h | h | h | h <;> rw [h] <;> rfl
theorem zero_item (w : World) : (zeroValue 29).run Try.prog w = .ok (.agg #[.string ⟨#[]⟩, .int .u64 0, .bool false, .string ⟨#[]⟩]) w := by kernel_rfl
theorem Own.setMany {g o base n cap size : Nat} {e : TypeId} : ∀ (vs : List Value) (j : Nat) (w : World) (xs : List Value), Own w base e size (some ⟨g, o, none⟩) n cap xs → j + vs.length ≤ n * size → ∃ xs', Own (w.setCells g (o + j) vs) base e size (some ⟨g, o, none⟩) n cap xs' ∧ xs'.take j = xs.take j
  | [], j, w, xs, h, _ => ⟨xs, h, rfl⟩
  | v :: r, j, w, xs, h, hj => by
    have h1 := Own.set h (j := j) (by simp at hj; omega) v
    obtain ⟨xs', h2, h3⟩ := Own.setMany r (j + 1) _ _ h1 (by simp at hj; omega)
    refine ⟨xs', h2, ?_⟩
    have h4 := congrArg (List.take j) h3
    rw [List.take_take, List.take_take, Nat.min_eq_left (by omega)] at h4
    rw [h4, List.take_set_of_le (Nat.le_refl _)]
theorem OwnI.cells {w : World} {base g o n c : Nat} {l : List It} (h : OwnI w base (some ⟨g, o, none⟩) n c l) {i : Nat} (hi : i < n * 4) : (w.cell? ⟨g, o + i, none⟩).isSome = true ∧ w.frozen? ⟨g, o + i, none⟩ = false := by
  have := h.there (k := i / 4) (by omega) (i % 4) (Nat.mod_lt _ (by omega))
  rwa [show o + i / 4 * 4 + i % 4 = o + i by omega] at this
/-- 'clear(s[m:])' -/
theorem wpList_clearI {ops : Array Oper} {rest : List Oper} {op : Oper} {a : Act} {w : World} {Q : Exit → Act → World → Prop} (hw : Region.wanted op (yielded ops a.tmps) = true) (s : Operand)
    (ho : op.op = .call { callee := .builtin .clear, args := #[s], argTypes := #[23] }) {base g o n c m : Nat} {l : List It} (h : OwnI w base (some ⟨g, o, none⟩) n c l) (hm : m < n) (cc : Nat) (hs : a.eval s = .slice (some ⟨g, o + m * 4, none⟩) (n - m) cc)
    (hk : ∀ w', OwnI w' base (some ⟨g, o, none⟩) m c (l.take m) → w.grownBy w' (some g) → wpList Try.prog ops Q rest (a.put op.dst (.tuple #[])) w') : wpList Try.prog ops Q (op :: rest) a w := by
  obtain ⟨zs, hzs⟩ : ∃ zs, zs = (Builtin.zeroCells #[sv [], .int .u64 0, .bool false, sv []] (n - m)).toList := ⟨_, rfl⟩
  have hzl : zs.length = (n - m) * 4 := by rw [hzs, Array.length_toList, Go.size_zeroCells]; rfl
  have h1 : ∀ v ∈ zs, v.oneCell' = true := by rw [hzs]; exact one_zeros _
  have hst : (storeCells ⟨g, o + m * 4, none⟩ zs 0).run Try.prog w = .ok () (w.setCells g (o + m * 4) zs) := by
    have := run_storeCells_cells (P := Try.prog) g (o + m * 4) zs 0 w (fun j hj => by have := (h.cells (i := m * 4 + j) (by omega)).1; rwa [← Nat.add_assoc] at this) (fun j hj => by have := (h.cells (i := m * 4 + j) (by omega)).2; rwa [← Nat.add_assoc] at this) h1
    simpa using this
  obtain ⟨xs', h2, h3⟩ := Own.setMany zs (m * 4) w (itvs l) h (by omega)
  refine wpList_value hw (v := .tuple #[]) (w' := w.setCells g (o + m * 4) zs) ?_ (hk _ ?_ (grown_setCells g zs (o + m * 4) w))
  · obtain ⟨k, hk'⟩ : ∃ k, n - m = k + 1 := ⟨n - m - 1, by omega⟩
    unfold execOp
    rw [hk'] at hs hzs
    simp only [ho, resolve, invoke, builtin, Sem.run_bind, Sem.run_pure, Result.andThen_ok, List.map_toArray, List.map_cons, List.map_nil, hs]
    have hzc : (Builtin.zeroCells (Value.agg #[.string ⟨#[]⟩, .int .u64 0, .bool false, .string ⟨#[]⟩]).cells (k + 1)).toList = zs := by rw [hzs]; rfl
    simp [Builtin.clear_, run_underlying Try.underlying23, hzc, hst]
  · have h4 := Own.pre h2 (m := m) (by omega)
    rw [h3, itvs_take] at h4
    exact h4
end Go.Proofs.Ytemckkcbakccnaa
