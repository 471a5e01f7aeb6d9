/- Slices of numbers of 64 bits. -/
import Derived.Test.YtemckkcbakccnaaItem
import Derived.Test.YtemckkcbakccnaaExt
namespace Go.Proofs.Ytemckkcbakccnaa
open Go.RowKit
set_option linter.unusedVariables false
abbrev u64v (m : Nat) : Value := .int .u64 (m : Int)
/-- a slice of numbers of 64 bits that came in, or that is at hand -/
structure Ns (w : World) (B : Nat) (A : Option Addr) (n c : Nat) (l : List Nat) : Prop where
  len : l.length = n
  le : n ≤ c
  max : c ≤ maxLen
  row : Row w B A (l.map u64v)
section
variable {w w' : World} {B B' n c : Nat} {A : Option Addr} {l : List Nat}
theorem Ns.nil (w : World) (B : Nat) : Ns w B none 0 0 [] := ⟨rfl, Nat.le_refl _, Nat.zero_le _, Row.nil⟩
theorem Ns.below (h : Ns w B A n c l) (hb : Below B w w') : Ns w' B A n c l := ⟨h.len, h.le, h.max, h.row.below hb⟩
theorem Ns.more (h : Ns w B A n c l) (hB : B ≤ B') : Ns w B' A n c l := ⟨h.len, h.le, h.max, h.row.more hB⟩
theorem Ns.at (h : Ns w B A n c l) {i : Nat} {x : Nat} (hx : l[i]? = some x) : ∃ g off, A = some ⟨g, off, none⟩ ∧ g < B ∧ w.cell? ⟨g, off + i, none⟩ = some (u64v x) := by
  have hi := (List.getElem?_eq_some_iff.1 hx).1
  obtain ⟨ad, e, hb, hc⟩ := h.row 0 (u64v (l[0]'(by omega))) (by simp [List.getElem?_eq_getElem (show 0 < l.length by omega)])
  have hs : ad.spot = none := spot_none (w := w) (ad := ad) hc
  obtain ⟨g, off, sp⟩ := ad
  simp only at hs
  subst hs
  obtain ⟨ad', e', _, hc'⟩ := h.row i (u64v x) (by simp [hx])
  rw [e] at e'
  cases e'
  rw [add_off] at hc'
  exact ⟨g, off, e, hb, hc'⟩
theorem ns_grew {wr : World} (h : Ns w w.heap.size A n c l) (hB : Below w.heap.size w wr) {i : Nat} {x : Nat} (hx : l[i]? = some x) :
    ∃ g o, A = some ⟨g, o, none⟩ ∧ ∀ y : GrewOf wr, y.1.cell? ⟨g, o + i, none⟩ = some (u64v x) := by
  obtain ⟨g, o, e, hb, hr⟩ := h.at hx
  exact ⟨g, o, e, fun y => ((Below.trans hB (Below.mono y.2 hB.size)).cell (p := ⟨g, o + i, none⟩) hb).trans hr⟩
end
theorem one_u64 (l : List Nat) : ∀ v ∈ l.map u64v, v.oneCell' = true := by
  intro v hv
  obtain ⟨m, _, rfl⟩ := List.mem_map.1 hv
  rfl
theorem info_u64 : (Try.prog.info? 27).map (fun i => (i.zero, i.size, i.bytes)) = some (some (.int .u64 0), 1, 8) := by kernel_rfl
/-- a slice of numbers of the call's own -/
def OwnU (w : World) (base : Nat) (A : Option Addr) (n cap : Nat) (l : List Nat) : Prop := Own w base 27 1 A n cap (l.map u64v)
section
variable {w w' : World} {base n cap : Nat} {A : Option Addr} {l : List Nat}
theorem OwnU.nil (w : World) (base : Nat) : OwnU w base none 0 0 [] := Own.nil _ _ _ _
theorem OwnU.len (h : OwnU w base A n cap l) : l.length = n := by have := Own.len h; simpa using this
theorem OwnU.ns (h : OwnU w base A n cap l) {B : Nat} (hB : w.heap.size ≤ B) : Ns w B A n cap l := ⟨h.len, (Own.le h).1, (Own.le h).2, Own.row h hB⟩
theorem OwnU.below_all (h : OwnU w base A n cap l) (hb : Below w.heap.size w w') : OwnU w' base A n cap l := Own.below_all h hb
theorem OwnU.alloc (h : OwnU w base A n cap l) (o : Obj) : OwnU (w.alloc o) base A n cap l := Own.alloc h o
theorem OwnU.empty (w : World) (base : Nat) (hb : base ≤ w.heap.size) : OwnU (w.alloc (.cells #[] 27)) base (some ⟨w.heap.size, 0, none⟩) 0 0 [] :=
  Own.made w #[] _ (0, 0) 1 0 0 [] hb rfl (Nat.le_refl _) (Nat.zero_le _) (Nat.zero_le _) (.inr rfl) (fun j u hu => by simp at hu)
end
theorem URow.one (w : World) (m : Nat) (e : TypeId) (fr : Nat × Nat) : Row (w.alloc (.cells #[.int .u64 (m : Int)] e fr)) (w.heap.size + 1) (some ⟨w.heap.size, 0, none⟩) ([m].map u64v) :=
  Row.new w _ e fr _ _ rfl (by omega) _ (by simp)
/-- append of numbers -/
theorem wpList_appU {ops : Array Oper} {rest : List Oper} {o : Oper} {a : Act} {w : World} {Q : Exit → Act → World → Prop} (hw : Region.wanted o (yielded ops a.tmps) = true) (s x : Operand)
    (ho : o.op = .call { callee := .builtin .append, args := #[s, x], argTypes := #[41, 41] })
    (base : Nat) (A : Option Addr) (n cap : Nat) (l : List Nat) (hs : a.eval s = .slice A n cap) (hown : OwnU w base A n cap l)
    (A1 : Option Addr) (m c1 B1 : Nat) (r : List Nat) (hx : a.eval x = .slice A1 m c1) (hr : r.length = m) (hsrc : Row w B1 A1 (r.map u64v)) (hfit : n + m ≤ 100000000000) (hbase : base ≤ w.heap.size)
    (h : ∀ A' cap' w', OwnU w' base A' (n + m) cap' (l ++ r) → w.grownBy w' (blk A) → Below base w w' → wpList Try.prog ops Q rest (a.put o.dst (.slice A' (n + m) cap')) w') :
    wpList Try.prog ops Q (o :: rest) a w := by
  obtain ⟨i0, hi, hz0, hz1, hz2⟩ := info_parts info_u64
  have hle := Own.le hown
  refine wpList_append_gen w hw s x 41 41 ho base 27 i0 (.int .u64 0) 1 8 Try.underlying41 (.inl ⟨_, Try.underlying41⟩) hi hz0 hz1 hz2 rfl A n cap (l.map u64v) hs hown m (r.map u64v) (by rw [hx]; exact Src.slice (by simp [hr]) hsrc) (one_u64 r) ?_ ?_ hbase ?_
  · unfold maxLen; omega
  · by_cases hroom : n + m ≤ cap
    · exact .inl hroom
    · exact .inr (growslice_fits (by omega) (by omega))
  · intro A' cap' w' hO hg hor
    exact h A' cap' w' (by unfold OwnU; rw [List.map_append]; exact hO) hg (below_grown hg hbase fun g e => (Own.lt hown g e).1)
end Go.Proofs.Ytemckkcbakccnaa
