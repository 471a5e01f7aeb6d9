/- Items in memory: their cells, rows of them, how one is read and appended. -/
import Derived.Test.YtemckkcbakccnaaItemPlain
import Derived.Test.YtemckkcbakccnaaBytes
import Derived.Deep.MidRow
namespace Go.Proofs.Ytemckkcbakccnaa
open Go.RowKit
set_option linter.unusedVariables false
abbrev sv (l : List UInt8) : Value := .string ⟨l.toArray⟩
theorem ba_size (l : List UInt8) : (⟨l.toArray⟩ : ByteArray).size = l.length := by show l.toArray.size = _; simp
theorem sv_inj {a b : List UInt8} (h : sv a = sv b) : a = b := by simpa [sv] using h
/-- an item's cells -/
def itv (x : It) : List Value := [.string ⟨x.key.toArray⟩, .int .u64 (x.seq : Int), .bool x.gone, .string ⟨x.val.toArray⟩]
abbrev iv (x : It) : Value := .agg #[.string ⟨x.key.toArray⟩, .int .u64 (x.seq : Int), .bool x.gone, .string ⟨x.val.toArray⟩]
theorem iv_eq (x : It) : iv x = .agg (itv x).toArray := rfl
theorem itv_len (x : It) : (itv x).length = 4 := rfl
theorem one_itv (x : It) : ∀ v ∈ itv x, v.oneCell' = true := by
  intro v hv
  simp only [itv, List.mem_cons, List.not_mem_nil, or_false] at hv
  rcases hv with rfl | rfl | rfl | rfl <;> rfl
def itvs (l : List It) : List Value := l.flatMap itv
theorem itvs_nil : itvs [] = [] := rfl
theorem itvs_cons (x : It) (l : List It) : itvs (x :: l) = itv x ++ itvs l := rfl
theorem itvs_append (a b : List It) : itvs (a ++ b) = itvs a ++ itvs b := by simp [itvs]
theorem itvs_len : ∀ l : List It, (itvs l).length = l.length * 4
  | [] => rfl
  | x :: r => by rw [itvs_cons, List.length_append, itvs_len r, itv_len, List.length_cons]; omega
theorem itvs_one (x : It) : itvs [x] = itv x := by simp [itvs]
theorem one_itvs (l : List It) : ∀ v ∈ itvs l, v.oneCell' = true := by
  intro v hv
  simp only [itvs, List.mem_flatMap] at hv
  obtain ⟨x, _, h⟩ := hv
  exact one_itv x v h
theorem itvs_drop : ∀ (l : List It) (k : Nat), (itvs l).drop (k * 4) = itvs (l.drop k)
  | l, 0 => by simp
  | [], k + 1 => by simp [itvs]
  | x :: r, k + 1 => by
    rw [itvs_cons, List.drop_succ_cons, ← itvs_drop r k, List.drop_append, List.drop_of_length_le (by rw [itv_len]; omega), List.nil_append, itv_len]
    congr 1
    omega
theorem itvs_take : ∀ (l : List It) (k : Nat), (itvs l).take (k * 4) = itvs (l.take k)
  | l, 0 => by simp [itvs]
  | [], k + 1 => by simp [itvs]
  | x :: r, k + 1 => by
    rw [itvs_cons, List.take_succ_cons, itvs_cons, ← itvs_take r k, List.take_append, itv_len, List.take_of_length_le (by rw [itv_len]; omega)]
    congr 2
    omega
theorem itvs_at {l : List It} {i : Nat} {x : It} (h : l[i]? = some x) {j : Nat} {u : Value} (hu : (itv x)[j]? = some u) : (itvs l)[i * 4 + j]? = some u := by
  have hj : j < 4 := by have := (List.getElem?_eq_some_iff.1 hu).1; rwa [itv_len] at this
  have h1 : l.drop i = x :: l.drop (i + 1) := by
    have hi := (List.getElem?_eq_some_iff.1 h)
    obtain ⟨hi1, hi2⟩ := hi
    rw [List.drop_eq_getElem_cons hi1, hi2]
  rw [← List.getElem?_drop, itvs_drop, h1, itvs_cons, List.getElem?_append_left (by rw [itv_len]; exact hj)]
  exact hu
/-- a row of items -/
def IRow (w : World) (B : Nat) (A : Option Addr) (l : List It) : Prop := Row w B A (itvs l)
theorem spot_none {w : World} {ad : Addr} {u : Value} (hc : w.cell? ad = some u) : ad.spot = none := by
  unfold World.cell? at hc
  cases ho : w.heap[ad.block]? with
  | none => rw [ho] at hc; cases hc
  | some o =>
    rw [ho] at hc
    cases o with
    | cells c ty fr =>
      simp only at hc
      split at hc
      · cases hc
      · rename_i hh
        simpa using hh
    | _ => cases hc
theorem IRow.at {w : World} {B : Nat} {A : Option Addr} {l : List It} (h : IRow w B A l) {i : Nat} {x : It} (hx : l[i]? = some x) : ∃ g off, A = some ⟨g, off, none⟩ ∧ g < B ∧ w.rangeAt g (off + i * 4) (itv x) := by
  have hi := (List.getElem?_eq_some_iff.1 hx).1
  obtain ⟨ad, e, hb, hc⟩ := h _ _ (itvs_at (List.getElem?_eq_getElem (show 0 < l.length by omega)) (j := 0) (u := .string ⟨(l[0]'(by omega)).key.toArray⟩) rfl)
  have hs : ad.spot = none := spot_none (w := w) (ad := ad) hc
  obtain ⟨g, off, sp⟩ := ad
  simp only at hs
  subst hs
  refine ⟨g, off, e, hb, fun j v hj => ?_⟩
  obtain ⟨ad', e', _, hc'⟩ := h _ _ (itvs_at hx hj)
  rw [e] at e'
  cases e'
  rw [add_off] at hc'
  rw [Nat.add_assoc]
  exact hc'
theorem info_item : (Try.prog.info? 29).map (fun i => (i.zero, i.size, i.bytes)) = some (some (.agg #[.string ⟨#[]⟩, .int .u64 0, .bool false, .string ⟨#[]⟩]), 4, 48) := by kernel_rfl
theorem size_item : (Try.prog.info? 29).map (·.size) = some 4 := by kernel_rfl
/-- an item is read, whole -/
theorem load_item {w : World} {g o : Nat} {x : It} (h : w.rangeAt g o (itv x)) : (Instr.loadAt 29 (.pointer (some ⟨g, o, none⟩))).run Try.prog w = .ok (iv x) w :=
  run_loadAt_mid (P := Try.prog) w g o 29 (itv x) _ h Try.underlying29 rfl size_item
theorem range_cells {w : World} {g o : Nat} {x : It} (h : w.rangeAt g o (itv x)) : w.cell? ⟨g, o, none⟩ = some (sv x.key) ∧ w.cell? ⟨g, o + 1, none⟩ = some (.int .u64 (x.seq : Int)) ∧ w.cell? ⟨g, o + 2, none⟩ = some (.bool x.gone) ∧ w.cell? ⟨g, o + 3, none⟩ = some (sv x.val) :=
  ⟨h 0 _ rfl, h 1 _ rfl, h 2 _ rfl, h 3 _ rfl⟩
/-- a slice of items that came in, or that is at hand -/
structure Is (w : World) (B : Nat) (A : Option Addr) (n c : Nat) (l : List It) : Prop where
  len : l.length = n
  le : n ≤ c
  max : c ≤ maxLen
  row : IRow w B A l
theorem Is.nil (w : World) (B : Nat) : Is w B none 0 0 [] := ⟨rfl, Nat.le_refl _, Nat.zero_le _, Row.nil⟩
section
variable {w w' : World} {B B' n c : Nat} {A : Option Addr} {l : List It}
theorem Is.keep (h : Is w B A n c l) (hk : ∀ p : Addr, p.block < B → w'.cell? p = w.cell? p) : Is w' B A n c l := ⟨h.len, h.le, h.max, h.row.keep hk⟩
theorem Is.below (h : Is w B A n c l) (hb : Below B w w') : Is w' B A n c l := ⟨h.len, h.le, h.max, h.row.below hb⟩
theorem Is.more (h : Is w B A n c l) (hB : B ≤ B') : Is w B' A n c l := ⟨h.len, h.le, h.max, h.row.more hB⟩
theorem Is.drewN (h : Is w B A n c l) (k : Nat) : Is (w.drewN k) B A n c l := ⟨h.len, h.le, h.max, h.row⟩
theorem Is.at (h : Is w B A n c l) {i : Nat} {x : It} (hx : l[i]? = some x) : ∃ g off, A = some ⟨g, off, none⟩ ∧ g < B ∧ w.rangeAt g (off + i * 4) (itv x) := IRow.at h.row hx
end
/-- a slice of items of the call's own -/
def OwnI (w : World) (base : Nat) (A : Option Addr) (n cap : Nat) (l : List It) : Prop := Own w base 29 4 A n cap (itvs l)
section
variable {w w' : World} {base n cap : Nat} {A : Option Addr} {l : List It}
theorem OwnI.nil (w : World) (base : Nat) : OwnI w base none 0 0 [] := Own.nil _ _ _ _
theorem OwnI.len (h : OwnI w base A n cap l) : l.length = n := by have := Own.len h; rw [itvs_len] at this; omega
theorem OwnI.le (h : OwnI w base A n cap l) : n ≤ cap ∧ cap ≤ maxLen := Own.le h
theorem OwnI.is (h : OwnI w base A n cap l) {B : Nat} (hB : w.heap.size ≤ B) : Is w B A n cap l := ⟨h.len, h.le.1, h.le.2, Own.row h hB⟩
theorem OwnI.below_all (h : OwnI w base A n cap l) (hb : Below w.heap.size w w') : OwnI w' base A n cap l := Own.below_all h hb
theorem OwnI.drewN (h : OwnI w base A n cap l) (k : Nat) : OwnI (w.drewN k) base A n cap l := h
theorem OwnI.alloc (h : OwnI w base A n cap l) (o : Obj) : OwnI (w.alloc o) base A n cap l := Own.alloc h o
end
/-- append of items, from a row of items -/
theorem wpList_appI {ops : Array Oper} {rest : List Oper} {o : Oper} {a : Act} {w : World} {Q : Exit → Act → World → Prop} (hw : Region.wanted o (yielded ops a.tmps) = true) (s x : Operand)
    (ho : o.op = .call { callee := .builtin .append, args := #[s, x], argTypes := #[23, 23] })
    (base : Nat) (A : Option Addr) (n cap : Nat) (l : List It) (hs : a.eval s = .slice A n cap) (hown : OwnI w base A n cap l)
    (A1 : Option Addr) (m c1 B1 : Nat) (r : List It) (hx : a.eval x = .slice A1 m c1) (hr : r.length = m) (hsrc : IRow w B1 A1 r) (hfit : n + m ≤ 100000000000) (hbase : base ≤ w.heap.size)
    (h : ∀ A' cap' w', OwnI w' base A' (n + m) cap' (l ++ r) → w.grownBy w' (blk A) → Below base w w' → (blk A' = blk A ∨ blk A' = some w.heap.size) → wpList Try.prog ops Q rest (a.put o.dst (.slice A' (n + m) cap')) w') :
    wpList Try.prog ops Q (o :: rest) a w := by
  obtain ⟨i0, hi, hz0, hz1, hz2⟩ := info_parts info_item
  have hle := hown.le
  refine wpList_append_gen w hw s x 23 23 ho base 29 i0 (.agg #[.string ⟨#[]⟩, .int .u64 0, .bool false, .string ⟨#[]⟩]) 4 48 Try.underlying23 (.inl ⟨_, Try.underlying23⟩) hi hz0 hz1 hz2 rfl A n cap (itvs l) hs hown m (itvs r) (by rw [hx]; exact Src.slice (by rw [itvs_len, hr]) hsrc) (one_itvs r) ?_ ?_ hbase ?_
  · unfold maxLen; omega
  · by_cases hroom : n + m ≤ cap
    · exact .inl hroom
    · exact .inr (growslice_fits (by omega) (by omega))
  · intro A' cap' w' hO hg hor
    refine h A' cap' w' (by unfold OwnI; rw [itvs_append]; exact hO) hg (below_grown hg hbase fun g e => (hown.lt g e).1) ?_
    rcases hor with ⟨_, rfl, _⟩ | ⟨rfl, _⟩
    · exact .inl rfl
    · exact .inr rfl
/-- a row of one item that was just laid -/
theorem IRow.one (w : World) (x : It) (e : TypeId) (fr : Nat × Nat) : IRow (w.alloc (.cells #[.string ⟨x.key.toArray⟩, .int .u64 (x.seq : Int), .bool x.gone, .string ⟨x.val.toArray⟩] e fr)) (w.heap.size + 1) (some ⟨w.heap.size, 0, none⟩) [x] :=
  Row.new w _ e fr _ _ rfl (by omega) _ (by simp [itvs, itv])
/-- a new block of an item -/
theorem range_new (w : World) (x : It) (e : TypeId) (fr : Nat × Nat) : (w.alloc (.cells #[.string ⟨x.key.toArray⟩, .int .u64 (x.seq : Int), .bool x.gone, .string ⟨x.val.toArray⟩] e fr)).rangeAt w.heap.size 0 (itv x) := fun j v hj => by
  obtain ⟨ad, e1, _, hc⟩ := IRow.one w x e fr j v (by simpa [itvs] using hj)
  cases e1
  rw [add_off] at hc
  exact hc
theorem range_keep {w w' : World} {g o : Nat} {cs : List Value} (h : w.rangeAt g o cs) (hk : w'.heap[g]? = w.heap[g]?) : w'.rangeAt g o cs := fun j v hj => (World.cell?_of_block (w := w) (a := ⟨g, o + j, none⟩) hk).trans (h j v hj)
theorem range_below {w w' : World} {g o B : Nat} {cs : List Value} (h : w.rangeAt g o cs) (hb : Below B w w') (hg : g < B) : w'.rangeAt g o cs := range_keep h (hb.block g hg)
end Go.Proofs.Ytemckkcbakccnaa
