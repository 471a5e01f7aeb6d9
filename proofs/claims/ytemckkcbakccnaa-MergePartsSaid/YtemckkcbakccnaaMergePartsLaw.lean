/- A sorted list that is shared out is merged into itself, plainly. -/
import Derived.Test.YtemckkcbakccnaaMrgMerge
import Derived.Test.YtemckkcbakccnaaItemBack
import Derived.Test.YtemckkcbakccnaaMergeThinsWalk
import Derived.Test.YtemckkcbakccnaaOpen
import Derived.Test.YtemckkcbakccnaaOpenN
import Derived.Test.YtemckkcbakccnaaOpenI
namespace Go.Proofs.Ytemckkcbakccnaa
open Go.RowKit
set_option linter.unusedVariables false
open SymP SrtP
theorem ws_of_srt {l : List It} (h : ItP.Srt l) : WS l := by
  unfold WS
  unfold ItP.Srt at h
  exact h.imp fun h => le_of_ahead h
theorem cls_few {l : List It} (h : ItP.Srt l) (k : List UInt8) (q : Nat) : (l.filter (cls k q)).length ≤ 1 := by
  have hp : (l.filter (cls k q)).Pairwise (fun a b => ItP.ahead a b = true) := List.Pairwise.sublist List.filter_sublist h
  have hall : ∀ x ∈ l.filter (cls k q), x.key = k ∧ x.seq = q := fun x hx => by
    have := (List.mem_filter.1 hx).2
    simpa [cls] using this
  rcases hf : l.filter (cls k q) with _ | ⟨a, _ | ⟨b, r⟩⟩
  · simp
  · simp
  · rw [hf] at hp hall
    have ha := hall a (by simp)
    have hb := hall b (by simp)
    rw [List.pairwise_cons] at hp
    have := hp.1 b (by simp)
    rw [ItP.not_ahead_of_same ⟨ha.1.trans hb.1.symm, ha.2.trans hb.2.symm⟩] at this
    cases this
theorem eqc_perm {F l : List It} (h : ItP.Srt l) (hp : F.Perm l) : Eqc F l := fun k q => by
  have h1 := hp.filter (cls k q)
  have h2 := cls_few h k q
  rcases hf : l.filter (cls k q) with _ | ⟨a, _ | ⟨b, r⟩⟩
  · rw [hf] at h1
    exact List.perm_nil.1 h1
  · rw [hf] at h1
    exact List.perm_singleton.1 h1
  · rw [hf] at h2
    simp at h2
theorem isort_perm {F l : List It} (h : ItP.Srt l) (hp : F.Perm l) : isort F = l := by
  have k := isort_ok F
  exact ws_ext k.1 (ws_of_srt h) (k.2.trans (eqc_perm h hp))
theorem compact_srt {l : List It} (h : ItP.Srt l) : MrgP.compactP l = l := by
  have go : ∀ j, MrgP.compactP (l.take (j + 1)) = l.take (j + 1) := by
    intro j
    induction j with
    | zero => exact MrgP.compact_one l
    | succ j ih =>
      by_cases hj : j + 1 < l.length
      · have hx : l[j + 1]? = some l[j + 1] := List.getElem?_eq_getElem hj
        have hy : l[j]? = some (l[j]'(by omega)) := List.getElem?_eq_getElem (by omega)
        rw [MrgP.compact_add hy hx, ih]
        have ha : ItP.ahead (l[j]'(by omega)) l[j + 1] = true := List.pairwise_iff_getElem.1 h j (j + 1) (by omega) hj (by omega)
        have hs : sameB l[j + 1] (l[j]'(by omega)) = false := by
          unfold sameB
          rw [decide_eq_false_iff_not, ItP.cmp_zero]
          intro e
          rw [ItP.not_ahead_of_same ⟨e.1.symm, e.2.symm⟩] at ha
          cases ha
        rw [hs]
        simp only [Bool.false_eq_true, if_false]
        rw [show j + 1 + 1 = (j + 1) + 1 from rfl, List.take_add_one (i := j + 1), hx]
        rfl
      · rw [List.take_of_length_le (by omega)] at ih ⊢
        exact ih
  by_cases h0 : l.length = 0
  · rw [List.length_eq_zero_iff.1 h0]; rfl
  · have := go (l.length - 1)
    rwa [List.take_of_length_le (by omega)] at this
/-- parts of what is sorted, in any order, are merged into it -/
theorem merge_parts {ll : List (List It)} {l : List It} (h : ItP.Srt l) (hp : ll.flatten.Perm l) (hs : ∀ p ∈ ll, p.Sublist l) : MrgP.mergeL ll = l ∧ MrgP.mergeE ll = 0 := by
  have ha : ll.all ItP.srt = true := by
    rw [List.all_eq_true]
    intro p hpm
    exact ItP.srt_iff.2 (by unfold ItP.Srt at *; exact h.sublist (hs p hpm))
  unfold MrgP.mergeL MrgP.mergeE
  rw [if_pos ha, if_pos ha, isort_perm h hp, compact_srt h]
  exact ⟨rfl, rfl⟩
/-- l's first i items, shared out to four -/
structure Shuf (ll : List (List It)) (l : List It) (i : Nat) : Prop where
  four : ll.length = 4
  perm : ll.flatten.Perm (l.take i)
  sub : ∀ p ∈ ll, p.Sublist (l.take i)
theorem Shuf.nil (l : List It) : Shuf [[], [], [], []] l 0 := ⟨rfl, by simp, fun p hp => by simp at hp; rw [hp]; simp⟩
theorem flat_set : ∀ {ll : List (List It)} {k : Nat} {p : List It} (x : It), ll[k]? = some p → (ll.set k (p ++ [x])).flatten.Perm (ll.flatten ++ [x])
  | [], k, p, x, h => by simp at h
  | a :: r, 0, p, x, h => by
    cases h
    simp only [List.set_cons_zero, List.flatten_cons]
    have : (a ++ [x] ++ r.flatten).Perm (a ++ r.flatten ++ [x]) := by
      rw [List.append_assoc, List.append_assoc]
      exact List.Perm.append_left _ List.perm_append_comm
    exact this
  | a :: r, k + 1, p, x, h => by
    simp only [List.set_cons_succ, List.flatten_cons, List.append_assoc]
    exact List.Perm.append_left _ (flat_set x (by simpa using h))
theorem Shuf.add {ll : List (List It)} {l : List It} {i k : Nat} {p : List It} {x : It} (h : Shuf ll l i) (hx : l[i]? = some x) (hp : ll[k]? = some p) : Shuf (ll.set k (p ++ [x])) l (i + 1) := by
  have ht : l.take (i + 1) = l.take i ++ [x] := by rw [List.take_add_one, hx]; rfl
  refine ⟨by rw [List.length_set]; exact h.four, ?_, ?_⟩
  · rw [ht]
    exact (flat_set x hp).trans (List.Perm.append_right _ h.perm)
  · intro q hq
    rw [ht]
    rcases List.mem_or_eq_of_mem_set hq with hq | rfl
    · exact (h.sub q hq).trans (List.sublist_append_left _ _)
    · exact (h.sub p (List.mem_of_getElem? hp)).append (List.Sublist.refl _)
theorem Shuf.done {a b c d : List It} {l : List It} (hs : ItP.Srt l) (h : Shuf [a, b, c, d] l l.length) : (MrgP.mergeL [a, b, c, d] = l ∧ MrgP.mergeE [a, b, c, d] = 0) ∧ (MrgP.mergeL [d, b, a, c] = l ∧ MrgP.mergeE [d, b, a, c] = 0) := by
  have hp := h.perm
  have hsub := h.sub
  rw [List.take_of_length_le (Nat.le_refl _)] at hp hsub
  refine ⟨merge_parts hs hp hsub, merge_parts hs ?_ ?_⟩
  · refine List.Perm.trans ?_ hp
    refine List.Perm.flatten ?_
    have h1 : [d, b, a, c].Perm [a, d, b, c] := by
      have : [d, b, a, c] = [d, b] ++ a :: [c] := rfl
      rw [this]
      exact List.perm_middle
    refine h1.trans (List.Perm.cons a ?_)
    have : [b, c, d] = [b, c] ++ d :: [] := rfl
    rw [this]
    exact (List.perm_append_singleton d [b, c]).symm
  · intro p hpm
    refine hsub p ?_
    simp only [List.mem_cons, List.not_mem_nil, or_false] at hpm ⊢
    rcases hpm with e | e | e | e <;> simp [e]
end Go.Proofs.Ytemckkcbakccnaa
namespace Go.Proofs.Ytemckkcbakccnaa
open Go.RowKit
set_option linter.unusedVariables false
abbrev Sl3 := Option Addr × Nat × Nat
def slv (p : Sl3) : Value := .slice p.1 p.2.1 p.2.2
structure PartsW (w : World) (base g : Nat) (ps : List Sl3) (ll : List (List It)) : Prop where
  arr : ∃ e, w.heap[g]? = some (.cells (ps.map slv).toArray e (0, 0))
  four : ps.length = 4
  fourl : ll.length = 4
  own : ∀ (k : Nat) (p : Sl3) (l : List It), ps[k]? = some p → ll[k]? = some l → OwnI w base p.1 p.2.1 p.2.2 l
  apart : ∀ (i j : Nat) (p q : Sl3), ps[i]? = some p → ps[j]? = some q → i ≠ j → blk p.1 = none ∨ blk p.1 ≠ blk q.1
  base : g < base
section
variable {w w' : World} {base g : Nat} {ps : List Sl3} {ll : List (List It)}
theorem PartsW.lt (h : PartsW w base g ps ll) : g < w.heap.size := by obtain ⟨e, h⟩ := h.arr; exact lt_of_blk h
theorem PartsW.keep (h : PartsW w base g ps ll) (hb : Grew w w') : PartsW w' base g ps ll := by
  obtain ⟨e, he⟩ := h.arr
  exact ⟨⟨e, by rw [hb.block g h.lt]; exact he⟩, h.four, h.fourl, fun k p l h1 h2 => (h.own k p l h1 h2).below_all hb, h.apart, h.base⟩
theorem PartsW.cell (h : PartsW w base g ps ll) {k : Nat} {p : Sl3} (hp : ps[k]? = some p) : w.cell? ⟨g, k, none⟩ = some (slv p) := by
  obtain ⟨e, he⟩ := h.arr
  rw [cell_blk he]
  simp [hp]
theorem PartsW.frozen (h : PartsW w base g ps ll) (k : Nat) : w.frozen? ⟨g, k, none⟩ = false := by
  obtain ⟨e, he⟩ := h.arr
  simp [World.frozen?, he]
theorem PartsW.cellg (h : PartsW w base g ps ll) {k : Nat} {p : Sl3} {l : List It} (hp : ps[k]? = some p) (hl : ll[k]? = some l) (hg : w.grownBy w' (blk p.1)) : w'.cell? ⟨g, k, none⟩ = some (slv p) ∧ w'.frozen? ⟨g, k, none⟩ = false := by
  obtain ⟨e, he⟩ := h.arr
  have hne : blk p.1 ≠ some g := fun e => by have := (Own.lt (h.own k p l hp hl) g e).1; have := h.base; omega
  have he2 : w'.heap[g]? = some (.cells (ps.map slv).toArray e (0, 0)) := by rw [hg.block g h.lt (fun e => hne e.symm)]; exact he
  constructor
  · rw [cell_blk he2]
    simp [hp]
  · simp [World.frozen?, he2]
theorem PartsW.first (w : World) (e : TypeId) : PartsW (w.alloc (.cells #[.slice none 0 0, .slice none 0 0, .slice none 0 0, .slice none 0 0] e)) (w.heap.size + 1) w.heap.size [(none, 0, 0), (none, 0, 0), (none, 0, 0), (none, 0, 0)] [[], [], [], []] := by
  refine ⟨⟨e, by rw [heap_alloc_new]; rfl⟩, rfl, rfl, ?_, ?_, Nat.lt_succ_self _⟩
  · intro k p l hp hl
    have h1 : p = (none, 0, 0) := by
      have := List.mem_of_getElem? hp
      simpa using this
    have h2 : l = [] := by
      have := List.mem_of_getElem? hl
      simpa using this
    rw [h1, h2]
    exact OwnI.nil _ _
  · intro i j p q hp _ _
    have h1 : p = (none, 0, 0) := by
      have := List.mem_of_getElem? hp
      simpa using this
    exact .inl (by rw [h1]; rfl)
theorem map_set_slv (ps : List Sl3) (k : Nat) (p : Sl3) (hk : k < ps.length) : putAt (ps.map slv).toArray k [slv p] = ((ps.set k p).map slv).toArray := by
  simp [putAt, List.map_set]
theorem PartsW.add {k : Nat} {p p' : Sl3} {l l' : List It} {w1 w2 : World} (h : PartsW w1 base g ps ll) (hp : ps[k]? = some p) (hl : ll[k]? = some l) (hO : OwnI w2 base p'.1 p'.2.1 p'.2.2 l') (hg : w1.grownBy w2 (blk p.1)) (hor : blk p'.1 = blk p.1 ∨ blk p'.1 = some w1.heap.size) :
    PartsW (w2.setCells g k [slv p']) base g (ps.set k p') (ll.set k l') := by
  obtain ⟨e, he⟩ := h.arr
  have hk : k < ps.length := (List.getElem?_eq_some_iff.1 hp).1
  have hpl := h.own k p l hp hl
  have hne : blk p.1 ≠ some g := fun e => by have := (Own.lt hpl g e).1; have := h.base; omega
  have he2 : w2.heap[g]? = some (.cells (ps.map slv).toArray e (0, 0)) := by rw [hg.block g h.lt (fun e => hne e.symm)]; exact he
  have hset := grown_setCells g [slv p'] k w2
  have notg : ∀ {A : Option Addr} {n c : Nat} {r : List It} {W : World}, OwnI W base A n c r → blk A = none ∨ blk A ≠ some g := fun {A n c r W} hO => .inr fun e => by have := (Own.lt hO g e).1; have := h.base; omega
  refine ⟨⟨e, by rw [heap_setCells g e (0, 0) _ _ _ _ he2, map_set_slv ps k p' hk]⟩, by rw [List.length_set]; exact h.four, by rw [List.length_set]; exact h.fourl, ?_, ?_, h.base⟩
  · intro i q r hq hr
    by_cases hik : i = k
    · subst hik
      rw [List.getElem?_set_self hk] at hq
      rw [List.getElem?_set_self (by have := h.four; have := h.fourl; omega)] at hr
      cases hq
      cases hr
      exact Own.grown hO hset (notg hO)
    · rw [List.getElem?_set_ne (fun e => hik e.symm)] at hq hr
      have hO1 := h.own i q r hq hr
      have hO2 : OwnI w2 base q.1 q.2.1 q.2.2 r := Own.grown hO1 hg (h.apart i k q p hq hp hik)
      exact Own.grown hO2 hset (notg hO2)
  · have old : ∀ (j : Nat) (q : Sl3), ps[j]? = some q → blk q.1 ≠ some w1.heap.size := fun j q hq e => by
      have hj := (List.getElem?_eq_some_iff.1 hq).1
      obtain ⟨r, hr⟩ : ∃ r, ll[j]? = some r := ⟨_, List.getElem?_eq_getElem (by have := h.four; have := h.fourl; omega)⟩
      have := (Own.lt (h.own j q r hq hr) _ e).2
      omega
    intro i j q r hq hr hij
    by_cases hik : i = k
    · subst hik
      rw [List.getElem?_set_self hk] at hq
      rw [List.getElem?_set_ne hij] at hr
      cases hq
      rcases hor with e | e
      · rw [e]
        exact h.apart i j p r hp hr hij
      · exact .inr fun e2 => old j r hr (by rw [← e2, e])
    · rw [List.getElem?_set_ne (fun e => hik e.symm)] at hq
      by_cases hjk : j = k
      · subst hjk
        rw [List.getElem?_set_self hk] at hr
        cases hr
        rcases hor with e | e
        · rw [e]
          exact h.apart i j q p hq hp hij
        · exact .inr fun e2 => old i q hq (by rw [e2, e])
      · rw [List.getElem?_set_ne (fun e => hjk e.symm)] at hr
        exact h.apart i j q r hq hr hij
end
theorem exec_loadSl {o : Oper} {a : Act} {w : World} {g k : Nat} {p : Sl3} (X : Operand) (ho : o.op = .load 23 X) (hx : a.eval X = .pointer (some ⟨g, k, none⟩)) (h : w.cell? ⟨g, k, none⟩ = some (slv p)) : (execOp a.eval o).run Try.prog w = .ok (.value (slv p)) w := by
  unfold execOp
  simp [ho, hx, Instr.loadAt, Instr.sureAddr, loadVar, isAgg, Sem.run_bind, run_underlying Try.underlying23 w, h]
theorem size_sl : (Try.prog.info? 23).map (·.size) = some 1 := by kernel_rfl
theorem run_storeSl {w : World} {g k : Nat} {p : Sl3} {old : Value} (hc : w.cell? ⟨g, k, none⟩ = some old) (hf : w.frozen? ⟨g, k, none⟩ = false) :
    (storeVar 23 ⟨g, k, none⟩ (slv p)).run Try.prog w = .ok () (w.setCells g k [slv p]) := by
  have hs := run_storeCells_cells (P := Try.prog) g k [slv p] 0 w (fun j hj => by
    have : j = 0 := by simp at hj; omega
    subst this
    simp [hc]) (fun j hj => by
    have : j = 0 := by simp at hj; omega
    subst this
    simpa using hf) (fun v hv => by simp at hv; rw [hv]; rfl)
  have hcs : (slv p).cells = #[slv p] := rfl
  cases hq : Try.prog.info? 23 with
  | none => have := size_sl; simp [hq] at this
  | some i =>
    have hsz : i.size = 1 := by have := size_sl; simpa [hq] using this
    simp only [Nat.add_zero] at hs
    simp [storeVar, sizeOf, typeInfo, hq, hcs, hsz, hs]
theorem wpList_storeSl {ops : Array Oper} {rest : List Oper} {o : Oper} {a : Act} {w : World} {Q : Exit → Act → World → Prop} (hgd : o.guard = none) (X Y : Operand) (ho : o.op = .store 23 X Y)
    (g k : Nat) (p : Sl3) (old : Value) (hx : a.eval X = .pointer (some ⟨g, k, none⟩)) (hy : a.eval Y = slv p) (hc : w.cell? ⟨g, k, none⟩ = some old) (hf : w.frozen? ⟨g, k, none⟩ = false)
    (h : wpList Try.prog ops Q rest (a.put o.dst undef) (w.setCells g k [slv p])) : wpList Try.prog ops Q (o :: rest) a w :=
  wpList_plain hgd fun _ hK => by
    unfold Oper.wp execOp
    simp only [ho, hx, hy, Instr.storeAt, Instr.sureAddr, Sem.run_bind, Sem.run_pure, Result.andThen_ok, run_storeSl hc hf]
    exact hK _ _ h
end Go.Proofs.Ytemckkcbakccnaa
namespace Go.Proofs.Ytemckkcbakccnaa
open Go.RowKit
set_option linter.unusedVariables false
theorem and3 (d : Int) : ∃ m : Nat, m < 4 ∧ bits .and .i64 d 3 = (m : Int) := by
  have h : (BitVec.ofInt 64 d &&& BitVec.ofInt 64 3).toNat ≤ 3 := by
    rw [BitVec.toNat_and]
    exact Nat.le_trans Nat.and_le_right (by decide)
  refine ⟨(BitVec.ofInt 64 d &&& BitVec.ofInt 64 3).toNat, by omega, ?_⟩
  show IntKind.i64.wrap ((BitVec.ofInt 64 d &&& BitVec.ofInt 64 3).toNat : Int) = _
  exact IntWalk.i64_in _ (by omega)
theorem four_of {α : Type} : ∀ {l : List α}, l.length = 4 → ∃ a b c d, l = [a, b, c, d]
  | [a, b, c, d], _ => ⟨a, b, c, d, rfl⟩
  | [], h => by simp at h
  | [_], h => by simp at h
  | [_, _], h => by simp at h
  | [_, _, _], h => by simp at h
  | _ :: _ :: _ :: _ :: _ :: _, h => by simp at h
theorem merge_four (W : World) (e : TypeId) (fr : Nat × Nat) (pa pb pc pd : Sl3) (a b c d l : List It) (ha : Is W W.heap.size pa.1 pa.2.1 pa.2.2 a) (hb : Is W W.heap.size pb.1 pb.2.1 pb.2.2 b) (hc : Is W W.heap.size pc.1 pc.2.1 pc.2.2 c) (hd : Is W W.heap.size pd.1 pd.2.1 pd.2.2 d)
    (hm : MrgP.mergeL [a, b, c, d] = l ∧ MrgP.mergeE [a, b, c, d] = 0) (hz : [a, b, c, d].flatten.length ≤ 1000000) :
    Calls Try.prog 10 #[.slice (some ⟨W.heap.size, 0, none⟩) 4 4] (W.alloc (.cells #[slv pa, slv pb, slv pc, slv pd] e fr)) fun e w' => ∃ A n' c', e = .returned (.tuple #[.slice A n' c', .int .i64 0]) ∧ OwnI w' W.heap.size A n' c' l ∧ Grew W w' := by
  have h := mrg_merge (some ⟨W.heap.size, 0, none⟩) 4 4 [a, b, c, d] (W.alloc (.cells #[slv pa, slv pb, slv pc, slv pd] e fr)) (LRowI.build W e fr _ [a, b, c, d] (fun i l h => by
    rcases i with _ | _ | _ | _ | i
    · cases h; exact ⟨pa.1, pa.2.2, by unfold slv; rw [← ha.len]; rfl, by rw [ha.len]; exact ha⟩
    · cases h; exact ⟨pb.1, pb.2.2, by unfold slv; rw [← hb.len]; rfl, by rw [hb.len]; exact hb⟩
    · cases h; exact ⟨pc.1, pc.2.2, by unfold slv; rw [← hc.len]; rfl, by rw [hc.len]; exact hc⟩
    · cases h; exact ⟨pd.1, pd.2.2, by unfold slv; rw [← hd.len]; rfl, by rw [hd.len]; exact hd⟩
    · simp at h)) rfl (by omega) hz
  rw [hm.1, hm.2] at h
  exact h.mono fun e w' ⟨A, n, c, h1, h2, h3⟩ => ⟨A, n, c, h1, Own.lower h2 (by simp), (grew_new W _).trans h3⟩
set_option maxRecDepth 100000 in
set_option maxHeartbeats 4000000 in
theorem mergeParts_walk (A0 : Option Addr) (n0 c0 : Nat) (l0 : List It) (A1 : Option Addr) (n1 c1 : Nat) (l1 : List Int) (a2 : Int) (w : World) (b0 : ItemsIn w A0 n0 c0 l0) (z0 : n0 * 48 ≤ 140737488351232) (b1 : NumsIn .i64 w A1 n1 c1 l1) (z1 : n1 * 8 ≤ 140737488351232) (w2 : (Lit.int .u64 a2).wf = true) :
    Calls Try.prog 7 #[.slice A0 n0 c0, .slice A1 n1 c1, .int .u64 a2] w fun e w' => e = .returned (.bool true) ∧ Below w.heap.size w w' := by
  have hl := b0.is.len
  have hm := b0.is.le
  have hkl := b1.len
  obtain ⟨q, hq⟩ : ∃ q : Nat, a2 = (q : Int) := ⟨a2.toNat, by have := wf_u64 w2; omega⟩
  subst hq
  have HI := Lib.hid b0.is
  have HKl := Lib.hid b0.kln
  have HN := Lib.hid b1.row
  have HAw := Lib.hid (awake10 w)
  clear b0 b1 z0 w2
  go_enter Try.func7, Try.ntmps7
  go_upto_region 3 with (go_at_call 9; ((with_reducible refine HAw.out.mono ?_); rintro e w2 ⟨rfl, hB⟩; have HB2 := Lib.hid hB; clear hB))
  by_cases hbig : 80 < n0
  · have i1 : (80 : Int) < (n0 : Int) := by omega
    go_wp2_with fail
    go_ret
    exact ⟨rfl, HB2.out⟩
  have i1 : ¬ (80 : Int) < (n0 : Int) := by omega
  obtain ⟨s, hs⟩ : ∃ s, s = ItP.srt l0 := ⟨_, rfl⟩
  have HSr : Hid (Calls Try.prog 14 #[.slice A0 n0 c0] w2 fun e w' => e = .returned (.bool s) ∧ Grew w2 w') := Lib.hid (by rw [hs]; exact ref_sorted A0 n0 c0 l0 w2 ((HI.out.below HB2.out).more HB2.out.size) (by omega))
  have HS := Lib.hid hs
  clear hs
  cases s
  · go_wp2_with (go_at_call 14; ((with_reducible refine HSr.out.mono ?_); rintro e w3 ⟨rfl, hG⟩; have HG3 := Lib.hid hG; clear hG))
    go_ret
    exact ⟨rfl, HB2.out.trans (Below.mono HG3.out HB2.out.size)⟩
  go_upto_region 5 with (go_at_call 14; ((with_reducible refine HSr.out.mono ?_); rintro e w3 ⟨rfl, hG⟩; have HB3 := Lib.hid (HB2.out.trans (Below.mono hG HB2.out.size)); clear hG))
  have HSRT := Lib.hid (show ItP.Srt l0 from ItP.srt_iff.1 HS.out.symm)
  clear HSr HB2 HS HAw
  go_upto_region 6 with fail
  obtain ⟨w4, hw4⟩ : ∃ W, W = w3.alloc (.cells #[.slice none 0 0, .slice none 0 0, .slice none 0 0, .slice none 0 0] 45) := ⟨_, rfl⟩
  obtain ⟨g, hg⟩ : ∃ g, g = w3.heap.size := ⟨_, rfl⟩
  have HP4 := Lib.hid (show PartsW w4 (g + 1) g [(none, 0, 0), (none, 0, 0), (none, 0, 0), (none, 0, 0)] [[], [], [], []] by rw [hw4, hg]; exact PartsW.first w3 _)
  have HB4 := Lib.hid (show Below w.heap.size w w4 by rw [hw4]; exact HB3.out.trans (Below.mono (grew_new w3 _) HB3.out.size))
  have HGB := Lib.hid (show w.heap.size ≤ g by rw [hg]; exact HB3.out.size)
  rw [← hw4, ← hg]
  clear hw4 hg HB3
  have hn0 : n0 ≤ 80 := by omega
  go_wp2_with fail
  go_loopw [8, 9] (fun iv _ wy => ∃ (i : Nat) (ps : List Sl3) (ll : List (List It)), i ≤ n0 ∧ iv = .int .i64 (i : Int) ∧ PartsW wy (g + 1) g ps ll ∧ Shuf ll l0 i ∧ Below w.heap.size w wy) (fun i _ _ => n0 - (intOf i).toNat)
  case atStart => exact ⟨0, _, _, Nat.zero_le _, rfl, HP4.out, Shuf.nil l0, HB4.out⟩
  case round =>
    obtain ⟨i, ps, ll, hi, rfl, hP, hS, hB⟩ := hrel
    have HP := Lib.hid hP
    have HSh := Lib.hid hS
    have HB := Lib.hid hB
    clear hP hS hB HP4 HB4
    have i0 : (0 : Int) ≤ (i : Int) := by omega
    by_cases hlt : i < n0
    · have i2 : (i : Int) < (n0 : Int) := by omega
      go_upto_if 33 with fail
      go_cut [9] from 33 to 39 (fun kv wy => ∃ k : Nat, k < 4 ∧ kv = .int .i64 (k : Int) ∧ wy = wr)
      case first =>
        by_cases hw : i < n1
        · have i3 : (i : Int) < (n1 : Int) := by omega
          obtain ⟨ad, rfl, hab, hc⟩ := (Row.below HN.out HB.out).at_ i (by rw [List.length_map]; omega)
          obtain ⟨d, hd⟩ : ∃ d, d = l1[i]'(by omega) := ⟨_, rfl⟩
          have hcx : wr.cell? (ad.add i) = some (.int .i64 d) := by rw [hc, hd]; simp
          obtain ⟨k, hk4, hk⟩ := and3 d
          clear hc hd
          go_wp2_with fail
          go_meet
          case rel => exact ⟨k, hk4, rfl, rfl⟩
        · have i3 : ¬ (i : Int) < (n1 : Int) := by omega
          go_wp2_with fail
          go_meet
          case rel => exact ⟨0, by omega, rfl, rfl⟩
      case rest =>
      obtain ⟨k, hk4, rfl, rfl⟩ := hcut
      obtain ⟨p, hp⟩ : ∃ p, ps[k]? = some p := ⟨_, List.getElem?_eq_getElem (by have := HP.out.four; omega)⟩
      obtain ⟨l', hl'⟩ : ∃ l, ll[k]? = some l := ⟨_, List.getElem?_eq_getElem (by have := HP.out.fourl; omega)⟩
      obtain ⟨x, hx⟩ : ∃ x, l0[i]? = some x := ⟨_, List.getElem?_eq_getElem (by omega)⟩
      obtain ⟨pA, pn, pc⟩ := p
      have HHp := Lib.hid hp
      have HHl := Lib.hid hl'
      have HXx := Lib.hid hx
      have hpn : pn ≤ 80 := by
        have h1 := (HP.out.own k _ _ hp hl').len
        have h2 := (HSh.out.sub l' (List.mem_of_getElem? hl')).length_le
        rw [List.length_take] at h2
        simp only at h1
        omega
      obtain ⟨g1, o1, rfl, hg1, hrx⟩ := HI.out.at hx
      have HG1 := Lib.hid hg1
      have HRX := Lib.hid hrx
      have hgb : w.heap.size ≤ g := HGB.out
      clear hp hl' hx hg1 hrx
      have k2 : (k : Int) < 4 := by omega
      have k0 : (0 : Int) ≤ (k : Int) := by omega
      go_upto_region 12 with fail
      refine wp_region_c (fun W => Below w.heap.size w W) (by kernel_rfl) (HB.out.trans (Below.mono (Grew.drewN wc 1) HB.out.size)) ?_
      have HC := Lib.hid (show Below w.heap.size w (World.drewN wc 1) from HB.out.trans (Below.mono (Grew.drewN wc 1) HB.out.size))
      have hqq := And.intro hk4 (And.intro k2 (And.intro k0 (And.intro hlt (And.intro i2 i0))))
      (refine wpAnyC_free 0 (oi := ⟨some 39, _, _, _, _, _⟩) (v := ?_) rfl (by kernel_rfl) (by kernel_rfl) (by kernel_rfl) HC.out rfl (fun x => ?_) ?_; rotate_left; (focus (simp [go_sem]; (try go_ints); first | done | (with_reducible rfl))); (simp only [Act.put, List.setIfInBounds_toArray, List.set_cons_succ, List.set_cons_zero]))
      (refine wpAnyC_free 1 (oi := ⟨some 40, _, _, _, _, _⟩) (v := ?_) rfl (by kernel_rfl) (by kernel_rfl) (by kernel_rfl) HC.out rfl (fun x => ?_) ?_; rotate_left; (focus (simp [go_sem]; (try go_ints); first | done | (with_reducible rfl))); (simp only [Act.put, List.setIfInBounds_toArray, List.set_cons_succ, List.set_cons_zero]))
      (refine wpAnyC_free 2 (oi := ⟨some 41, _, _, _, _, _⟩) (v := ?_) rfl (by kernel_rfl) (by kernel_rfl) (by kernel_rfl) HC.out rfl (fun x => ?_) ?_; rotate_left; (focus (simp [go_sem, hqq]; (try go_ints); first | done | (with_reducible rfl))); (simp only [Act.put, List.setIfInBounds_toArray, List.set_cons_succ, List.set_cons_zero]))
      (refine wpAnyC_free 4 (oi := ⟨some 43, _, _, _, _, _⟩) (v := ?_) rfl (by kernel_rfl) (by kernel_rfl) (by kernel_rfl) HC.out rfl (fun x => ?_) ?_; rotate_left; (focus (simp [go_sem]; (try go_ints); first | done | (with_reducible rfl))); (simp only [Act.put, List.setIfInBounds_toArray, List.set_cons_succ, List.set_cons_zero]))
      (refine wpAnyC_free 5 (oi := ⟨some 44, _, _, _, _, _⟩) (v := ?_) rfl (by kernel_rfl) (by kernel_rfl) (by kernel_rfl) HC.out rfl (fun x => ?_) ?_; rotate_left; (focus (simp [go_sem]; (try go_ints); first | done | (with_reducible rfl))); (simp only [Act.put, List.setIfInBounds_toArray, List.set_cons_succ, List.set_cons_zero]))
      (refine wpAnyC_free 6 (oi := ⟨some 45, _, _, _, _, _⟩) (v := ?_) rfl (by kernel_rfl) (by kernel_rfl) (by kernel_rfl) HC.out rfl (fun x => ?_) ?_; rotate_left; (focus (simp [go_sem, hqq]; (try go_ints); first | done | (with_reducible rfl))); (simp only [Act.put, List.setIfInBounds_toArray, List.set_cons_succ, List.set_cons_zero]))
      refine wpAnyC_free 7 (oi := ⟨some 46, _, _, _, _, _⟩) (iv x) rfl (by kernel_rfl) (by kernel_rfl) (by kernel_rfl) HC.out rfl (fun W => exec_loadI (.tmp 45) rfl rfl (range_below HRX.out W.2 HG1.out)) ?_
      (simp only [Act.put, List.setIfInBounds_toArray, List.set_cons_succ, List.set_cons_zero])
      change wpAnyC _ _ _ _ _ _ _ _ (World.drewN wc 1)
      obtain ⟨wz, hwz⟩ : ∃ W, W = World.drewN wc 1 := ⟨_, rfl⟩
      have HPz := Lib.hid (show PartsW wz (g + 1) g ps ll by rw [hwz]; exact HP.out.keep (Grew.drewN _ _))
      have HCz := Lib.hid (show Below w.heap.size w wz by rw [hwz]; exact HC.out)
      rw [← hwz]
      clear hwz HP HB
      refine wpAnyC_fork 3 8 (oi := ⟨some 42, _, _, _, _, _⟩) (oj := ⟨some 47, _, _, _, _, _⟩) rfl rfl (by kernel_rfl) ?_ ?_
      · refine cOp_list 3 (o := ⟨some 42, _, _, _, _, _⟩) rfl rfl ?_
        refine wpList_value (o := ⟨some 42, _, _, _, _, _⟩) rfl (exec_loadSl (.tmp 41) rfl rfl (HPz.out.cell HHp.out)) ?_
        (simp only [Act.put, List.setIfInBounds_toArray, List.set_cons_succ, List.set_cons_zero])
        refine wpList_nil ⟨rfl, HCz.out, ?_⟩
        refine wpAnyC_step 8 (o := ⟨some 47, _, _, _, _, _⟩) rfl (by kernel_rfl) rfl ?_
        refine wpList_build1 (.tmp 46) x rfl rfl rfl ?_
        have HX2 := Lib.hid (IRow.one wz x 29 (0, 0))
        have HP2 := Lib.hid (HPz.out.keep (grew_new wz (.cells #[.string ⟨x.key.toArray⟩, .int .u64 (x.seq : Int), .bool x.gone, .string ⟨x.val.toArray⟩] 29)))
        have HC2 := Lib.hid (show Below w.heap.size w (wz.alloc (.cells #[.string ⟨x.key.toArray⟩, .int .u64 (x.seq : Int), .bool x.gone, .string ⟨x.val.toArray⟩] 29)) from HCz.out.trans (Below.mono (grew_new wz _) HCz.out.size))
        have HG2 := Lib.hid (show g + 1 ≤ (wz.alloc (.cells #[.string ⟨x.key.toArray⟩, .int .u64 (x.seq : Int), .bool x.gone, .string ⟨x.val.toArray⟩] 29)).heap.size by have := HPz.out.lt; simp; omega)
        generalize wz.alloc (.cells #[.string ⟨x.key.toArray⟩, .int .u64 (x.seq : Int), .bool x.gone, .string ⟨x.val.toArray⟩] 29) = w2 at HX2 HP2 HC2 HG2 ⊢
        (simp only [Act.put, List.setIfInBounds_toArray, List.set_cons_succ, List.set_cons_zero])
        refine wpList_nil ⟨rfl, HC2.out, ?_⟩
        refine wpAnyC_step 9 (o := ⟨some 48, _, _, _, _, _⟩) rfl (by kernel_rfl) rfl ?_
        refine wpList_appI rfl (.tmp 42) (.tmp 47) rfl (g + 1) pA pn pc l' rfl (HP2.out.own k _ _ HHp.out HHl.out) (some ⟨wz.heap.size, 0, none⟩) 1 1 (wz.heap.size + 1) [x] rfl rfl HX2.out (by omega) HG2.out ?_
        intro A5 cap5 w5 hO5 hg5 hB5 hor5
        have HC5 := Lib.hid (show Below w.heap.size w w5 from HC2.out.trans (Below.mono hB5 (by omega)))
        have HCE := Lib.hid (HP2.out.cellg HHp.out HHl.out hg5)
        have HP5 := Lib.hid (PartsW.add (p' := (A5, pn + 1, cap5)) HP2.out HHp.out HHl.out hO5 hg5 hor5)
        have HC6 := Lib.hid (show Below w.heap.size w (w5.setCells g k [slv (A5, pn + 1, cap5)]) from HC5.out.trans (below_grown (grown_setCells g [slv (A5, pn + 1, cap5)] k w5) HC5.out.size (fun g' e => by cases e; exact HGB.out)))
        clear hO5 hg5 hB5 hor5
        (simp only [Act.put, List.setIfInBounds_toArray, List.set_cons_succ, List.set_cons_zero])
        refine wpList_nil ⟨rfl, HC5.out, ?_⟩
        have HC := HC5
        (refine wpAnyC_free 10 (oi := ⟨some 49, _, _, _, _, _⟩) (v := ?_) rfl (by kernel_rfl) (by kernel_rfl) (by kernel_rfl) HC.out rfl (fun x => ?_) ?_; rotate_left; (focus (simp [go_sem, hqq]; (try go_ints); first | done | (with_reducible rfl))); (simp only [Act.put, List.setIfInBounds_toArray, List.set_cons_succ, List.set_cons_zero]))
        refine wpAnyC_step 11 (o := ⟨none, _, _, _, _, _⟩) rfl (by kernel_rfl) rfl ?_
        refine wpList_storeSl rfl (.tmp 49) (.tmp 48) rfl g k (A5, pn + 1, cap5) (slv (pA, pn, pc)) rfl rfl HCE.out.1 HCE.out.2 ?_
        generalize w5.setCells g k [slv (A5, pn + 1, cap5)] = w6 at HP5 HC6 ⊢
        (simp only [Act.put])
        refine wpList_nil ⟨rfl, HC6.out, ?_⟩
        refine wpAnyC_done (by kernel_rfl) (fun _ => ?_) _
        clear hqq
        go_wp2_with fail
        go_roundw
        case rel => exact ⟨i + 1, _, _, hlt, by go_num, HP5.out, Shuf.add HSh.out HXx.out HHl.out, HC6.out⟩
        case measure => simp [intOf]; omega
      · refine cOp_list 8 (o := ⟨some 47, _, _, _, _, _⟩) rfl rfl ?_
        refine wpList_build1 (.tmp 46) x rfl rfl rfl ?_
        have HX2 := Lib.hid (IRow.one wz x 29 (0, 0))
        have HP2 := Lib.hid (HPz.out.keep (grew_new wz (.cells #[.string ⟨x.key.toArray⟩, .int .u64 (x.seq : Int), .bool x.gone, .string ⟨x.val.toArray⟩] 29)))
        have HC2 := Lib.hid (show Below w.heap.size w (wz.alloc (.cells #[.string ⟨x.key.toArray⟩, .int .u64 (x.seq : Int), .bool x.gone, .string ⟨x.val.toArray⟩] 29)) from HCz.out.trans (Below.mono (grew_new wz _) HCz.out.size))
        have HG2 := Lib.hid (show g + 1 ≤ (wz.alloc (.cells #[.string ⟨x.key.toArray⟩, .int .u64 (x.seq : Int), .bool x.gone, .string ⟨x.val.toArray⟩] 29)).heap.size by have := HPz.out.lt; simp; omega)
        generalize wz.alloc (.cells #[.string ⟨x.key.toArray⟩, .int .u64 (x.seq : Int), .bool x.gone, .string ⟨x.val.toArray⟩] 29) = w2 at HX2 HP2 HC2 HG2 ⊢
        (simp only [Act.put, List.setIfInBounds_toArray, List.set_cons_succ, List.set_cons_zero])
        refine wpList_nil ⟨rfl, HC2.out, ?_⟩
        refine wpAnyC_step 3 (o := ⟨some 42, _, _, _, _, _⟩) rfl (by kernel_rfl) rfl ?_
        refine wpList_value (o := ⟨some 42, _, _, _, _, _⟩) rfl (exec_loadSl (.tmp 41) rfl rfl (HP2.out.cell HHp.out)) ?_
        (simp only [Act.put, List.setIfInBounds_toArray, List.set_cons_succ, List.set_cons_zero])
        refine wpList_nil ⟨rfl, HC2.out, ?_⟩
        refine wpAnyC_step 9 (o := ⟨some 48, _, _, _, _, _⟩) rfl (by kernel_rfl) rfl ?_
        refine wpList_appI rfl (.tmp 42) (.tmp 47) rfl (g + 1) pA pn pc l' rfl (HP2.out.own k _ _ HHp.out HHl.out) (some ⟨wz.heap.size, 0, none⟩) 1 1 (wz.heap.size + 1) [x] rfl rfl HX2.out (by omega) HG2.out ?_
        intro A5 cap5 w5 hO5 hg5 hB5 hor5
        have HC5 := Lib.hid (show Below w.heap.size w w5 from HC2.out.trans (Below.mono hB5 (by omega)))
        have HCE := Lib.hid (HP2.out.cellg HHp.out HHl.out hg5)
        have HP5 := Lib.hid (PartsW.add (p' := (A5, pn + 1, cap5)) HP2.out HHp.out HHl.out hO5 hg5 hor5)
        have HC6 := Lib.hid (show Below w.heap.size w (w5.setCells g k [slv (A5, pn + 1, cap5)]) from HC5.out.trans (below_grown (grown_setCells g [slv (A5, pn + 1, cap5)] k w5) HC5.out.size (fun g' e => by cases e; exact HGB.out)))
        clear hO5 hg5 hB5 hor5
        (simp only [Act.put, List.setIfInBounds_toArray, List.set_cons_succ, List.set_cons_zero])
        refine wpList_nil ⟨rfl, HC5.out, ?_⟩
        have HC := HC5
        (refine wpAnyC_free 10 (oi := ⟨some 49, _, _, _, _, _⟩) (v := ?_) rfl (by kernel_rfl) (by kernel_rfl) (by kernel_rfl) HC.out rfl (fun x => ?_) ?_; rotate_left; (focus (simp [go_sem, hqq]; (try go_ints); first | done | (with_reducible rfl))); (simp only [Act.put, List.setIfInBounds_toArray, List.set_cons_succ, List.set_cons_zero]))
        refine wpAnyC_step 11 (o := ⟨none, _, _, _, _, _⟩) rfl (by kernel_rfl) rfl ?_
        refine wpList_storeSl rfl (.tmp 49) (.tmp 48) rfl g k (A5, pn + 1, cap5) (slv (pA, pn, pc)) rfl rfl HCE.out.1 HCE.out.2 ?_
        generalize w5.setCells g k [slv (A5, pn + 1, cap5)] = w6 at HP5 HC6 ⊢
        (simp only [Act.put])
        refine wpList_nil ⟨rfl, HC6.out, ?_⟩
        refine wpAnyC_done (by kernel_rfl) (fun _ => ?_) _
        clear hqq
        go_wp2_with fail
        go_roundw
        case rel => exact ⟨i + 1, _, _, hlt, by go_num, HP5.out, Shuf.add HSh.out HXx.out HHl.out, HC6.out⟩
        case measure => simp [intOf]; omega
    · obtain rfl : i = n0 := by omega
      have i2 : ¬ (i : Int) < (i : Int) := by omega
      obtain ⟨pa, pb, pc, pd, rfl⟩ := four_of HP.out.four
      obtain ⟨a, b, c, d, rfl⟩ := four_of HP.out.fourl
      have HDo := Lib.hid (Shuf.done HSRT.out (by rw [hl]; exact HSh.out))
      have hab : a.length ≤ 80 ∧ b.length ≤ 80 ∧ c.length ≤ 80 ∧ d.length ≤ 80 := by
        have h1 := fun z hz => (HSh.out.sub z hz).length_le
        rw [List.length_take] at h1
        have h2 := h1 a (by simp)
        have h3 := h1 b (by simp)
        have h4 := h1 c (by simp)
        have h5 := h1 d (by simp)
        omega
      obtain ⟨Aa, na, ca⟩ := pa
      obtain ⟨Ab, nb, cb⟩ := pb
      obtain ⟨Ac, nc, cc⟩ := pc
      obtain ⟨Ad, nd, cd⟩ := pd
      have e0 : wr.cell? ⟨g, 0, none⟩ = some (.slice Aa na ca) := HP.out.cell (k := 0) rfl
      have e1 : wr.cell? ⟨g, 1, none⟩ = some (.slice Ab nb cb) := HP.out.cell (k := 1) rfl
      have e2 : wr.cell? ⟨g, 2, none⟩ = some (.slice Ac nc cc) := HP.out.cell (k := 2) rfl
      have e3 : wr.cell? ⟨g, 3, none⟩ = some (.slice Ad nd cd) := HP.out.cell (k := 3) rfl
      have HM1 : Hid (Calls Try.prog 10 #[.slice (some ⟨wr.heap.size, 0, none⟩) 4 4] (wr.alloc (.cells #[.slice Aa na ca, .slice Ab nb cb, .slice Ac nc cc, .slice Ad nd cd] 23)) fun e w' => ∃ A n' c', e = .returned (.tuple #[.slice A n' c', .int .i64 0]) ∧ OwnI w' wr.heap.size A n' c' l0 ∧ Grew wr w') := Lib.hid (merge_four wr 23 (0, 0) (Aa, na, ca) (Ab, nb, cb) (Ac, nc, cc) (Ad, nd, cd) a b c d l0 ((HP.out.own 0 _ _ rfl rfl).is (Nat.le_refl _)) ((HP.out.own 1 _ _ rfl rfl).is (Nat.le_refl _)) ((HP.out.own 2 _ _ rfl rfl).is (Nat.le_refl _)) ((HP.out.own 3 _ _ rfl rfl).is (Nat.le_refl _)) HDo.out.1 (by simp only [List.flatten_cons, List.flatten_nil, List.length_append, List.length_nil]; omega))
      go_upto_region 14 with (go_at_call 10; ((with_reducible refine HM1.out.mono ?_); rintro e xw ⟨Ax, nx, cx, rfl, hO, hG⟩; have HOx := Lib.hid hO; have HGx := Lib.hid hG; have HP := Lib.hid (HP.out.keep hG); clear hO hG))
      have e0 : xw.cell? ⟨g, 0, none⟩ = some (.slice Aa na ca) := HP.out.cell (k := 0) rfl
      have e1 : xw.cell? ⟨g, 1, none⟩ = some (.slice Ab nb cb) := HP.out.cell (k := 1) rfl
      have e2 : xw.cell? ⟨g, 2, none⟩ = some (.slice Ac nc cc) := HP.out.cell (k := 2) rfl
      have e3 : xw.cell? ⟨g, 3, none⟩ = some (.slice Ad nd cd) := HP.out.cell (k := 3) rfl
      have HM2 : Hid (Calls Try.prog 10 #[.slice (some ⟨xw.heap.size, 0, none⟩) 4 4] (xw.alloc (.cells #[.slice Ad nd cd, .slice Ab nb cb, .slice Aa na ca, .slice Ac nc cc] 23)) fun e w' => ∃ A n' c', e = .returned (.tuple #[.slice A n' c', .int .i64 0]) ∧ OwnI w' xw.heap.size A n' c' l0 ∧ Grew xw w') := Lib.hid (merge_four xw 23 (0, 0) (Ad, nd, cd) (Ab, nb, cb) (Aa, na, ca) (Ac, nc, cc) d b a c l0 ((HP.out.own 3 _ _ rfl rfl).is (Nat.le_refl _)) ((HP.out.own 1 _ _ rfl rfl).is (Nat.le_refl _)) ((HP.out.own 0 _ _ rfl rfl).is (Nat.le_refl _)) ((HP.out.own 2 _ _ rfl rfl).is (Nat.le_refl _)) HDo.out.2 (by simp only [List.flatten_cons, List.flatten_nil, List.length_append, List.length_nil]; omega))
      go_upto_region 15 with (go_at_call 10; ((with_reducible refine HM2.out.mono ?_); rintro e yw ⟨Ay, ny, cy, rfl, hO, hG⟩; have HOy := Lib.hid hO; have HGy := Lib.hid hG; clear hO hG))
      have hx80 : nx ≤ 80 := by have := HOx.out.len; omega
      have HBy := Lib.hid (show Below w.heap.size w yw from HB.out.trans (Below.mono (Grew.trans HGx.out HGy.out) HB.out.size))
      have HOx := Lib.hid (HOx.out.below_all HGy.out)
      have HGr := Lib.hid (Grew.refl yw)
      have HIx : Hid (∀ W, Grew yw W → Is W W.heap.size Ax nx cx l0) := Lib.hid fun W hW => (HOx.out.below_all hW).is (Nat.le_refl _)
      have HIy : Hid (∀ W, Grew yw W → Is W W.heap.size Ay ny cy l0) := Lib.hid fun W hW => (HOy.out.below_all hW).is (Nat.le_refl _)
      have HIl : Hid (∀ W, Grew yw W → Is W W.heap.size A0 i c0 l0) := Lib.hid fun W hW => (HI.out.below (HBy.out.trans (Below.mono hW HBy.out.size))).more (Nat.le_trans HBy.out.size hW.size)
      have HSm : Hid (∀ (W : World) (A B : Option Addr) (n c m d : Nat) (x : List It), Is W W.heap.size A n c x → Is W W.heap.size B m d x → Calls Try.prog 16 #[.slice A n c, .slice B m d] W fun e w' => e = .returned (.bool true) ∧ Grew W w') := Lib.hid fun W A B n c m d x h1 h2 => (ref_same A B n c m d x x W h1 h2).mono fun e w' h => ⟨by rw [h.1, decide_eq_true rfl], h.2⟩
      have HSe1 : Hid (∀ W, Grew yw W → Calls Try.prog 11 #[.slice Ax nx cx, .int .u64 (q : Int)] W fun e w' => ∃ A n c, e = .returned (.slice A n c) ∧ OwnI w' (W.heap.size + 1) A n c (MrgP.seen l0 q) ∧ Grew W w') := Lib.hid fun W hW => mrg_seen Ax nx cx l0 q W (HIx.out W hW) HKl.out (by omega)
      have HSe2 : Hid (∀ W, Grew yw W → Calls Try.prog 11 #[.slice A0 i c0, .int .u64 (q : Int)] W fun e w' => ∃ A n c, e = .returned (.slice A n c) ∧ OwnI w' (W.heap.size + 1) A n c (MrgP.seen l0 q) ∧ Grew W w') := Lib.hid fun W hW => mrg_seen A0 i c0 l0 q W (HIl.out W hW) HKl.out (by omega)
      clear HM1 HM2 HP HOx HOy HGx HGy HDo e0 e1 e2 e3
      go_wp2_with (first
        | (go_at_call 16; ((first | (with_reducible refine (HSm.out _ _ _ _ _ _ _ _ (HIx.out _ HGr.out) (HIl.out _ HGr.out)).mono ?_) | (with_reducible refine (HSm.out _ _ _ _ _ _ _ _ (HIy.out _ HGr.out) (HIl.out _ HGr.out)).mono ?_) | (with_reducible refine (HSm.out _ _ _ _ _ _ _ _ (HO8.out.is (Nat.le_refl _)) (HO9.out.is (Nat.le_refl _))).mono ?_)); rintro e w7 ⟨rfl, hG⟩; have HGr := Lib.hid (Grew.trans HGr.out hG); clear hG))
        | (go_at_call 11; ((with_reducible refine (HSe1.out _ HGr.out).mono ?_); rintro e w8 ⟨A8, n8, c8, rfl, hO, hG⟩; have HO8 := Lib.hid hO; have HGr := Lib.hid (Grew.trans HGr.out hG); clear hO hG))
        | (go_at_call 11; ((with_reducible refine (HSe2.out _ HGr.out).mono ?_); rintro e w9 ⟨A9, n9, c9, rfl, hO, hG⟩; have HO9 := Lib.hid hO; have HO8 := Lib.hid (HO8.out.below_all hG); have HGr := Lib.hid (Grew.trans HGr.out hG); clear hO hG)))
      go_ret
      exact ⟨rfl, HBy.out.trans (Below.mono HGr.out HBy.out.size)⟩
end Go.Proofs.Ytemckkcbakccnaa
namespace Go.Proofs.Ytemckkcbakccnaa.lawMergeParts
open Go.ChangeShapes Go.WideShapes Go.ChangeAt Go.RowKit
open Go.ChangeMaps (open_string shut_string)
set_option linter.unusedVariables false
set_option maxRecDepth 100000 in
theorem contract (H : Type) (enc : TypeId × Value → H) (W : World) (base : Nat) (args : Array Value) (ds gs : List (DataW H)) (before : List MemPlace)
    (hval : ∀ (j : Nat) t v, Try.f7.params[j]? = some t → args[j]? = some v → Value.okWide Try.prog W .any base t v)
    (hW : DataW.Whole enc Try.prog Try.f7.params.toList Rows.mergePartsSpec.vars false W args.toList ds gs before)
    (hsz : (DataW.weightsEach Try.prog (Try.f7.params.toList ++ Rows.mergePartsSpec.plain.varTypes Try.prog) (ds ++ gs)).all (· ≤ reachBytes) = true) :
    Calls Try.prog 7 args W fun e W' => ∃ v, e = .returned v ∧ Rows.mergePartsSpec.post enc Try.prog Try.f7 false true false false W args v W' := by
  have hW' := hW
  obtain ⟨p, q, hA0, hV, rfl, hfz, hnd⟩ := hW
  have hA : DataW.TrodAll enc Try.prog W 0 (fun _ => true) true Try.f7.params.toList args.toList ds p := hA0
  rw [Try.params7] at hA hval hsz
  obtain ⟨v0, vs0, d0, ds0, p0, q0, hargs, rfl, rfl, h0, r0⟩ := trodAll_cons hA
  obtain ⟨v1, vs1, d1, ds1, p1, q1, rfl, rfl, rfl, h1, r1⟩ := trodAll_cons r0
  obtain ⟨v2, vs2, d2, ds2, p2, q2, rfl, rfl, rfl, h2, r2⟩ := trodAll_cons r1
  obtain ⟨rfl, rfl, rfl⟩ := trodAll_nil r2
  obtain rfl : args = #[v0, v1, v2] := by cases args; simp_all
  obtain ⟨rfl, rfl⟩ := trodVars_none hV
  obtain ⟨A0, n0, c0, rfl⟩ := okWide_slice Try.underlying23 (hval 0 23 v0 rfl rfl)
  have k0 := h0
  have lt0 : ∀ x ∈ p0, x.block < W.heap.size := by obtain ⟨m, hm⟩ := k0; exact DataW.trod_lt m _ _ _ hm
  obtain ⟨fuel0, hf0⟩ := h0
  obtain ⟨l0, b0, u0, hd0⟩ := open_items   hf0
  have z0 : n0 * 48 ≤ 140737488351232 := by
    rcases hd0 with ⟨_, h⟩ | ⟨es, sp, h, hl⟩
    · omega
    · have hb : Try.prog.bytesOf 29 = 48 := by kernel_rfl
      have := sized_slice hsz (j := 0) (t := 23) (e := 29) (elems := es) (spare := sp) rfl (by simpa using h) Try.underlying23
      rw [hb] at this
      unfold reachBytes at this
      omega
  obtain ⟨A1, n1, c1, rfl⟩ := okWide_slice Try.underlying44 (hval 1 44 v1 rfl rfl)
  have k1 := h1
  have lt1 : ∀ x ∈ p1, x.block < W.heap.size := by obtain ⟨m, hm⟩ := k1; exact DataW.trod_lt m _ _ _ hm
  obtain ⟨fuel1, hf1⟩ := h1
  obtain ⟨l1, b1, u1, hd1⟩ := open_nums Try.underlying44 Try.underlying3 (by kernel_rfl) hf1
  have z1 : n1 * 8 ≤ 140737488351232 := by
    rcases hd1 with ⟨_, h⟩ | ⟨es, sp, h, hl⟩
    · omega
    · have hb : Try.prog.bytesOf 3 = 8 := by kernel_rfl
      have := sized_slice hsz (j := 1) (t := 44) (e := 3) (elems := es) (spare := sp) rfl (by simpa using h) Try.underlying44
      rw [hb] at this
      unfold reachBytes at this
      omega
  obtain ⟨a2, rfl, rfl, rfl, w2⟩ := open_int Try.underlying27 (hval 2 27 v2 rfl rfl) h2
  clear hA0
  refine (mergeParts_walk A0 n0 c0 l0 A1 n1 c1 l1 a2 W b0 z0 b1 z1 w2).mono fun e W' ⟨he, bel⟩ => ?_
  subst he
  exact ⟨_, rfl, _, _, _, [], _, [], hW', trodAll_mk1 (shut_bool Try.underlying4 _), (trodAll_cons_mk (Below.trod laidOut (by kernel_rfl) (of_decide_eq_true (by kernel_rfl)) k0 bel lt0) (trodAll_cons_mk (Below.trod laidOut (by kernel_rfl) (of_decide_eq_true (by kernel_rfl)) k1 bel lt1) (trodAll_cons_mk (shut_int Try.underlying27 w2) trodAll_mk0))), rfl, bel.frame _, fun h => by cases h⟩
set_option maxRecDepth 100000 in
theorem lifted (os : Os) (started : os.Started) (H : Type) (enc : TypeId × Value → H) :
    ReturnsInHanded {} Try.checked os 7 .any (Rows.mergePartsSpec.pre6 enc Try.prog Try.f7 Rows.mergePartsRow.domain false) (Rows.mergePartsSpec.post enc Try.prog Try.f7 false true false false) := by
  refine returnsInHanded_of_change_sized (C := Try.checked) ownKnob_none started (by kernel_rfl) Try.func7
    (ChangeSpec.witness6 (enc := enc) (C := Try.checked) false ⟨#[], #[.slice none 0 0, .slice none 0 0, .int .u64 0], []⟩ 8 (by kernel_rfl) (by kernel_rfl) (by kernel_rfl) (by kernel_rfl)) ?_
  intro W base args ds gs before hval hW _ hsz _
  exact contract H enc W base args ds gs before hval hW hsz
theorem over : Rows.mergePartsRow.holds Try.pinned (OpenSpec.ofChange Rows.mergePartsSpec) :=
  OpenClaim.holds_of_wide 7 Try.f7 rfl rfl rfl rfl rfl rfl rfl ⟨rfl, rfl, rfl, rfl, rfl⟩ rfl rfl rfl rfl rfl (by kernel_rfl) Try.func7 (by kernel_rfl)
    (of_decide_eq_true (by kernel_rfl)) (by unfold Func.isWrapper; first | (rw [if_pos (by decide +kernel)]; kernel_rfl) | (rw [if_neg (by decide +kernel)]; exact ⟨rfl, rfl⟩))
    (fun os started H enc _ => lifted os started H enc)
theorem proved : Rows.MergePartsSaid := over
#print axioms proved
end Go.Proofs.Ytemckkcbakccnaa.lawMergeParts
