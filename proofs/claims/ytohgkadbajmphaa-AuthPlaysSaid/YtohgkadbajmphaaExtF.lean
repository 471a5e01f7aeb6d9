/- As Ext, but a slice that was made in the statement may have its block marked ('[]byte("..")' of a constant): cells stand, marks of fresh blocks may turn. -/
import Derived.Test.YtohgkadbajmphaaSl
namespace Go.Proofs.Ytohgkadbajmphaa.F
open Go.RowKit
set_option linter.unusedVariables false
/-- a step in a statement that began in w0: what stood then stands, all cells stand -/
def Gr (w0 w w' : World) : Prop := Below w0.heap.size w w' ∧ ∀ p : Addr, p.block < w.heap.size → w'.cell? p = w.cell? p
theorem Gr.refl (w0 w : World) : Gr w0 w w := ⟨Below.refl _ _, fun _ _ => rfl⟩
theorem Gr.trans {w0 a b c : World} (h : Gr w0 a b) (k : Gr w0 b c) : Gr w0 a c := ⟨Below.trans h.1 k.1, fun p hp => (k.2 p (Nat.lt_of_lt_of_le hp h.1.size)).trans (h.2 p hp)⟩
theorem Gr.of {w0 a b : World} (h0 : Grew w0 a) (h : Grew a b) : Gr w0 a b := ⟨Below.mono h h0.size, fun p hp => Below.cell h hp⟩
theorem Gr.then {w0 a b : World} (h0 : Grew w0 a) (h : Gr w0 a b) : Grew w0 b := Below.trans h0 h.1
theorem Sl.gr {w0 w w' : World} {A : Option Addr} {n c : Nat} {l : List UInt8} (h : Sl w w.heap.size A n c l) (hb : Gr w0 w w') : Sl w' w'.heap.size A n c l := ⟨h.1, h.2.1, h.2.2.1, (h.2.2.2.keep (fun p hp => hb.2 p hp)).more hb.1.size⟩
/-- the mark of a slice that holds l; b: its capacity is its length -/
def markB (b : Bool) (l : List UInt8) : Value := .tuple #[.string ⟨l.toArray⟩, .bool b]
def Fresh (w0 : World) (A : Option Addr) : Prop := ∀ ad, A = some ad → w0.heap.size ≤ ad.block
/-- r is what slot t holds where the model frame holds m: a slot of M holds nothing that is known, or a slice of the bytes that the mark tells -/
def Stands (w0 : World) (M : List Tmp) (t : Tmp) (m r : Value) (w : World) : Prop := if t ∈ M then (m = undef ∨ ∃ b l A n c, m = markB b l ∧ r = .slice A n c ∧ Sl w w.heap.size A n c l ∧ Fresh w0 A ∧ (b = true → c = n)) else m = r
theorem Stands.grew {w0 : World} {M : List Tmp} {t : Tmp} {m r : Value} {w w' : World} (h : Stands w0 M t m r w) (hg : Gr w0 w w') : Stands w0 M t m r w' := by
  unfold Stands at *
  split
  · rename_i ht
    rw [if_pos ht] at h
    rcases h with h | ⟨b, l, A, n, c, h1, h2, h3, h4⟩
    · exact .inl h
    · exact .inr ⟨b, l, A, n, c, h1, h2, Sl.gr h3 hg, h4⟩
  · rename_i ht
    rwa [if_neg ht] at h
theorem Stands.undef (w0 : World) (M : List Tmp) (t : Tmp) (w : World) : Stands w0 M t undef undef w := by
  unfold Stands
  split
  · exact .inl rfl
  · rfl
theorem Stands.of_not {w0 : World} {M : List Tmp} {t : Tmp} {m r : Value} {w : World} (ht : t ∉ M) : Stands w0 M t m r w ↔ m = r := by unfold Stands; rw [if_neg ht]
theorem Stands.of_mem {w0 : World} {M : List Tmp} {t : Tmp} {b : Bool} {l : List UInt8} {r : Value} {w : World} (ht : t ∈ M) : Stands w0 M t (markB b l) r w ↔ ∃ A n c, r = .slice A n c ∧ Sl w w.heap.size A n c l ∧ Fresh w0 A ∧ (b = true → c = n) := by
  unfold Stands
  rw [if_pos ht]
  constructor
  · rintro (h | ⟨b', l', A, n, c, h1, h2, h3, h5⟩)
    · cases h
    · unfold markB at h1
      simp only [Value.tuple.injEq] at h1
      have h4 : l = l' ∧ b = b' := by simpa using h1
      obtain ⟨rfl, rfl⟩ := h4
      exact ⟨A, n, c, h2, h3, h5⟩
  · rintro ⟨A, n, c, h2, h3, h5⟩
    exact .inr ⟨b, l, A, n, c, rfl, h2, h3, h5⟩
def StandsO (w0 : World) (M : List Tmp) (d : Option Tmp) (m r : Value) (w : World) : Prop := ∀ t, d = some t → Stands w0 M t m r w
section
variable {P : Program} {ops : Array Oper} {md : Region.Mode} {M : List Tmp} {w0 : World}
def Like (w0 : World) (M : List Tmp) (ts : List Tmp) (a a' : Act) (w : World) : Prop := ∀ t ∈ ts, Stands w0 M t (a.eval (.tmp t)) (a'.eval (.tmp t)) w
def outOk (P : Program) (w0 : World) (M : List Tmp) (d : Option Tmp) (w : World) (v : Value) : Result Next → Prop
  | .ok (.value u) w' => Gr w0 w w' ∧ StandsO w0 M d v u w'
  | .ok .skip w' => Gr w0 w w' ∧ v = undef
  | .ok (.enter f args) w' => w' = w ∧ Calls P f args w (fun e w'' => ∃ r, e = .returned r ∧ StandsO w0 M d v r w'' ∧ Gr w0 w w'')
  | _ => False
def xat (P : Program) (ops : Array Oper) (M : List Tmp) (w0 : World) (o : Oper) (a : Act) (v : Value) : Prop :=
  ∀ a' w, Grew w0 w → Like w0 M (o.looksAt ops) a a' w → outOk P w0 M o.dst w v ((execOp a'.eval o).run P w)
def xstep (P : Program) (ops : Array Oper) (M : List Tmp) (w0 : World) (o : Oper) (a : Act) (K : Act → Prop) : Prop := ∃ v, xat P ops M w0 o a v ∧ K (a.put o.dst v)
def wpX (P : Program) (ops : Array Oper) (M : List Tmp) (w0 : World) (Q : Act → Prop) : List Oper → Act → Prop
  | [], a => Q a
  | o :: rest, a => if Region.wanted o (yielded ops a.tmps) then xstep P ops M w0 o a (wpX P ops M w0 Q rest) else wpX P ops M w0 Q rest (a.put o.dst undef)
def xOp (P : Program) (ops : Array Oper) (M : List Tmp) (w0 : World) (i : Nat) (K : Act → Prop) (a : Act) : Prop :=
  match ops[i]? with
  | none => K a
  | some o => if Region.wanted o (yielded ops a.tmps) then xstep P ops M w0 o a K else K (a.put o.dst undef)
theorem xOp_mono {i : Nat} {a : Act} {K K' : Act → Prop} (h : ∀ a, K a → K' a) (hh : xOp P ops M w0 i K a) : xOp P ops M w0 i K' a := by
  unfold xOp at *
  split
  · exact h _ (by simpa [*] using hh)
  · rename_i o ho
    simp only [ho] at hh
    split
    · rename_i hw
      simp only [hw, if_true] at hh
      obtain ⟨v, h1, h2⟩ := hh
      exact ⟨v, h1, h _ h2⟩
    · rename_i hw; simp only [hw] at hh; exact h _ hh
def wpAnyX (P : Program) (md : Region.Mode) (ops : Array Oper) (M : List Tmp) (w0 : World) (Q : Act → Prop) : Nat → Array Bool → Act → Prop
  | 0, listed, a => Region.ready md ops listed = [] ∧ Q a
  | fuel + 1, listed, a =>
    (Region.ready md ops listed = [] → Q a) ∧
    ∀ i ∈ Region.ready md ops listed, xOp P ops M w0 i (wpAnyX P md ops M w0 Q fuel (listed.setIfInBounds i true)) a
/-- the real frame beside the model's -/
structure LikeAll (w0 : World) (M : List Tmp) (a a' : Act) (w : World) : Prop where
  size : a'.tmps.size = a.tmps.size
  defers : a'.defers = a.defers
  all : ∀ t, Stands w0 M t (a.eval (.tmp t)) (a'.eval (.tmp t)) w
theorem eval_some_put (a : Act) (d : Tmp) (v : Value) : (a.put (some d) v).eval (.tmp d) = if d < a.tmps.size then v else a.eval (.tmp d) := by
  by_cases h : d < a.tmps.size
  · simp [Act.eval, Act.put, h]
  · simp [Act.eval, Act.put, h]
theorem LikeAll.put {a a' : Act} {w w' : World} {d : Option Tmp} {v u : Value} (h : LikeAll w0 M a a' w) (hg : Gr w0 w w') (hs : StandsO w0 M d v u w') : LikeAll w0 M (a.put d v) (a'.put d u) w' := by
  refine ⟨?_, ?_, fun t => ?_⟩
  · cases d <;> simp [Act.put, h.size]
  · cases d <;> simp [Act.put, h.defers]
  · cases d with
    | none => exact (h.all t).grew hg
    | some d =>
      by_cases hd : d = t
      · subst hd
        rw [eval_some_put, eval_some_put, h.size]
        split
        · exact hs d rfl
        · exact (h.all d).grew hg
      · have e1 : (a.put (some d) v).eval (.tmp t) = a.eval (.tmp t) := Act.eval_put (fun d' e => by injection e with e; subst e; intro e2; injection e2 with e2; exact hd e2.symm)
        have e2 : (a'.put (some d) u).eval (.tmp t) = a'.eval (.tmp t) := Act.eval_put (fun d' e => by injection e with e; subst e; intro e2; injection e2 with e2; exact hd e2.symm)
        rw [e1, e2]
        exact (h.all t).grew hg
/-- no guard reads a slot of M -/
def guardsOk (M : List Tmp) (ops : Array Oper) : Bool := ops.all fun o => match o.guard with
  | none => true
  | some (g, _) => match (ops[g]?).bind (·.dst) with
    | none => true
    | some t => !M.contains t
theorem guardsOk_spec {o : Oper} {i : Nat} (h : guardsOk M ops = true) (ho : ops[i]? = some o) {g : Nat} {b : Bool} {t : Tmp} (hg : o.guard = some (g, b)) (ht : (ops[g]?).bind (·.dst) = some t) : t ∉ M := by
  have := Array.all_eq_true_iff_forall_mem.1 h o (Array.mem_of_getElem? ho)
  simp only [hg, ht] at this
  simpa using this
theorem wanted_like {o : Oper} {i : Nat} (hG : guardsOk M ops = true) (ho : ops[i]? = some o) {a a' : Act} {w : World} (h : LikeAll w0 M a a' w) : Region.wanted o (yielded ops a'.tmps) = Region.wanted o (yielded ops a.tmps) := by
  unfold Region.wanted
  cases hg : o.guard with
  | none => rfl
  | some gw =>
    obtain ⟨g, want⟩ := gw
    have hy : yielded ops a'.tmps g = yielded ops a.tmps g := by
      unfold yielded
      cases ht : (ops[g]?).bind (·.dst) with
      | none => rfl
      | some t =>
        simp only [Option.bind_some]
        have hsz := h.size
        have hst := h.all t
        simp only [Act.eval] at hst
        rcases Nat.lt_or_ge t a.tmps.size with hlt | hge
        · have hlt' : t < a'.tmps.size := by rw [h.size]; exact hlt
          simp only [Array.getD, hlt, hlt', dif_pos] at hst
          simp only [Array.getElem?_eq_getElem hlt, Array.getElem?_eq_getElem hlt']
          have e' : a.tmps[t] = a'.tmps[t] := (Stands.of_not (guardsOk_spec hG ho hg ht)).1 hst
          rw [e']
        · rw [Array.getElem?_eq_none hge, Array.getElem?_eq_none (by rw [h.size]; exact hge)]
    simp only [hy]
theorem wpOp_of_xOp (hG : guardsOk M ops = true) {i : Nat} {a a' : Act} {K : Act → Prop} {K' : Act → World → Prop} {Q' : Exit → Act → World → Prop} {w : World} (hC : Grew w0 w) (hl : LikeAll w0 M a a' w)
    (h : ∀ a a' w', Grew w0 w' → LikeAll w0 M a a' w' → K a → K' a' w') (hh : xOp P ops M w0 i K a) : wpOp P ops Q' i K' a' w := by
  unfold xOp at hh
  unfold wpOp
  split
  · rename_i ho; simp only [ho] at hh; exact h _ _ _ hC hl hh
  · rename_i o ho
    simp only [ho] at hh
    rw [wanted_like hG ho hl]
    split
    · rename_i hw
      simp only [hw, if_true] at hh
      obtain ⟨v, h1, h2⟩ := hh
      left
      have h3 := h1 a' w hC (fun t _ => hl.all t)
      unfold Oper.wp
      generalize (execOp a'.eval o).run P w = r at *
      cases r with
      | ok n w' =>
        cases n <;> simp only [outOk] at h3 <;> simp only [Oper.upon]
        case value u => exact h _ _ _ (Gr.then hC h3.1) (hl.put h3.1 h3.2) h2
        case skip =>
          obtain ⟨e1, e2⟩ := h3
          subst e2
          exact h _ _ _ (Gr.then hC e1) (hl.put e1 (fun t _ => Stands.undef w0 M t _)) h2
        case enter f args =>
          obtain ⟨e1, hc⟩ := h3
          rw [e1]
          refine hc.mono ?_
          rintro e w'' ⟨r, rfl, hs, hg⟩
          exact h _ _ _ (Gr.then hC hg) (hl.put hg hs) h2
      | halt x w' => simp only [outOk] at h3
    · rename_i hw
      simp only [hw] at hh
      exact h _ _ _ hC (hl.put (Gr.refl w0 w) (fun t _ => Stands.undef w0 M t _)) hh
theorem wpAny_of_x (hG : guardsOk M ops = true) {Q : Act → Prop} {Q' : Exit → Act → World → Prop} (hQ : ∀ a a' w, Grew w0 w → LikeAll w0 M a a' w → Q a → Q' .normal a' w) : ∀ (fuel : Nat) (listed : Array Bool) (a a' : Act) (w : World), Grew w0 w → LikeAll w0 M a a' w →
    wpAnyX P md ops M w0 Q fuel listed a → wpAny P md ops Q' fuel listed a' w
  | 0, _, _, _, _, hw, hl, h => ⟨h.1, hQ _ _ _ hw hl h.2⟩
  | fuel + 1, _, _, _, _, hw, hl, h => ⟨fun h0 => hQ _ _ _ hw hl (h.1 h0), fun i hi => wpOp_of_xOp hG hw hl (fun b b' w' hw' hl' => wpAny_of_x hG hQ fuel _ b b' w' hw' hl') (h.2 i hi)⟩
/-- at model frame a operation o comes out as v, in every world that grew -/
def YieldsX (P : Program) (ops : Array Oper) (M : List Tmp) (w0 : World) (o : Oper) (v : Value) (a : Act) : Prop :=
  (Region.wanted o (yielded ops a.tmps) = true ∧ xat P ops M w0 o a v) ∨ (Region.wanted o (yielded ops a.tmps) = false ∧ v = undef)
theorem YieldsX.xOp {i : Nat} {o : Oper} {v : Value} {a : Act} (hi : ops[i]? = some o) (hy : YieldsX P ops M w0 o v a) {K : Act → Prop} (h : K (a.put o.dst v)) : xOp P ops M w0 i K a := by
  unfold F.xOp
  simp only [hi]
  rcases hy with ⟨hw, hv⟩ | ⟨hw, rfl⟩
  · simp only [hw, if_true]; exact ⟨v, hv, h⟩
  · simp only [hw, Bool.false_eq_true, if_false]; exact h
theorem like_put {o : Oper} {a : Act} {d : Option Tmp} {u : Value} (h : ∀ t, d = some t → t ∉ o.looksAt ops) (a' : Act) (w : World) : Like w0 M (o.looksAt ops) (a.put d u) a' w ↔ Like w0 M (o.looksAt ops) a a' w := by
  have key : ∀ t ∈ o.looksAt ops, (a.put d u).eval (.tmp t) = a.eval (.tmp t) := fun t ht => Act.eval_put (fun d' e e2 => by injection e2 with e2; subst e2; exact h _ e ht)
  unfold Like
  exact ⟨fun k t ht => by rw [← key t ht]; exact k t ht, fun k t ht => by rw [key t ht]; exact k t ht⟩
theorem YieldsX.put {o : Oper} {v : Value} {a : Act} {d : Option Tmp} {u : Value} (h : ∀ t, d = some t → t ∉ o.looksAt ops) (hy : YieldsX P ops M w0 o v a) : YieldsX P ops M w0 o v (a.put d u) := by
  unfold YieldsX at *
  rw [wanted_put o a d u h]
  rcases hy with ⟨h1, h2⟩ | h1
  · exact .inl ⟨h1, fun a' w hw hl => h2 a' w hw ((like_put h a' w).1 hl)⟩
  · exact .inr h1
theorem yieldsX_of_xOp {i : Nat} {o : Oper} {a : Act} {K : Act → Prop} (hi : ops[i]? = some o) (h : xOp P ops M w0 i K a) : ∃ v, YieldsX P ops M w0 o v a ∧ K (a.put o.dst v) := by
  unfold xOp at h
  simp only [hi] at h
  by_cases hw : Region.wanted o (yielded ops a.tmps) = true
  · simp only [hw, if_true] at h
    obtain ⟨v, h1, h2⟩ := h
    exact ⟨v, .inl ⟨hw, h1⟩, h2⟩
  · simp only [hw] at h
    exact ⟨undef, .inr ⟨by simpa using hw, rfl⟩, h⟩
theorem xOp_put {j : Nat} {oi oj : Oper} {v : Value} (hj : ops[j]? = some oj) (hap : oi.apart ops oj = true) {K : Act → Prop} {a : Act}
    (hy : YieldsX P ops M w0 oi v a) (h : xOp P ops M w0 j K (a.put oi.dst v)) : xOp P ops M w0 j (fun a' => YieldsX P ops M w0 oi v a' ∧ K (a'.put oi.dst v)) a := by
  obtain ⟨h1, h2, h3⟩ := Oper.apart_spec hap
  unfold xOp at *
  simp only [hj] at *
  rw [wanted_put oj a oi.dst v h1] at h
  split
  · rename_i hw
    simp only [hw, if_true] at h
    obtain ⟨u, hu, hn⟩ := h
    exact ⟨u, fun a' w hw' hl => hu a' w hw' ((like_put h1 a' w).2 hl), hy.put h3, by rw [← Act.put_comm a v u h2]; exact hn⟩
  · rename_i hw
    simp only [hw] at h
    exact ⟨hy.put h3, by rw [← Act.put_comm a v undef h2]; exact h⟩
theorem wpAnyX_first {Q : Act → Prop} {i : Nat} {oi : Oper} {v : Value} (hi : ops[i]? = some oi) :
    ∀ (fuel : Nat) (listed : Array Bool) (a : Act),
      (∀ j oj, ops[j]? = some oj → j ≠ i → listed.getD j true = false → (∀ e ∈ oj.after, Region.binds md e = true → e.on ≠ i) → oi.apart ops oj = true) →
      i ∈ Region.ready md ops listed → YieldsX P ops M w0 oi v a →
      wpAnyX P md ops M w0 Q fuel (listed.setIfInBounds i true) (a.put oi.dst v) → wpAnyX P md ops M w0 Q (fuel + 1) listed a := by
  intro fuel
  induction fuel with
  | zero =>
    intro listed a _ hr hy H
    refine ⟨fun h => (by rw [h] at hr; cases hr), fun j hj => ?_⟩
    by_cases hji : j = i
    · subst hji; exact hy.xOp hi H
    · have := ready_mono hj hji
      rw [H.1] at this
      cases this
  | succ fuel ih =>
    intro listed a hfree hr hy H
    refine ⟨fun h => (by rw [h] at hr; cases hr), fun j hj => ?_⟩
    by_cases hji : j = i
    · subst hji; exact hy.xOp hi H
    · have h1 := H.2 j (ready_mono hj hji)
      obtain ⟨hjun, oj, hoj, hall⟩ := mem_ready.1 hj
      have hnot : ∀ e ∈ oj.after, Region.binds md e = true → e.on ≠ i := fun e he hb heq => by
        have h1 := hall e he hb
        have h0 := (mem_ready.1 hr).1
        rw [heq] at h1
        rcases Nat.lt_or_ge i listed.size with h' | h'
        · simp [h'] at h0 h1; rw [h0] at h1; cases h1
        · simp [Array.getElem?_eq_none h'] at h1
      have h2 := xOp_put hoj (hfree j oj hoj hji hjun hnot) hy h1
      have hfree' : ∀ k ok, ops[k]? = some ok → k ≠ i → (listed.setIfInBounds j true).getD k true = false →
          (∀ e ∈ ok.after, Region.binds md e = true → e.on ≠ i) → oi.apart ops ok = true := fun k ok hk hki hun hno => by
        refine hfree k ok hk hki ?_ hno
        by_cases hjk : j = k
        · subst hjk; exact hjun
        · rw [getD_set_ne true hjk] at hun; exact hun
      refine xOp_mono (fun a' h3 => ih (listed.setIfInBounds j true) a' hfree' (ready_mono hr (Ne.symm hji)) h3.1 ?_) h2
      rw [Array.setIfInBounds_comm _ _ hji]
      exact h3.2
theorem wpAnyX_lex {Q : Act → Prop} : ∀ (l : List Oper) (k : Nat) (listed : Array Bool) (a : Act), (∀ j, l[j]? = ops[k + j]?) →
    Region.lexFrom md ops l.length k listed = true → wpX P ops M w0 Q l a → wpAnyX P md ops M w0 Q l.length listed a
  | [], _, _, _, _, hB, h => ⟨by simpa [Region.lexFrom] using hB, h⟩
  | o :: l, k, listed, a, hl, hB, h => by
    have h0 : ops[k]? = some o := by simpa using (hl 0).symm
    simp only [List.length_cons, Region.lexFrom, Bool.and_eq_true] at hB
    obtain ⟨⟨hr, hf⟩, hB'⟩ := hB
    have hst : xOp P ops M w0 k (wpX P ops M w0 Q l) a := by unfold xOp; simp only [h0]; exact h
    obtain ⟨v, hy, hK⟩ := yieldsX_of_xOp h0 hst
    exact wpAnyX_first h0 l.length listed a (Region.free_spec h0 hf) (by simpa using hr) hy
      (wpAnyX_lex l (k + 1) _ _ (fun j => by have := hl (j + 1); simpa [Nat.add_assoc, Nat.add_comm 1 j] using this) hB' hK)
/-- the model's frame at the statement's head: nothing is known of the slots of M -/
def blank (M : List Tmp) (a : Act) : Act := M.foldl (fun b t => b.put (some t) undef) a
theorem eval_put_ne (a : Act) {d t : Tmp} (v : Value) (h : t ≠ d) : (a.put (some d) v).eval (.tmp t) = a.eval (.tmp t) := Act.eval_put (fun d' e => by injection e with e; subst e; intro e2; injection e2 with e2; exact h e2)
theorem blank_size : ∀ (M : List Tmp) (a : Act), (blank M a).tmps.size = a.tmps.size ∧ (blank M a).defers = a.defers
  | [], a => ⟨rfl, rfl⟩
  | t :: r, a => by
    have := blank_size r (a.put (some t) undef)
    unfold blank at *
    simp only [List.foldl_cons]
    rw [this.1, this.2]
    simp [Act.put]
theorem blank_out : ∀ (M : List Tmp) (a : Act) (t : Tmp), t ∉ M → (blank M a).eval (.tmp t) = a.eval (.tmp t)
  | [], a, t, _ => rfl
  | d :: r, a, t, h => by
    simp only [List.mem_cons, not_or] at h
    have e : blank (d :: r) a = blank r (a.put (some d) undef) := rfl
    rw [e, blank_out r _ t h.2, eval_put_ne a undef h.1]
theorem eval_put_undef (a : Act) (d : Tmp) : (a.put (some d) undef).eval (.tmp d) = undef := by
  rw [eval_some_put]
  split
  · rfl
  · rename_i h
    simp [Act.eval, h]
theorem blank_in : ∀ (M : List Tmp) (a : Act) (t : Tmp), t ∈ M → (blank M a).eval (.tmp t) = undef
  | d :: r, a, t, h => by
    have e : blank (d :: r) a = blank r (a.put (some d) undef) := rfl
    rw [e]
    by_cases hr : t ∈ r
    · exact blank_in r _ t hr
    · rw [blank_out r _ t hr]
      simp only [List.mem_cons] at h
      rcases h with rfl | h
      · exact eval_put_undef a t
      · exact absurd h hr
theorem like_blank (w0 : World) (M : List Tmp) (a : Act) (w : World) : LikeAll w0 M (blank M a) a w := by
  refine ⟨(blank_size M a).1.symm, (blank_size M a).2.symm, fun t => ?_⟩
  by_cases ht : t ∈ M
  · rw [blank_in M a t ht]
    unfold Stands
    rw [if_pos ht]
    exact .inl rfl
  · rw [blank_out M a t ht, Stands.of_not ht]
/-- the statement: walked once, in the order of the text -/
theorem wp_region_x (M : List Tmp) {id : Nat} {Q : Exit → Act → World → Prop} {a : Act} {w : World} {l : List Oper} (hm : P.follows .mixedOrders = true) (hB : Region.lexB .any l.toArray = true) (hG : guardsOk M l.toArray = true)
    (h : wpX P l.toArray M w (fun b => ∀ b' w', Grew w w' → LikeAll w M b b' w' → Q .normal b' w') l (blank M a)) : (Code.region id l.toArray true).wp P Q a w := by
  simp only [Region.lexB, Bool.and_eq_true] at hB
  refine wp_region_any hm (wpAny_of_x hG (M := M) (w0 := w) (Q := fun b => ∀ b' w', Grew w w' → LikeAll w M b b' w' → Q .normal b' w') (fun b b' w' hw hl h => h b' w' hw hl) _ _ (blank M a) a _ ⟨rfl, rfl, rfl, Nat.le_refl _, fun _ _ => rfl⟩ (like_blank w M a _) ?_)
  have := wpAnyX_lex (P := P) (M := M) (w0 := w) (md := .any) (ops := l.toArray) l 0 (Array.replicate l.toArray.size false) (blank M a) (by simp) (by simpa using hB.2) h
  simpa using this
/-- the real frame at the statement's end -/
def fill (f : Tmp → Value) (M : List Tmp) (a : Act) : Act := M.foldl (fun b t => b.put (some t) (f t)) a
theorem fill_size (f : Tmp → Value) : ∀ (M : List Tmp) (a : Act), (fill f M a).tmps.size = a.tmps.size ∧ (fill f M a).defers = a.defers
  | [], a => ⟨rfl, rfl⟩
  | t :: r, a => by
    have := fill_size f r (a.put (some t) (f t))
    have e : fill f (t :: r) a = fill f r (a.put (some t) (f t)) := rfl
    rw [e, this.1, this.2]
    simp [Act.put]
theorem fill_out (f : Tmp → Value) : ∀ (M : List Tmp) (a : Act) (t : Tmp), t ∉ M → (fill f M a).eval (.tmp t) = a.eval (.tmp t)
  | [], a, t, _ => rfl
  | d :: r, a, t, h => by
    simp only [List.mem_cons, not_or] at h
    have e : fill f (d :: r) a = fill f r (a.put (some d) (f d)) := rfl
    rw [e, fill_out f r _ t h.2, eval_put_ne a _ h.1]
theorem fill_in (f : Tmp → Value) : ∀ (M : List Tmp) (a : Act) (t : Tmp), t ∈ M → t < a.tmps.size → (fill f M a).eval (.tmp t) = f t
  | d :: r, a, t, h, hs => by
    have e : fill f (d :: r) a = fill f r (a.put (some d) (f d)) := rfl
    rw [e]
    by_cases hr : t ∈ r
    · exact fill_in f r _ t hr (by simpa [Act.put] using hs)
    · rw [fill_out f r _ t hr]
      simp only [List.mem_cons] at h
      rcases h with rfl | h
      · rw [eval_some_put, if_pos hs]
      · exact absurd h hr
theorem eval_get (b : Act) (t : Tmp) (h : t < b.tmps.size) : b.eval (.tmp t) = b.tmps[t] := by simp [Act.eval, Array.getD, h]
theorem LikeAll.end_ {a a' : Act} {w : World} (h : LikeAll w0 M a a' w) : ∃ f, a' = fill f M a := by
  refine ⟨fun t => a'.eval (.tmp t), ?_⟩
  have hsz := fill_size (fun t => a'.eval (.tmp t)) M a
  have key : a'.tmps = (fill (fun t => a'.eval (.tmp t)) M a).tmps := by
    apply Array.ext
    · rw [hsz.1, h.size]
    · intro t h1 h2
      have e1 := eval_get a' t h1
      have e2 := eval_get _ t h2
      rw [← e1, ← e2]
      by_cases ht : t ∈ M
      · rw [fill_in _ M a t ht (by rw [← h.size]; exact h1)]
      · rw [fill_out _ M a t ht]
        exact ((Stands.of_not ht).1 (h.all t)).symm
  have kd : a'.defers = (fill (fun t => a'.eval (.tmp t)) M a).defers := by rw [hsz.2, h.defers]
  generalize fill (fun t => a'.eval (.tmp t)) M a = b at key kd
  cases a'
  cases b
  simp only at key kd
  rw [key, kd]
/-! The laws of single operations. -/
variable {rest : List Oper} {o : Oper} {a : Act} {Q : Act → Prop}
theorem wpX_skip (hw : Region.wanted o (yielded ops a.tmps) = false) (h : wpX P ops M w0 Q rest (a.put o.dst undef)) : wpX P ops M w0 Q (o :: rest) a := by
  unfold wpX
  rw [if_neg (by rw [hw]; exact Bool.false_ne_true)]
  exact h
theorem like_same (hM : (o.looksAt ops).all (fun t => !M.contains t) = true) (hs : ∀ cs b, o.op ≠ .select cs b) {a' : Act} {w : World} (hl : Like w0 M (o.looksAt ops) a a' w) : execOp a'.eval o = execOp a.eval o :=
  execOp_congr o hs fun x hx => by
    cases x with
    | tmp t =>
      have ht : t ∈ o.looksAt ops := List.mem_append_left _ (List.mem_filterMap.2 ⟨.tmp t, by simpa using hx, rfl⟩)
      have h1 := List.all_eq_true.1 hM t ht
      exact ((Stands.of_not (by simpa using h1)).1 (hl t ht)).symm
    | _ => rfl
def dstOk (M : List Tmp) : Option Tmp → Bool
  | some t => !M.contains t
  | none => true
theorem stands_o (hD : dstOk M o.dst = true) (v : Value) (w : World) : StandsO w0 M o.dst v v w := fun t e => by
  rw [e] at hD
  exact (Stands.of_not (by simpa [dstOk] using hD)).2 rfl
/-- an operation that hands back a value and leaves the world alone -/
theorem wpX_value (v : Value) (hw : Region.wanted o (yielded ops a.tmps) = true) (hs : ∀ cs b, o.op ≠ .select cs b) (hM : (o.looksAt ops).all (fun t => !M.contains t) = true) (hD : dstOk M o.dst = true)
    (hr : ∀ x : GrewOf w0, (execOp a.eval o).run P x.1 = .ok (.value v) x.1) (h : wpX P ops M w0 Q rest (a.put o.dst v)) : wpX P ops M w0 Q (o :: rest) a := by
  unfold wpX
  rw [if_pos hw]
  refine ⟨v, fun a' w hg hl => ?_, h⟩
  rw [like_same hM hs hl, hr ⟨w, hg⟩]
  exact ⟨Gr.refl w0 w, stands_o hD v w⟩
/-- a call whose value is known -/
theorem wpX_call (v : Value) (f : FuncId) (args : Array Value) (hw : Region.wanted o (yielded ops a.tmps) = true) (hs : ∀ cs b, o.op ≠ .select cs b) (hM : (o.looksAt ops).all (fun t => !M.contains t) = true) (hD : dstOk M o.dst = true)
    (hr : ∀ x : GrewOf w0, (execOp a.eval o).run P x.1 = .ok (.enter f args) x.1)
    (hc : ∀ w, Grew w0 w → Calls P f args w fun e w'' => e = .returned v ∧ Grew w w'') (h : wpX P ops M w0 Q rest (a.put o.dst v)) : wpX P ops M w0 Q (o :: rest) a := by
  unfold wpX
  rw [if_pos hw]
  refine ⟨v, fun a' w hg hl => ?_, h⟩
  rw [like_same hM hs hl, hr ⟨w, hg⟩]
  refine ⟨rfl, (hc w hg).mono ?_⟩
  rintro e w'' ⟨rfl, hg'⟩
  exact ⟨v, rfl, stands_o hD v w'', Gr.of hg hg'⟩
/-- a call that hands back fresh bytes -/
theorem wpX_callM (l : List UInt8) (f : FuncId) (args : Array Value) (t : Tmp) (hw : Region.wanted o (yielded ops a.tmps) = true) (hs : ∀ cs b, o.op ≠ .select cs b) (hM : (o.looksAt ops).all (fun t => !M.contains t) = true) (hd : o.dst = some t) (ht : M.contains t = true)
    (hr : ∀ x : GrewOf w0, (execOp a.eval o).run P x.1 = .ok (.enter f args) x.1)
    (hc : ∀ w, Grew w0 w → Calls P f args w fun e w'' => ∃ A n c, e = .returned (.slice A n c) ∧ Sl w'' w''.heap.size A n c l ∧ Fresh w0 A ∧ Grew w w'') (h : wpX P ops M w0 Q rest (a.put (some t) (markB false l))) : wpX P ops M w0 Q (o :: rest) a := by
  unfold wpX
  rw [if_pos hw]
  refine ⟨markB false l, fun a' w hg hl => ?_, by rw [hd]; exact h⟩
  rw [like_same hM hs hl, hr ⟨w, hg⟩]
  refine ⟨rfl, (hc w hg).mono ?_⟩
  rintro e w'' ⟨A, n, c, rfl, hsl, hfr, hg'⟩
  refine ⟨_, rfl, fun t' e => ?_, Gr.of hg hg'⟩
  rw [hd] at e
  injection e with e
  subst e
  exact (Stands.of_mem (by simpa using ht)).2 ⟨A, n, c, rfl, hsl, hfr, by simp⟩
end
section
variable {ops : Array Oper} {M : List Tmp} {w0 : World} {rest : List Oper} {a : Act} {Q : Act → Prop} {dst : Option Tmp} {ty : TypeId} {x : Operand} {pos : String} {af : Array Edge} {g : Option (Nat × Bool)}
set_option maxRecDepth 100000 in
/-- string(b), b a slice that is known -/
theorem wpX_str8 (A : Option Addr) (n c B : Nat) (l : List UInt8) (hx : a.eval x = .slice A n c) (hw : Region.wanted ⟨dst, .convert 31 9 x, ty, pos, af, g⟩ (yielded ops a.tmps) = true)
    (hM : ((⟨dst, .convert 31 9 x, ty, pos, af, g⟩ : Oper).looksAt ops).all (fun t => !M.contains t) = true) (hD : dstOk M dst = true)
    (hn : l.length = n) (hB : B ≤ w0.heap.size) (hr : Row w0 B A (l.map b8)) (h : wpX Try.prog ops M w0 Q rest (a.put dst (.string ⟨l.toArray⟩))) :
    wpX Try.prog ops M w0 Q (⟨dst, .convert 31 9 x, ty, pos, af, g⟩ :: rest) a :=
  wpX_value (o := ⟨dst, .convert 31 9 x, ty, pos, af, g⟩) (.string ⟨l.toArray⟩) hw (by intros; simp) hM hD (fun y => by
    have hr' : Row y.1 B A (l.map b8) := hr.below (Below.mono y.2 hB)
    have := Row.toBytes (P := Try.prog) (c := c) 31 9 5 Try.underlying31 Try.underlying5 Try.underlying9 hn hr'
    simp only [execOp, hx, Sem.run_bind, this, Result.andThen_ok, Sem.run_pure]) h
set_option maxRecDepth 100000 in
/-- string(b), b fresh bytes that a mark stands for -/
theorem wpX_strM {t : Tmp} (b : Bool) (l : List UInt8) (hx : a.eval (.tmp t) = markB b l) (ht : M.contains t = true) (hw : Region.wanted ⟨dst, .convert 31 9 (.tmp t), ty, pos, af, g⟩ (yielded ops a.tmps) = true)
    (hD : dstOk M dst = true) (h : wpX Try.prog ops M w0 Q rest (a.put dst (.string ⟨l.toArray⟩))) :
    wpX Try.prog ops M w0 Q (⟨dst, .convert 31 9 (.tmp t), ty, pos, af, g⟩ :: rest) a := by
  unfold wpX
  rw [if_pos hw]
  refine ⟨.string ⟨l.toArray⟩, fun a' w hg hl => ?_, h⟩
  have h1 := hl t (List.mem_append_left _ (List.mem_filterMap.2 ⟨.tmp t, by simp [Op.operands], rfl⟩))
  rw [hx] at h1
  obtain ⟨A, n, c, hA, hsl, _⟩ := (Stands.of_mem (by simpa using ht)).1 h1
  have := Row.toBytes (P := Try.prog) (c := c) 31 9 5 Try.underlying31 Try.underlying5 Try.underlying9 hsl.1 hsl.2.2.2
  simp only [execOp, hA, Sem.run_bind, this, Result.andThen_ok, Sem.run_pure, outOk]
  exact ⟨Gr.refl w0 w, stands_o (o := ⟨dst, .convert 31 9 (.tmp t), ty, pos, af, g⟩) hD _ w⟩
end
section
variable {ops : Array Oper} {M : List Tmp} {w0 : World} {rest : List Oper} {a : Act} {Q : Act → Prop} {ty : TypeId} {pos : String} {af : Array Edge} {g : Option (Nat × Bool)}
/-- a row of constant bytes -/
theorem wpX_build {t : Tmp} {many : Nat} {parts : Array (Nat × Operand)} (l : List UInt8) (hw : Region.wanted ⟨some t, .buildSlice 31 many parts, ty, pos, af, g⟩ (yielded ops a.tmps) = true) (ht : M.contains t = true) (hm : l.length ≤ maxLen)
    (hr : ∀ (a' : Act) (w : World), (execOp a'.eval ⟨some t, .buildSlice 31 many parts, ty, pos, af, g⟩).run Try.prog w = .ok (.value (.slice (some ⟨w.heap.size, 0, none⟩) l.length l.length)) (w.alloc (.cells (l.map b8).toArray 5)))
    (h : wpX Try.prog ops M w0 Q rest (a.put (some t) (markB true l))) :
    wpX Try.prog ops M w0 Q (⟨some t, .buildSlice 31 many parts, ty, pos, af, g⟩ :: rest) a := by
  unfold wpX
  rw [if_pos hw]
  refine ⟨markB true l, fun a' w hg hl => ?_, h⟩
  rw [hr a' w]
  refine ⟨Gr.of hg ((Below.refl _ _).alloc (Nat.le_refl _) _), fun t' e => ?_⟩
  simp only [Option.some.injEq] at e
  subst e
  refine (Stands.of_mem (by simpa using ht)).2 ⟨_, _, _, rfl, ⟨rfl, Nat.le_refl _, hm, ?_⟩, fun ad e => ?_, fun _ => rfl⟩
  · have := Row.new w (l.map b8).toArray 5 (0, 0) (w.heap.size + 1) w.heap.size rfl (Nat.lt_succ_self _) (l.map b8) rfl
    exact this.more (by simp)
  · injection e with e
    subst e
    exact hg.size
theorem freeze_gr {w0 w : World} (hg : Grew w0 w) (b k : Nat) (hb : w0.heap.size ≤ b) : Gr w0 w (w.freeze ⟨b, k, none⟩ 1) := by
  have hh : (w.freeze ⟨b, k, none⟩ 1).heap.size = w.heap.size := by
    unfold World.freeze
    rw [if_neg (by decide)]
    simp
  have hblk : ∀ i, i ≠ b → (w.freeze ⟨b, k, none⟩ 1).heap[i]? = w.heap[i]? := fun i hi => by
    unfold World.freeze
    rw [if_neg (by decide)]
    simp only [Array.getElem?_modify]
    rw [if_neg (fun e => hi e.symm)]
  refine ⟨⟨rfl, rfl, rfl, by rw [hh]; exact Nat.le_refl _, fun i hi => hblk i (by omega)⟩, fun p hp => ?_⟩
  unfold World.cell?
  by_cases hpb : p.block = b
  · unfold World.freeze
    rw [if_neg (by decide)]
    simp only [Array.getElem?_modify]
    rw [if_pos hpb.symm]
    rcases hq : w.heap[p.block]? with _ | o
    · rfl
    · cases o <;> rfl
  · rw [hblk _ hpb]
set_option maxRecDepth 100000 in
/-- []byte("..") of a constant: the row's mark -/
theorem wpX_mark {t s : Tmp} (b : Bool) (l : List UInt8) (hx : a.eval (.tmp s) = markB b l) (hs : M.contains s = true) (hw : Region.wanted ⟨some t, .convert 31 31 (.tmp s), ty, pos, af, g⟩ (yielded ops a.tmps) = true) (ht : M.contains t = true) (hl0 : l ≠ [])
    (h : wpX Try.prog ops M w0 Q rest (a.put (some t) (markB b l))) :
    wpX Try.prog ops M w0 Q (⟨some t, .convert 31 31 (.tmp s), ty, pos, af, g⟩ :: rest) a := by
  unfold wpX
  rw [if_pos hw]
  refine ⟨markB b l, fun a' w hg hl => ?_, h⟩
  have h1 := hl s (List.mem_append_left _ (List.mem_filterMap.2 ⟨.tmp s, by simp [Op.operands], rfl⟩))
  rw [hx] at h1
  obtain ⟨A, n, c, hA, hsl, hfr, hcn⟩ := (Stands.of_mem (by simpa using hs)).1 h1
  rcases A with _ | ad
  · exfalso
    rcases l with _ | ⟨x, r⟩
    · exact hl0 rfl
    · obtain ⟨_, e, _⟩ := hsl.2.2.2 0 _ rfl
      cases e
  · have hb := hfr ad rfl
    have key : ∃ w', (convert 31 31 (.slice (some ad) n c)).run Try.prog w = .ok (.slice (some ad) n c) w' ∧ Gr w0 w w' := by
      cases hsh : w.shape? ad.block with
      | none => exact ⟨w, by simp [convert, run_underlying Try.underlying31, run_underlying Try.underlying5, markStringish, hsh], Gr.refl w0 w⟩
      | some q => exact ⟨w.freeze ⟨ad.block, q.2, none⟩ 1, by simp [convert, run_underlying Try.underlying31, run_underlying Try.underlying5, markStringish, hsh], freeze_gr hg _ _ hb⟩
    obtain ⟨w', hr, hgr⟩ := key
    simp only [execOp, hA, Sem.run_bind, hr, Result.andThen_ok, Sem.run_pure, outOk]
    refine ⟨hgr, fun t' e => ?_⟩
    simp only [Option.some.injEq] at e
    subst e
    exact (Stands.of_mem (by simpa using ht)).2 ⟨_, _, _, rfl, Sl.gr hsl hgr, hfr, hcn⟩
end
section
variable {P : Program} {ops : Array Oper} {M : List Tmp} {w0 : World} {rest : List Oper} {a : Act} {Q : Act → Prop} {o : Oper}
/-- a call whose arguments are read off the real frame: they may be slots of M -/
theorem wpX_callR (v : Value) (f : FuncId) (hw : Region.wanted o (yielded ops a.tmps) = true) (hD : dstOk M o.dst = true)
    (hc : ∀ (a' : Act) (w : World), Grew w0 w → Like w0 M (o.looksAt ops) a a' w → ∃ args, (execOp a'.eval o).run P w = .ok (.enter f args) w ∧ Calls P f args w fun e w'' => e = .returned v ∧ Grew w w'') (h : wpX P ops M w0 Q rest (a.put o.dst v)) : wpX P ops M w0 Q (o :: rest) a := by
  unfold wpX
  rw [if_pos hw]
  refine ⟨v, fun a' w hg hl => ?_, h⟩
  obtain ⟨args, hr, hcc⟩ := hc a' w hg hl
  rw [hr]
  refine ⟨rfl, hcc.mono ?_⟩
  rintro e w'' ⟨rfl, hg'⟩
  exact ⟨v, rfl, stands_o hD v w'', Gr.of hg hg'⟩
theorem like_mem {t : Tmp} {b : Bool} {l : List UInt8} {a' : Act} {w : World} (hl : Like w0 M (o.looksAt ops) a a' w) (ht : (o.looksAt ops).contains t = true) (hM : M.contains t = true) (hx : a.eval (.tmp t) = markB b l) : ∃ A n c, a'.eval (.tmp t) = .slice A n c ∧ Sl w w.heap.size A n c l := by
  have h1 := hl t (by simpa using ht)
  rw [hx] at h1
  obtain ⟨A, n, c, h2, h3, _⟩ := (Stands.of_mem (by simpa using hM)).1 h1
  exact ⟨A, n, c, h2, h3⟩
theorem like_not {t : Tmp} {a' : Act} {w : World} (hl : Like w0 M (o.looksAt ops) a a' w) (ht : (o.looksAt ops).contains t = true) (hM : M.contains t = false) : a'.eval (.tmp t) = a.eval (.tmp t) := by
  have h1 := hl t (by simpa using ht)
  exact ((Stands.of_not (by simpa using hM)).1 h1).symm
end
theorem run_append_empty (w : World) (A : Option Addr) (xt ty : TypeId) (hxt : (∃ e', Try.prog.underlying xt = some (.slice e')) ∨ Try.prog.underlying xt = some .string) (x : Value) (m : Nat) (r : List UInt8) (hsrc : Src Try.prog w 1 x m (r.map b8)) (hm : m ≤ 140737488355328) :
    ∃ A' cap' w', (Builtin.append_ #[31, xt] ty #[.slice A 0 0, x]).run Try.prog w = .ok (.slice A' m cap') w' ∧ Sl w' w'.heap.size A' m cap' r ∧ Grew w w' ∧ (A' = A ∨ A' = some ⟨w.heap.size, 0, none⟩) := by
  obtain ⟨i, hi, hz, hsize, hby⟩ := info_parts info_u8
  obtain ⟨hl, hlen, hcells⟩ := id hsrc
  have ht := Try.underlying31
  have hrl : r.length = m := by simpa using hl
  by_cases hm0 : m = 0
  · subst hm0
    obtain rfl : r = [] := List.eq_nil_of_length_eq_zero hrl
    have hr : (Builtin.append_ #[31, xt] ty #[.slice A 0 0, x]).run Try.prog w = .ok (.slice A 0 0) w := by
      have hc := hcells w rfl
      rcases hxt with ⟨e', hxd⟩ | hxd <;> cases A <;> simp [Builtin.append_, run_underlying ht, run_underlying hxd, sizeOf, typeInfo, hi, hlen, hsize, hc, storeCells]
    exact ⟨A, 0, w, hr, ⟨rfl, Nat.le_refl _, Nat.zero_le _, Row.nil⟩, Grew.refl w, .inl rfl⟩
  · have hold : ∀ W : World, (Builtin.firstCells 1 0 (.slice A 0 0)).run Try.prog W = .ok #[] W := fun W => by
      have := (Src.slice (P := Try.prog) (w := W) (B := 0) (size := 1) (m := 0) (c := 0) (A := A) (news := []) rfl Row.nil).2.2 W rfl
      simpa using this
    have hfit : Builtin.nextslicecap m 0 * 1 ≤ 281474976710656 := growslice_fits (by omega) (by omega)
    have h63' : ¬ (9223372036854775807 < (m : Int)) := by omega
    have h48' : ¬ (281474976710656 < Builtin.nextslicecap m 0 * i.bytes) := by rw [hby]; omega
    have hge := grownCap_ge w m 0 5
    have hr : (Builtin.append_ #[31, xt] ty #[.slice A 0 0, x]).run Try.prog w =
        .ok (.slice (some ⟨w.heap.size, 0, none⟩) m (grownCap w m 0 5)) (w.drew.alloc (.cells ((r.map b8).toArray ++ Builtin.zeroCells (Value.int .u8 0).cells (grownCap w m 0 5 - m)) 5)) := by
      rcases hxt with ⟨e', hxd⟩ | hxd
      all_goals
        simp [Builtin.append_, run_underlying ht, run_underlying hxd, sizeOf, typeInfo, zeroValue, hi, hz, hsize, hlen, hm0, h63', h48', Question.forced, hcells w.drew rfl, hold w.drew, newRow, grownCap]
    refine ⟨_, _, _, hr, ⟨hrl, hge, grownCap_le_maxLen w m 0 5 (by unfold maxLen; omega), ?_⟩, ⟨rfl, rfl, rfl, by simp, fun k hk => Below.heap_alloc w.drew _ k hk⟩, .inr rfl⟩
    intro j u hu
    refine ⟨_, rfl, by simp, ?_⟩
    rw [add_off]
    refine (cell_blk (g := w.heap.size) (heap_alloc_new w.drew _) (0 + j)).trans ?_
    rw [Nat.zero_add, ← Array.getElem?_toList]
    simp only [Array.toList_append]
    rw [List.getElem?_append_left (by simpa using (List.getElem?_eq_some_iff.1 hu).1)]
    exact hu
section
variable {ops : Array Oper} {M : List Tmp} {w0 : World} {rest : List Oper} {a : Act} {Q : Act → Prop} {o : Oper}
/-- append([]byte{}, x...), x a slice that came in -/
theorem wpX_app0 {t s : Tmp} (x : Operand) (hw : Region.wanted o (yielded ops a.tmps) = true)
    (ho : o.op = .call { callee := .builtin .append, args := #[.tmp s, x], argTypes := #[31, 31] }) (hd : o.dst = some t) (ht : M.contains t = true) (hs : M.contains s = true) (hx : a.eval (.tmp s) = markB true [])
    (A2 : Option Addr) (n2 c2 B : Nat) (l : List UInt8) (hxe : ∀ (a' : Act) (w : World), Like w0 M (o.looksAt ops) a a' w → a'.eval x = .slice A2 n2 c2) (hsl : Sl w0 B A2 n2 c2 l) (hB : B ≤ w0.heap.size) (hm : n2 ≤ 140737488355328) (hlk : (o.looksAt ops).contains s = true)
    (h : wpX Try.prog ops M w0 Q rest (a.put (some t) (markB false l))) : wpX Try.prog ops M w0 Q (o :: rest) a := by
  unfold wpX
  rw [if_pos hw]
  refine ⟨markB false l, fun a' w hg hl => ?_, by rw [hd]; exact h⟩
  have h1 := hl s (by simpa using hlk)
  rw [hx] at h1
  obtain ⟨A, n, c, hA, hs1, hfr, hcn⟩ := (Stands.of_mem (by simpa using hs)).1 h1
  obtain rfl : c = n := hcn rfl
  obtain rfl : c = 0 := by have := hs1.1; simpa using this.symm
  have hrow : Row w B A2 (l.map b8) := hsl.2.2.2.below (Below.mono hg hB)
  obtain ⟨A', cap', w', hr, hS', hG, hor⟩ := run_append_empty w A 31 o.type (.inl ⟨_, Try.underlying31⟩) (.slice A2 n2 c2) n2 l (Src.slice (by simp [hsl.1]) hrow) hm
  have hxe' := hxe a' w hl
  have hrun : (execOp a'.eval o).run Try.prog w = .ok (.value (.slice A' n2 cap')) w' := by
    unfold execOp
    simp only [ho, resolve, invoke, builtin, Sem.run_bind, Sem.run_pure, Result.andThen_ok, List.map_toArray, List.map_cons, List.map_nil, hA, hxe', hr]
  rw [hrun]
  refine ⟨Gr.of hg hG, fun t' e => ?_⟩
  rw [hd] at e
  injection e with e
  subst e
  refine (Stands.of_mem (by simpa using ht)).2 ⟨_, _, _, rfl, hS', ?_, by simp⟩
  rcases hor with rfl | rfl
  · exact hfr
  · intro ad e
    injection e with e
    subst e
    exact hg.size
end
theorem wpX_nil {P : Program} {ops : Array Oper} {M : List Tmp} {w0 : World} {a : Act} {Q : Act → Prop} (h : Q a) : wpX P ops M w0 Q [] a := h
attribute [irreducible] wpX
end Go.Proofs.Ytohgkadbajmphaa.F
