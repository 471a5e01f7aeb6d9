/- A statement that draws its order and holds writing calls that wait one for the other: one walk of the order of the text serves every order. -/
import Derived.Test.YtohgkadbajmphaaExt
namespace Go.Proofs.Ytohgkadbajmphaa
open Go.RowKit
set_option linter.unusedVariables false
section
variable {P : Program} {ops : Array Oper} {md : Region.Mode} {C : Nat → World → Prop} {Mu : List Nat}
def outP (P : Program) (C : Nat → World → Prop) (p' : Nat) (w : World) (v : Value) : Result Next → Prop
  | .ok (.value u) w' => C p' w' ∧ u = v
  | .ok .skip w' => C p' w' ∧ v = undef
  | .ok (.enter f args) w' => w' = w ∧ Calls P f args w (fun e w'' => e = .returned v ∧ C p' w'')
  | _ => False
def pat (P : Program) (C : Nat → World → Prop) (Mu : List Nat) (i : Nat) (o : Oper) (a : Act) (p : Nat) (v : Value) : Prop :=
  if i ∈ Mu then ∀ w, C p w → outP P C (p + 1) w v ((execOp a.eval o).run P w) else ∀ q w, C q w → outP P C q w v ((execOp a.eval o).run P w)
def nextP (Mu : List Nat) (i p : Nat) : Nat := if i ∈ Mu then p + 1 else p
def pOp (P : Program) (ops : Array Oper) (C : Nat → World → Prop) (Mu : List Nat) (i : Nat) (K : Nat → Act → Prop) (p : Nat) (a : Act) : Prop :=
  match ops[i]? with
  | none => K p a
  | some o => if Region.wanted o (yielded ops a.tmps) then ∃ v, pat P C Mu i o a p v ∧ K (nextP Mu i p) (a.put o.dst v) else K p (a.put o.dst undef)
def wpAnyP (P : Program) (md : Region.Mode) (ops : Array Oper) (C : Nat → World → Prop) (Mu : List Nat) (Q : Nat → Act → Prop) : Nat → Array Bool → Nat → Act → Prop
  | 0, listed, p, a => Region.ready md ops listed = [] ∧ Q p a
  | fuel + 1, listed, p, a =>
    (Region.ready md ops listed = [] → Q p a) ∧
    ∀ i ∈ Region.ready md ops listed, pOp P ops C Mu i (wpAnyP P md ops C Mu Q fuel (listed.setIfInBounds i true)) p a
/-- the walk in the order of the text; k: the operation's number -/
def wpP (P : Program) (ops : Array Oper) (C : Nat → World → Prop) (Mu : List Nat) (Q : Nat → Act → Prop) : List Oper → Nat → Nat → Act → Prop
  | [], _, p, a => Q p a
  | o :: rest, k, p, a => if Region.wanted o (yielded ops a.tmps) then ∃ v, pat P C Mu k o a p v ∧ wpP P ops C Mu Q rest (k + 1) (nextP Mu k p) (a.put o.dst v) else wpP P ops C Mu Q rest (k + 1) p (a.put o.dst undef)
/-- what is listed is closed downwards -/
def Down (md : Region.Mode) (ops : Array Oper) (listed : Array Bool) : Prop := ∀ j oj, ops[j]? = some oj → listed.getD j false = true → ∀ e ∈ oj.after, Region.binds md e = true → listed.getD e.on false = true
def waitsF (md : Region.Mode) (ops : Array Oper) (i : Nat) : Nat → Nat → Bool
  | 0, _ => false
  | f + 1, j => match ops[j]? with
    | none => false
    | some o => o.after.any fun e => Region.binds md e && (e.on == i || waitsF md ops i f e.on)
theorem waits_listed {i : Nat} {listed : Array Bool} (hd : Down md ops listed) : ∀ (f j : Nat) (oj : Oper), ops[j]? = some oj → (∀ e ∈ oj.after, Region.binds md e = true → listed.getD e.on false = true) → waitsF md ops i f j = true → listed.getD i false = true
  | 0, _, _, _, _, h => by simp [waitsF] at h
  | f + 1, j, oj, hj, hall, h => by
    simp only [waitsF, hj] at h
    obtain ⟨e, he, hb⟩ := Array.any_eq_true'.1 h
    simp only [Bool.and_eq_true, Bool.or_eq_true, beq_iff_eq] at hb
    obtain ⟨hb1, hb2⟩ := hb
    have h1 := hall e he hb1
    rcases hb2 with rfl | hb2
    · exact h1
    · rcases ho : ops[e.on]? with _ | oe
      · cases f <;> simp [waitsF, ho] at hb2
      · exact waits_listed hd f e.on oe ho (hd e.on oe ho h1) hb2
theorem Down.set {listed : Array Bool} {j : Nat} (hd : Down md ops listed) (hj : j ∈ Region.ready md ops listed) : Down md ops (listed.setIfInBounds j true) := by
  intro k ok hk hl e he hb
  by_cases hkj : j = k
  · subst hkj
    obtain ⟨_, oj, hoj, hall⟩ := mem_ready.1 hj
    rw [hk] at hoj
    injection hoj with hoj
    subst hoj
    exact getD_set_true (hall e he hb)
  · rw [getD_set_ne false hkj] at hl
    exact getD_set_true (hd k ok hk hl e he hb)
theorem pOp_mono {i p : Nat} {a : Act} {K K' : Nat → Act → Prop} (h : ∀ p a, K p a → K' p a) (hh : pOp P ops C Mu i K p a) : pOp P ops C Mu i K' p a := by
  unfold pOp at *
  split
  · exact h _ _ (by simpa [*] using hh)
  · rename_i o ho
    simp only [ho] at hh
    split
    · rename_i hw
      simp only [hw, if_true] at hh
      obtain ⟨v, h1, h2⟩ := hh
      exact ⟨v, h1, h _ _ h2⟩
    · rename_i hw; simp only [hw] at hh; exact h _ _ hh
theorem wpOp_of_pOp {i p : Nat} {a : Act} {K : Nat → Act → Prop} {K' : Act → World → Prop} {Q' : Exit → Act → World → Prop} {w : World} (hC : C p w)
    (h : ∀ p a w', C p w' → K p a → K' a w') (hh : pOp P ops C Mu i K p a) : wpOp P ops Q' i K' a w := by
  unfold pOp at hh
  unfold wpOp
  split
  · rename_i ho; simp only [ho] at hh; exact h _ _ _ hC hh
  · rename_i o ho
    simp only [ho] at hh
    split
    · rename_i hw
      simp only [hw, if_true] at hh
      obtain ⟨v, h1, h2⟩ := hh
      left
      have h3 : outP P C (nextP Mu i p) w v ((execOp a.eval o).run P w) := by
        unfold pat at h1
        unfold nextP
        split
        · rename_i hm; rw [if_pos hm] at h1; exact h1 w hC
        · rename_i hm; rw [if_neg hm] at h1; exact h1 p w hC
      unfold Oper.wp
      generalize (execOp a.eval o).run P w = r at *
      cases r with
      | ok n w' =>
        cases n <;> simp only [outP] at h3 <;> simp only [Oper.upon]
        case value u =>
          obtain ⟨e1, e2⟩ := h3
          subst e2
          exact h _ _ _ e1 h2
        case skip =>
          obtain ⟨e1, e2⟩ := h3
          subst e2
          exact h _ _ _ e1 h2
        case enter f args =>
          obtain ⟨e1, hc⟩ := h3
          rw [e1]
          refine hc.mono ?_
          rintro e w'' ⟨rfl, hg⟩
          exact h _ _ _ hg h2
      | halt x w' => simp only [outP] at h3
    · rename_i hw
      simp only [hw] at hh
      exact h _ _ _ hC hh
theorem wpAny_of_p {Q : Nat → Act → Prop} {Q' : Exit → Act → World → Prop} (hQ : ∀ p a w, C p w → Q p a → Q' .normal a w) : ∀ (fuel : Nat) (listed : Array Bool) (p : Nat) (a : Act) (w : World), C p w →
    wpAnyP P md ops C Mu Q fuel listed p a → wpAny P md ops Q' fuel listed a w
  | 0, _, _, _, _, hw, h => ⟨h.1, hQ _ _ _ hw h.2⟩
  | fuel + 1, _, _, _, _, hw, h => ⟨fun h0 => hQ _ _ _ hw (h.1 h0), fun i hi => wpOp_of_pOp hw (fun p b w' hw' => wpAny_of_p hQ fuel _ p b w' hw') (h.2 i hi)⟩
def YieldsP (P : Program) (ops : Array Oper) (C : Nat → World → Prop) (Mu : List Nat) (i : Nat) (o : Oper) (v : Value) (a : Act) (p p' : Nat) : Prop :=
  (Region.wanted o (yielded ops a.tmps) = true ∧ pat P C Mu i o a p v ∧ p' = nextP Mu i p) ∨ (Region.wanted o (yielded ops a.tmps) = false ∧ v = undef ∧ p' = p)
theorem YieldsP.pOp {i : Nat} {o : Oper} {v : Value} {a : Act} {p p' : Nat} (hi : ops[i]? = some o) (hy : YieldsP P ops C Mu i o v a p p') {K : Nat → Act → Prop} (h : K p' (a.put o.dst v)) : pOp P ops C Mu i K p a := by
  unfold Ytohgkadbajmphaa.pOp
  simp only [hi]
  rcases hy with ⟨hw, hv, rfl⟩ | ⟨hw, rfl, rfl⟩
  · simp only [hw, if_true]; exact ⟨v, hv, h⟩
  · simp only [hw, Bool.false_eq_true, if_false]; exact h
theorem yieldsP_of_pOp {i : Nat} {o : Oper} {a : Act} {p : Nat} {K : Nat → Act → Prop} (hi : ops[i]? = some o) (h : pOp P ops C Mu i K p a) : ∃ v p', YieldsP P ops C Mu i o v a p p' ∧ K p' (a.put o.dst v) := by
  unfold pOp at h
  simp only [hi] at h
  by_cases hw : Region.wanted o (yielded ops a.tmps) = true
  · simp only [hw, if_true] at h
    obtain ⟨v, h1, h2⟩ := h
    exact ⟨v, _, .inl ⟨hw, h1, rfl⟩, h2⟩
  · simp only [hw] at h
    exact ⟨undef, p, .inr ⟨by simpa using hw, rfl, rfl⟩, h⟩
theorem pat_put {i : Nat} {o : Oper} (hs : ∀ cs b, o.op ≠ .select cs b) {a : Act} {d : Option Tmp} {u : Value} (h : ∀ t, d = some t → t ∉ o.looksAt ops) {p : Nat} {v : Value} : pat P C Mu i o (a.put d u) p v ↔ pat P C Mu i o a p v := by
  unfold pat
  rw [execOp_put o hs a d u h]
theorem pat_any {i : Nat} {o : Oper} {a : Act} {v : Value} (hi : i ∉ Mu) {p q : Nat} (h : pat P C Mu i o a p v) : pat P C Mu i o a q v := by
  unfold pat at *
  rw [if_neg hi] at *
  exact h
theorem nextP_not {i : Nat} (hi : i ∉ Mu) (p : Nat) : nextP Mu i p = p := by unfold nextP; rw [if_neg hi]
theorem pOp_put {i j : Nat} {oi oj : Oper} {v : Value} (hj : ops[j]? = some oj) (hap : oi.apart ops oj = true) (hsi : ∀ cs b, oi.op ≠ .select cs b) (hsj : ∀ cs b, oj.op ≠ .select cs b) (hmu : ¬ (i ∈ Mu ∧ j ∈ Mu))
    {K : Nat → Act → Prop} {a : Act} {p p1 : Nat} (hy : YieldsP P ops C Mu i oi v a p p1) (h : pOp P ops C Mu j K p1 (a.put oi.dst v)) :
    pOp P ops C Mu j (fun q a' => ∃ q', YieldsP P ops C Mu i oi v a' q q' ∧ K q' (a'.put oi.dst v)) p a := by
  obtain ⟨h1, h2, h3⟩ := Oper.apart_spec hap
  have hp1 : i ∉ Mu → p1 = p := fun hi => by
    rcases hy with ⟨_, _, e⟩ | ⟨_, _, e⟩
    · rw [e, nextP_not hi]
    · exact e
  unfold pOp at *
  simp only [hj] at *
  rw [wanted_put oj a oi.dst v h1] at h
  split
  · rename_i hw
    simp only [hw, if_true] at h
    obtain ⟨u, hu, hn⟩ := h
    rw [pat_put hsj h1] at hu
    rw [Act.put_comm a v u h2] at hn
    by_cases hi : i ∈ Mu
    · have hjm : j ∉ Mu := fun hjm => hmu ⟨hi, hjm⟩
      rw [nextP_not hjm] at hn
      refine ⟨u, pat_any hjm hu, p1, ?_, hn⟩
      rw [nextP_not hjm]
      unfold YieldsP at *
      rw [wanted_put oi a oj.dst u h3, pat_put hsi h3]
      exact hy
    · have e := hp1 hi
      subst e
      refine ⟨u, hu, nextP Mu j p1, ?_, hn⟩
      unfold YieldsP at *
      rw [wanted_put oi a oj.dst u h3, pat_put hsi h3]
      rcases hy with ⟨k1, k2, _⟩ | ⟨k1, k2, _⟩
      · exact .inl ⟨k1, pat_any hi k2, (nextP_not hi _).symm⟩
      · exact .inr ⟨k1, k2, rfl⟩
  · rename_i hw
    simp only [hw] at h
    rw [Act.put_comm a v undef h2] at h
    refine ⟨p1, ?_, h⟩
    unfold YieldsP at *
    rw [wanted_put oi a oj.dst undef h3, pat_put hsi h3]
    exact hy
theorem wpAnyP_first {Q : Nat → Act → Prop} {i : Nat} {oi : Oper} {v : Value} (hi : ops[i]? = some oi) (hsel : ∀ (j : Nat) (o : Oper) cs b, ops[j]? = some o → o.op ≠ .select cs b)
    (hmu : i ∈ Mu → ∀ j ∈ Mu, j ≠ i → waitsF md ops i ops.size j = true ∨ waitsF md ops j ops.size i = true) :
    ∀ (fuel : Nat) (listed : Array Bool) (p p1 : Nat) (a : Act), Down md ops listed →
      (∀ j oj, ops[j]? = some oj → j ≠ i → listed.getD j true = false → (∀ e ∈ oj.after, Region.binds md e = true → e.on ≠ i) → oi.apart ops oj = true) →
      i ∈ Region.ready md ops listed → YieldsP P ops C Mu i oi v a p p1 →
      wpAnyP P md ops C Mu Q fuel (listed.setIfInBounds i true) p1 (a.put oi.dst v) → wpAnyP P md ops C Mu Q (fuel + 1) listed p a := by
  intro fuel
  induction fuel with
  | zero =>
    intro listed p p1 a _ _ hr hy H
    refine ⟨fun h => (by rw [h] at hr; cases hr), fun j hj => ?_⟩
    by_cases hji : j = i
    · subst hji; exact hy.pOp hi H
    · have := ready_mono hj hji
      rw [H.1] at this
      cases this
  | succ fuel ih =>
    intro listed p p1 a hdown hfree hr hy H
    refine ⟨fun h => (by rw [h] at hr; cases hr), fun j hj => ?_⟩
    by_cases hji : j = i
    · subst hji; exact hy.pOp hi H
    · have h1 := H.2 j (ready_mono hj hji)
      obtain ⟨hjun, oj, hoj, hall⟩ := mem_ready.1 hj
      have unl : ∀ k, listed.getD k true = false → listed.getD k false = true → False := fun k h0 h1 => by
        rcases Nat.lt_or_ge k listed.size with h' | h'
        · simp [h'] at h0 h1; rw [h0] at h1; cases h1
        · simp [Array.getElem?_eq_none h'] at h1
      have hiun := (mem_ready.1 hr).1
      have hnot : ∀ e ∈ oj.after, Region.binds md e = true → e.on ≠ i := fun e he hb heq => by
        have h1 := hall e he hb
        rw [heq] at h1
        exact unl i hiun h1
      have hnm : ¬ (i ∈ Mu ∧ j ∈ Mu) := fun ⟨hm1, hm2⟩ => by
        rcases hmu hm1 j hm2 hji with hw | hw
        · exact unl i hiun (waits_listed hdown _ j oj hoj hall hw)
        · obtain ⟨_, oi', hoi', halli⟩ := mem_ready.1 hr
          exact unl j hjun (waits_listed hdown _ i oi' hoi' halli hw)
      have h2 := pOp_put hoj (hfree j oj hoj hji hjun hnot) (fun cs b => hsel i oi cs b hi) (fun cs b => hsel j oj cs b hoj) hnm hy h1
      have hfree' : ∀ k ok, ops[k]? = some ok → k ≠ i → (listed.setIfInBounds j true).getD k true = false →
          (∀ e ∈ ok.after, Region.binds md e = true → e.on ≠ i) → oi.apart ops ok = true := fun k ok hk hki hun hno => by
        refine hfree k ok hk hki ?_ hno
        by_cases hjk : j = k
        · subst hjk; exact hjun
        · rw [getD_set_ne true hjk] at hun; exact hun
      refine pOp_mono (fun q a' h3 => ?_) h2
      obtain ⟨q', h4, h5⟩ := h3
      refine ih (listed.setIfInBounds j true) q q' a' (hdown.set hj) hfree' (ready_mono hr (Ne.symm hji)) h4 ?_
      rw [Array.setIfInBounds_comm _ _ hji]
      exact h5
def orderOk (md : Region.Mode) (ops : Array Oper) (Mu : List Nat) : Bool := Mu.all fun i => Mu.all fun j => j == i || waitsF md ops i ops.size j || waitsF md ops j ops.size i
theorem orderOk_spec (h : orderOk md ops Mu = true) (i : Nat) (hi : i ∈ Mu) (j : Nat) (hj : j ∈ Mu) (hne : j ≠ i) : waitsF md ops i ops.size j = true ∨ waitsF md ops j ops.size i = true := by
  have := List.all_eq_true.1 (List.all_eq_true.1 h i hi) j hj
  simpa [hne] using this
theorem wpAnyP_lex {Q : Nat → Act → Prop} (hs : Region.noSelect ops = true) (ho : orderOk md ops Mu = true) : ∀ (l : List Oper) (k : Nat) (listed : Array Bool) (p : Nat) (a : Act), Down md ops listed → (∀ j, l[j]? = ops[k + j]?) →
    Region.lexFrom md ops l.length k listed = true → wpP P ops C Mu Q l k p a → wpAnyP P md ops C Mu Q l.length listed p a
  | [], _, _, _, _, _, _, hB, h => ⟨by simpa [Region.lexFrom] using hB, h⟩
  | o :: l, k, listed, p, a, hd, hl, hB, h => by
    have h0 : ops[k]? = some o := by simpa using (hl 0).symm
    simp only [List.length_cons, Region.lexFrom, Bool.and_eq_true] at hB
    obtain ⟨⟨hr, hf⟩, hB'⟩ := hB
    have hst : pOp P ops C Mu k (wpP P ops C Mu Q l (k + 1)) p a := by unfold pOp; simp only [h0]; exact h
    obtain ⟨v, p', hy, hK⟩ := yieldsP_of_pOp h0 hst
    have hr' : k ∈ Region.ready md ops listed := by simpa using hr
    exact wpAnyP_first h0 (Region.noSelect_spec hs) (fun hi j hj hne => orderOk_spec ho k hi j hj hne) l.length listed p p' a hd (Region.free_spec h0 hf) hr' hy
      (wpAnyP_lex hs ho l (k + 1) _ _ _ (hd.set hr') (fun j => by have := hl (j + 1); simpa [Nat.add_assoc, Nat.add_comm 1 j] using this) hB' hK)
/-- the statement: walked once, in the order of the text; C p: the worlds behind p writing calls -/
theorem wp_region_p (C : Nat → World → Prop) (Mu : List Nat) {id : Nat} {Q : Exit → Act → World → Prop} {a : Act} {w : World} {l : List Oper} (hm : P.follows .mixedOrders = true) (hB : Region.lexB .any l.toArray = true) (ho : orderOk .any l.toArray Mu = true)
    (hC : C 0 { w with drawn := w.drawn + 1 }) (h : wpP P l.toArray C Mu (fun p b => ∀ w', C p w' → Q .normal b w') l 0 0 a) : (Code.region id l.toArray true).wp P Q a w := by
  simp only [Region.lexB, Bool.and_eq_true] at hB
  refine wp_region_any hm (wpAny_of_p (C := C) (Mu := Mu) (Q := fun p b => ∀ w', C p w' → Q .normal b w') (fun p b w' hw h => h w' hw) _ _ 0 a _ hC ?_)
  have hd : Down .any l.toArray (Array.replicate l.toArray.size false) := fun j oj _ hl => by
    have : (Array.replicate l.toArray.size false).getD j false = false := by
      simp only [Array.getD]
      split <;> simp
    rw [this] at hl
    cases hl
  have := wpAnyP_lex (P := P) (C := C) (Mu := Mu) (md := .any) (ops := l.toArray) hB.1 ho l 0 (Array.replicate l.toArray.size false) 0 a hd (by simp) (by simpa using hB.2) h
  simpa using this
/-! The laws of single operations. -/
def AnyOf (C : Nat → World → Prop) : Type := {x : Nat × World // C x.1 x.2}
variable {rest : List Oper} {o : Oper} {a : Act} {Q : Nat → Act → Prop} {k p : Nat}
theorem wpP_nil (h : Q p a) : wpP P ops C Mu Q [] k p a := h
theorem wpP_skip (hw : Region.wanted o (yielded ops a.tmps) = false) (h : wpP P ops C Mu Q rest (k + 1) p (a.put o.dst undef)) : wpP P ops C Mu Q (o :: rest) k p a := by
  unfold wpP
  rw [if_neg (by rw [hw]; exact Bool.false_ne_true)]
  exact h
theorem wpP_value (v : Value) (hw : Region.wanted o (yielded ops a.tmps) = true) (hk : Mu.contains k = false) (hr : ∀ x : AnyOf C, (execOp a.eval o).run P x.1.2 = .ok (.value v) x.1.2)
    (h : wpP P ops C Mu Q rest (k + 1) p (a.put o.dst v)) : wpP P ops C Mu Q (o :: rest) k p a := by
  have hk' : k ∉ Mu := by simpa using hk
  unfold wpP
  rw [if_pos hw]
  refine ⟨v, ?_, by rw [nextP_not hk']; exact h⟩
  unfold pat
  rw [if_neg hk']
  intro q w hc
  rw [hr ⟨(q, w), hc⟩]
  exact ⟨hc, rfl⟩
/-- a writing call -/
theorem wpP_call (v : Value) (f : FuncId) (args : Array Value) (hw : Region.wanted o (yielded ops a.tmps) = true) (hk : Mu.contains k = true) (hr : ∀ w, (execOp a.eval o).run P w = .ok (.enter f args) w)
    (hc : ∀ w, C p w → Calls P f args w fun e w'' => e = .returned v ∧ C (p + 1) w'') (h : wpP P ops C Mu Q rest (k + 1) (p + 1) (a.put o.dst v)) : wpP P ops C Mu Q (o :: rest) k p a := by
  have hk' : k ∈ Mu := by simpa using hk
  unfold wpP
  rw [if_pos hw]
  refine ⟨v, ?_, by unfold nextP; rw [if_pos hk']; exact h⟩
  unfold pat
  rw [if_pos hk']
  intro w hw'
  rw [hr w]
  exact ⟨rfl, hc w hw'⟩
end
attribute [irreducible] wpP
end Go.Proofs.Ytohgkadbajmphaa
