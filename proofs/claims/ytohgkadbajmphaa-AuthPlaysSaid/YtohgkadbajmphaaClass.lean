/- A statement that draws its order: what yields the same in all worlds of a class is taken first; what is left is walked step by step, each step staying in the class. -/
import Derived.Test.YtohgkadbajmphaaChain
import Derived.Test.YtohgkadbajmphaaExt
namespace Go.Proofs.Ytohgkadbajmphaa
open Go.RowKit
set_option linter.unusedVariables false
section
variable {P : Program} {ops : Array Oper} {md : Region.Mode} {C : World → Prop}
/-- o runs to its end in the class, K holds behind it -/
def cWp (P : Program) (C : World → Prop) (o : Oper) (a : Act) (w : World) (K : Act → World → Prop) : Prop := o.wp P a w (fun a' w' => C w' ∧ K a' w') (fun _ _ _ => False)
def cOp (P : Program) (ops : Array Oper) (C : World → Prop) (i : Nat) (K : Act → World → Prop) (a : Act) (w : World) : Prop :=
  match ops[i]? with
  | none => K a w
  | some o => if Region.wanted o (yielded ops a.tmps) then cWp P C o a w K else K (a.put o.dst undef) w
def wpAnyC (P : Program) (md : Region.Mode) (ops : Array Oper) (C : World → Prop) (Q : Act → World → Prop) : Nat → Array Bool → Act → World → Prop
  | 0, listed, a, w => Region.ready md ops listed = [] ∧ Q a w
  | fuel + 1, listed, a, w =>
    (Region.ready md ops listed = [] → Q a w) ∧
    ∀ i ∈ Region.ready md ops listed, cOp P ops C i (wpAnyC P md ops C Q fuel (listed.setIfInBounds i true)) a w
theorem not_lets : ¬ LetsOut (fun (_ : Exit) (_ : Act) (_ : World) => False) := fun ⟨_, _, h⟩ => h
theorem cWp_wp {o : Oper} {a : Act} {w : World} {K K' : Act → World → Prop} {Q : Exit → Act → World → Prop} (h : ∀ a w, C w → K a w → K' a w) (hh : cWp P C o a w K) : o.wp P a w K' Q := by
  unfold cWp Oper.wp at *
  generalize (execOp a.eval o).run P w = r at *
  cases r with
  | ok n w' =>
    cases n <;> simp only [Oper.upon] at hh ⊢
    case value u => exact h _ _ hh.1 hh.2
    case skip => exact h _ _ hh.1 hh.2
    case defer d => exact h _ _ hh.1 hh.2
    case enter f args =>
      refine hh.mono ?_
      intro e w'' h2
      cases e with
      | returned v => exact h _ _ h2.1 h2.2
      | panicked c => exact h2.elim
      | outgrown => exact (not_lets h2).elim
    case row row args => exact hh.mono fun v w'' h2 => h _ _ h2.1 h2.2
  | halt x w' =>
    cases x <;> simp only [Oper.upon] at hh
theorem cWp_mono {o : Oper} {a : Act} {w : World} {K K' : Act → World → Prop} (h : ∀ a w, C w → K a w → K' a w) (hh : cWp P C o a w K) : cWp P C o a w K' :=
  cWp_wp (Q := fun _ _ _ => False) (fun a w hc hk => ⟨hc, h a w hc hk⟩) hh
theorem cOp_mono {i : Nat} {a : Act} {w : World} {K K' : Act → World → Prop} (hC : C w) (h : ∀ a w, C w → K a w → K' a w) (hh : cOp P ops C i K a w) : cOp P ops C i K' a w := by
  unfold cOp at *
  split
  · exact h _ _ hC (by simpa [*] using hh)
  · rename_i o ho
    simp only [ho] at hh
    split
    · rename_i hw
      simp only [hw, if_true] at hh
      exact cWp_mono h hh
    · rename_i hw; simp only [hw] at hh; exact h _ _ hC hh
theorem wpAny_of_c {Q : Act → World → Prop} {Q' : Exit → Act → World → Prop} (hQ : ∀ a w, C w → Q a w → Q' .normal a w) : ∀ (fuel : Nat) (listed : Array Bool) (a : Act) (w : World), C w → wpAnyC P md ops C Q fuel listed a w → wpAny P md ops Q' fuel listed a w
  | 0, _, _, _, hC, h => ⟨h.1, hQ _ _ hC h.2⟩
  | fuel + 1, _, _, _, hC, h => ⟨fun h0 => hQ _ _ hC (h.1 h0), fun i hi => by
    have h2 := h.2 i hi
    unfold cOp at h2
    unfold wpOp
    split
    · rename_i ho; simp only [ho] at h2; exact wpAny_of_c hQ fuel _ _ _ hC h2
    · rename_i o ho
      simp only [ho] at h2
      split
      · rename_i hw
        simp only [hw, if_true] at h2
        exact .inl (cWp_wp (fun a w hc hk => wpAny_of_c hQ fuel _ a w hc hk) h2)
      · rename_i hw; simp only [hw] at h2; exact wpAny_of_c hQ fuel _ _ _ hC h2⟩
/-- in every world of the class o yields v -/
def YieldsC (P : Program) (ops : Array Oper) (C : World → Prop) (o : Oper) (v : Value) (a : Act) : Prop :=
  (Region.wanted o (yielded ops a.tmps) = true ∧ ∀ w, C w → (execOp a.eval o).run P w = .ok (.value v) w) ∨ (Region.wanted o (yielded ops a.tmps) = false ∧ v = undef)
theorem YieldsC.cOp {i : Nat} {o : Oper} {v : Value} {a : Act} {w : World} (hC : C w) (hi : ops[i]? = some o) (hy : YieldsC P ops C o v a) {K : Act → World → Prop} (h : K (a.put o.dst v) w) : cOp P ops C i K a w := by
  unfold Ytohgkadbajmphaa.cOp
  simp only [hi]
  rcases hy with ⟨hw, hv⟩ | ⟨hw, rfl⟩
  · simp only [hw, if_true]
    unfold cWp Oper.wp
    rw [hv w hC]
    exact ⟨hC, h⟩
  · simp only [hw, Bool.false_eq_true, if_false]; exact h
theorem YieldsC.put {o : Oper} (hs : ∀ cs b, o.op ≠ .select cs b) {v : Value} {a : Act} {d : Option Tmp} {u : Value} (h : ∀ t, d = some t → t ∉ o.looksAt ops) (hy : YieldsC P ops C o v a) : YieldsC P ops C o v (a.put d u) := by
  unfold YieldsC at *
  rw [wanted_put o a d u h, execOp_put o hs a d u h]
  exact hy
theorem cOp_put {j : Nat} {oi oj : Oper} {v : Value} (hj : ops[j]? = some oj) (hap : oi.apart ops oj = true) (hsj : ∀ cs b, oj.op ≠ .select cs b)
    {K : Act → World → Prop} {a : Act} {w : World} (h : cOp P ops C j K (a.put oi.dst v) w) : cOp P ops C j (fun a' w' => K (a'.put oi.dst v) w') a w := by
  obtain ⟨h1, h2, h3⟩ := Oper.apart_spec hap
  unfold cOp at *
  simp only [hj] at *
  rw [wanted_put oj a oi.dst v h1] at h
  split
  · rename_i hw
    simp only [hw, if_true] at h
    unfold cWp Oper.wp at *
    rw [execOp_put oj hsj a oi.dst v h1] at h
    generalize (execOp a.eval oj).run P w = r at *
    cases r with
    | ok n w' =>
      cases n <;> simp only [Oper.upon] at h ⊢
      case value u => rw [← Act.put_comm a v u h2]; exact h
      case skip => rw [← Act.put_comm a v undef h2]; exact h
      case defer d =>
        have e : ({ a.put oi.dst v with defers := d :: (a.put oi.dst v).defers } : Act) = ({ a with defers := d :: a.defers } : Act).put oi.dst v := by cases oi.dst <;> rfl
        rw [e, Act.put_comm _ v undef h2] at h
        exact h
      case enter f args =>
        refine h.mono ?_
        intro e w'' h4
        cases e with
        | returned u => simp only at h4 ⊢; rw [← Act.put_comm a v u h2]; exact h4
        | panicked c => exact h4
        | outgrown => exact h4
      case row row args => exact h.mono fun u w'' h4 => by rw [← Act.put_comm a v u h2]; exact h4
    | halt x w' => cases x <;> simp only [Oper.upon] at h
  · rename_i hw
    simp only [hw] at h
    rw [Act.put_comm a v undef h2] at h
    exact h
theorem wpAnyC_first {Q : Act → World → Prop} {i : Nat} {oi : Oper} {v : Value} (hi : ops[i]? = some oi) (hsel : ∀ (j : Nat) (o : Oper) cs b, ops[j]? = some o → o.op ≠ .select cs b) :
    ∀ (fuel : Nat) (listed : Array Bool) (a : Act) (w : World), C w →
      (∀ j oj, ops[j]? = some oj → j ≠ i → listed.getD j true = false → (∀ e ∈ oj.after, Region.binds md e = true → e.on ≠ i) → oi.apart ops oj = true) →
      i ∈ Region.ready md ops listed → YieldsC P ops C oi v a →
      wpAnyC P md ops C Q fuel (listed.setIfInBounds i true) (a.put oi.dst v) w → wpAnyC P md ops C Q (fuel + 1) listed a w := by
  intro fuel
  induction fuel with
  | zero =>
    intro listed a w hC _ hr hy H
    refine ⟨fun h => (by rw [h] at hr; cases hr), fun j hj => ?_⟩
    by_cases hji : j = i
    · subst hji; exact hy.cOp hC hi H
    · have := ready_mono hj hji
      rw [H.1] at this
      cases this
  | succ fuel ih =>
    intro listed a w hC hfree hr hy H
    refine ⟨fun h => (by rw [h] at hr; cases hr), fun j hj => ?_⟩
    by_cases hji : j = i
    · subst hji; exact hy.cOp hC hi H
    · have h1 := H.2 j (ready_mono hj hji)
      obtain ⟨hjun, oj, hoj, hall⟩ := mem_ready.1 hj
      have unl : ∀ k, listed.getD k true = false → listed.getD k false = true → False := fun k h0 h1 => by
        rcases Nat.lt_or_ge k listed.size with h' | h'
        · simp [h'] at h0 h1; rw [h0] at h1; cases h1
        · simp [Array.getElem?_eq_none h'] at h1
      have hiun := (mem_ready.1 hr).1
      have hnot : ∀ e ∈ oj.after, Region.binds md e = true → e.on ≠ i := fun e he hb heq => by
        have h1 := hall e he hb
        rw [heq] at h1
        exact unl i hiun h1
      have hap := hfree j oj hoj hji hjun hnot
      have h2 := cOp_put hoj hap (fun cs b => hsel j oj cs b hoj) h1
      have hfree' : ∀ k ok, ops[k]? = some ok → k ≠ i → (listed.setIfInBounds j true).getD k true = false →
          (∀ e ∈ ok.after, Region.binds md e = true → e.on ≠ i) → oi.apart ops ok = true := fun k ok hk hki hun hno => by
        refine hfree k ok hk hki ?_ hno
        by_cases hjk : j = k
        · subst hjk; exact hjun
        · rw [getD_set_ne true hjk] at hun; exact hun
      have key : ∀ a' w', C w' → (wpAnyC P md ops C Q fuel ((listed.setIfInBounds i true).setIfInBounds j true) (a'.put oi.dst v) w') → YieldsC P ops C oi v a' → wpAnyC P md ops C Q (fuel + 1) (listed.setIfInBounds j true) a' w' := fun a' w' hC' h3 hy' => by
        refine ih (listed.setIfInBounds j true) a' w' hC' hfree' (ready_mono hr (Ne.symm hji)) hy' ?_
        rw [Array.setIfInBounds_comm _ _ hji]
        exact h3
      obtain ⟨_, _, hap3⟩ := Oper.apart_spec hap
      have hys : ∀ u : Value, YieldsC P ops C oi v (a.put oj.dst u) := fun u => hy.put (fun cs b => hsel i oi cs b hi) hap3
      unfold cOp at h2 ⊢
      simp only [hoj] at h2 ⊢
      split
      · rename_i hw
        simp only [hw, if_true] at h2
        unfold cWp Oper.wp at h2 ⊢
        generalize (execOp a.eval oj).run P w = r at *
        cases r with
        | ok n w' =>
          cases n <;> simp only [Oper.upon] at h2 ⊢
          case value u => exact ⟨h2.1, key _ _ h2.1 h2.2 (hys u)⟩
          case skip => exact ⟨h2.1, key _ _ h2.1 h2.2 (hys undef)⟩
          case defer d =>
            refine ⟨h2.1, key _ _ h2.1 h2.2 ?_⟩
            have e : ({ a with defers := d :: a.defers } : Act).put oj.dst undef = { a.put oj.dst undef with defers := d :: a.defers } := by cases oj.dst <;> rfl
            rw [e]
            exact hys undef
          case enter f args =>
            refine h2.mono ?_
            intro e w'' h4
            cases e with
            | returned u => exact ⟨h4.1, key _ _ h4.1 h4.2 (hys u)⟩
            | panicked c => exact h4
            | outgrown => exact h4
          case row row args => exact h2.mono fun u w'' h4 => ⟨h4.1, key _ _ h4.1 h4.2 (hys u)⟩
        | halt x w' => cases x <;> simp only [Oper.upon] at h2
      · rename_i hw
        simp only [hw] at h2
        exact key _ _ hC h2 (hys undef)
/-- what yields the same in all worlds of the class, taken first -/
theorem wpAnyC_free {Q : Act → World → Prop} (i : Nat) {oi : Oper} (v : Value) {fuel : Nat} {listed : Array Bool} {a : Act} {w : World} (hi : ops[i]? = some oi)
    (hs : Region.noSelect ops = true) (hf : Region.free md ops listed i = true) (hr : (Region.ready md ops listed).contains i = true) (hC : C w)
    (hw : Region.wanted oi (yielded ops a.tmps) = true) (hy : ∀ x : { x : World // C x }, (execOp a.eval oi).run P x.1 = .ok (.value v) x.1)
    (h : wpAnyC P md ops C Q fuel (listed.setIfInBounds i true) (a.put oi.dst v) w) : wpAnyC P md ops C Q (fuel + 1) listed a w :=
  wpAnyC_first hi (Region.noSelect_spec hs) fuel listed a w hC (Region.free_spec hi hf) (by simpa using hr) (.inl ⟨hw, fun w hw => hy ⟨w, hw⟩⟩) h
/-- the one step that may come now -/
theorem wpAnyC_step {Q : Act → World → Prop} (i : Nat) {o : Oper} {fuel : Nat} {listed : Array Bool} {a : Act} {w : World} (hi : ops[i]? = some o) (hr : (Region.ready md ops listed == [i]) = true)
    (hw : Region.wanted o (yielded ops a.tmps) = true)
    (h : wpList P ops (fun x a' w' => x = .normal ∧ C w' ∧ wpAnyC P md ops C Q fuel (listed.setIfInBounds i true) a' w') [o] a w) : wpAnyC P md ops C Q (fuel + 1) listed a w := by
  have hr : Region.ready md ops listed = [i] := by simpa using hr
  refine ⟨fun h0 => (by rw [hr] at h0; cases h0), fun j hj => ?_⟩
  obtain rfl : j = i := by rw [hr] at hj; simpa using hj
  unfold cOp
  simp only [hi, hw, if_true]
  unfold wpList at h
  rw [if_pos hw] at h
  rcases h with h | ⟨_, _, _, h, _⟩
  · unfold cWp
    unfold Oper.wp at h ⊢
    generalize (execOp a.eval o).run P w = r at *
    cases r with
    | ok n w' =>
      cases n <;> simp only [Oper.upon] at h ⊢
      case value u => exact ⟨h.2.1, h.2.2⟩
      case skip => exact ⟨h.2.1, h.2.2⟩
      case defer d => exact ⟨h.2.1, h.2.2⟩
      case enter f args =>
        refine h.mono ?_
        intro e w'' h4
        cases e with
        | returned u => exact ⟨h4.2.1, h4.2.2⟩
        | panicked c => exact absurd h4.1 (by simp)
        | outgrown => obtain ⟨_, _, h5, _⟩ := h4; exact absurd h5 (by simp)
      case row row args => exact h.mono fun u w'' h4 => ⟨h4.2.1, h4.2.2⟩
    | halt x w' =>
      cases x <;> simp only [Oper.upon] at h
      exact absurd h.1 (by simp)
  · exact absurd h (by simp)
/-- two steps may come now: either -/
theorem wpAnyC_fork {Q : Act → World → Prop} (i j : Nat) {oi oj : Oper} {fuel : Nat} {listed : Array Bool} {a : Act} {w : World} (hi : ops[i]? = some oi) (hj : ops[j]? = some oj) (hr : (Region.ready md ops listed == [i, j]) = true)
    (h1 : cOp P ops C i (wpAnyC P md ops C Q fuel (listed.setIfInBounds i true)) a w) (h2 : cOp P ops C j (wpAnyC P md ops C Q fuel (listed.setIfInBounds j true)) a w) : wpAnyC P md ops C Q (fuel + 1) listed a w := by
  have hr : Region.ready md ops listed = [i, j] := by simpa using hr
  refine ⟨fun h0 => (by rw [hr] at h0; cases h0), fun k hk => ?_⟩
  rw [hr] at hk
  simp at hk
  rcases hk with rfl | rfl
  · exact h1
  · exact h2
/-- one step, taken -/
theorem cOp_list {K : Act → World → Prop} (i : Nat) {o : Oper} {a : Act} {w : World} (hi : ops[i]? = some o) (hw : Region.wanted o (yielded ops a.tmps) = true)
    (h : wpList P ops (fun x a' w' => x = .normal ∧ C w' ∧ K a' w') [o] a w) : cOp P ops C i K a w := by
  unfold cOp
  simp only [hi, hw, if_true]
  unfold wpList at h
  rw [if_pos hw] at h
  rcases h with h | ⟨_, _, _, h, _⟩
  · unfold cWp
    unfold Oper.wp at h ⊢
    generalize (execOp a.eval o).run P w = r at *
    cases r with
    | ok n w' =>
      cases n <;> simp only [Oper.upon] at h ⊢
      case value u => exact ⟨h.2.1, h.2.2⟩
      case skip => exact ⟨h.2.1, h.2.2⟩
      case defer d => exact ⟨h.2.1, h.2.2⟩
      case enter f args =>
        refine h.mono ?_
        intro e w'' h4
        cases e with
        | returned u => exact ⟨h4.2.1, h4.2.2⟩
        | panicked c => exact absurd h4.1 (by simp)
        | outgrown => obtain ⟨_, _, h5, _⟩ := h4; exact absurd h5 (by simp)
      case row row args => exact h.mono fun u w'' h4 => ⟨h4.2.1, h4.2.2⟩
    | halt x w' =>
      cases x <;> simp only [Oper.upon] at h
      exact absurd h.1 (by simp)
  · exact absurd h (by simp)
theorem wpAnyC_done {Q : Act → World → Prop} {listed : Array Bool} {a : Act} {w : World} (hr : (Region.ready md ops listed == []) = true) (h : Q a w) : ∀ fuel, wpAnyC P md ops C Q fuel listed a w
  | 0 => ⟨by simpa using hr, h⟩
  | _ + 1 => ⟨fun _ => h, by have : Region.ready md ops listed = [] := by simpa using hr
                             rw [this]; simp⟩
theorem wp_region_c (C : World → Prop) {id : Nat} {Q : Exit → Act → World → Prop} {a : Act} {w : World} {ops : Array Oper} (hm : P.follows .mixedOrders = true) (hC : C { w with drawn := w.drawn + 1 })
    (h : wpAnyC P .any ops C (fun a' w' => C w' → Q .normal a' w') ops.size (Array.replicate ops.size false) a { w with drawn := w.drawn + 1 }) : (Code.region id ops true).wp P Q a w :=
  wp_region_any hm (wpAny_of_c (Q := fun a' w' => C w' → Q .normal a' w') (fun _ _ hc h => h hc) _ _ a _ hC h)
end
end Go.Proofs.Ytohgkadbajmphaa
