/- A statement that draws its order, of which only one order is left once what yields the same in every world is taken: it is walked as a plain list of operations. -/
import Derived.Test.YtohgkadbajmphaaMem
import Derived.Deep.RegionLaw
namespace Go.Proofs.Ytohgkadbajmphaa
open Go.RowKit
set_option linter.unusedVariables false
section
variable {P : Program} {md : Region.Mode} {ops : Array Oper} {Q : Exit → Act → World → Prop}
def chainB (md : Region.Mode) (ops : Array Oper) : List Nat → Array Bool → Bool
  | [], listed => (Region.ready md ops listed).isEmpty
  | i :: L, listed => (Region.ready md ops listed == [i]) && chainB md ops L (listed.setIfInBounds i true)
theorem wpAny_chain : ∀ (L : List Nat) (fuel : Nat) (listed : Array Bool) (a : Act) (w : World), L.length ≤ fuel → (L.all fun i => (ops[i]?).isSome) = true → chainB md ops L listed = true →
    wpList P ops Q (L.filterMap fun i => ops[i]?) a w → wpAny P md ops Q fuel listed a w
  | [], fuel, listed, a, w, _, _, hc, h => wpAny_done (by simpa [chainB] using hc) h fuel
  | i :: L, 0, listed, a, w, hf, _, _, _ => by simp at hf
  | i :: L, fuel + 1, listed, a, w, hf, hs, hc, h => by
    simp only [chainB, Bool.and_eq_true, beq_iff_eq] at hc
    simp only [List.all_cons, Bool.and_eq_true] at hs
    obtain ⟨hs1, hs2⟩ := hs
    obtain ⟨o, ho⟩ := Option.isSome_iff_exists.1 hs1
    have ih := fun a w => wpAny_chain L fuel (listed.setIfInBounds i true) a w (by simp at hf; omega) hs2 hc.2
    refine wpAny_ready hc.1 (by simp) (fun j hj => ?_)
    obtain rfl : j = i := by simpa using hj
    rw [List.filterMap_cons, ho] at h
    simp only [wpList] at h
    unfold wpOp
    simp only [ho]
    split
    · rename_i hw
      rw [if_pos hw] at h
      exact h.imp (Oper.wp_mono fun a w h2 => ih a w h2) id
    · rename_i hw
      rw [if_neg hw] at h
      exact ih _ _ h
end
/-- what yields the same in every world, taken first -/
theorem wpAny_free {P : Program} {md : Region.Mode} {ops : Array Oper} {Q : Exit → Act → World → Prop} (i : Nat) {oi : Oper} (v : Value) {fuel : Nat} {listed : Array Bool} {a : Act} {w : World} (hi : ops[i]? = some oi)
    (hs : Region.noSelect ops = true) (hf : Region.free md ops listed i = true) (hr : (Region.ready md ops listed).contains i = true)
    (hQ : ∀ c a w, Q (.panic c) (a.put oi.dst v) w → Q (.panic c) a w) (hw : Region.wanted oi (yielded ops a.tmps) = true) (hy : ∀ w, (execOp a.eval oi).run P w = .ok (.value v) w)
    (h : wpAny P md ops Q fuel (listed.setIfInBounds i true) (a.put oi.dst v) w) : wpAny P md ops Q (fuel + 1) listed a w :=
  wpAny_take hi hs hf hr hQ (.inl ⟨hw, hy⟩) h
/-- a call whose answer is told by R -/
theorem wpList_callR {P : Program} {ops : Array Oper} {rest : List Oper} {o : Oper} {a : Act} {w : World} {Q : Exit → Act → World → Prop} (hw : Region.wanted o (yielded ops a.tmps) = true) (f : FuncId) (args : Array Value) (R : Value → World → Prop)
    (hr : (execOp a.eval o).run P w = .ok (.enter f args) w) (hc : Calls P f args w fun e w' => ∃ v, e = .returned v ∧ R v w') (h : ∀ v w', R v w' → wpList P ops Q rest (a.put o.dst v) w') : wpList P ops Q (o :: rest) a w := by
  unfold wpList
  rw [if_pos hw]
  left
  unfold Oper.wp
  rw [hr]
  simp only [Oper.upon]
  refine hc.mono ?_
  rintro e w' ⟨v, rfl, hR⟩
  exact h v w' hR
theorem wpList_nil {P : Program} {ops : Array Oper} {a : Act} {w : World} {Q : Exit → Act → World → Prop} (h : Q .normal a w) : wpList P ops Q [] a w := h
end Go.Proofs.Ytohgkadbajmphaa
