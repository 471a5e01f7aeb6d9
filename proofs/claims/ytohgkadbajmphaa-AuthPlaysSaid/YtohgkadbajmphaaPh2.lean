/- A writing operation in a statement walked by phases. -/
import Derived.Test.YtohgkadbajmphaaPh
namespace Go.Proofs.Ytohgkadbajmphaa
open Go.RowKit
set_option linter.unusedVariables false
theorem wpP_write {P : Program} {ops : Array Oper} {C : Nat → World → Prop} {Mu : List Nat} {rest : List Oper} {o : Oper} {a : Act} {Q : Nat → Act → Prop} {k p : Nat} (hw : Region.wanted o (yielded ops a.tmps) = true) (hk : Mu.contains k = true)
    (hr : ∀ w, C p w → ∃ w', (execOp a.eval o).run P w = .ok .skip w' ∧ C (p + 1) w') (h : wpP P ops C Mu Q rest (k + 1) (p + 1) (a.put o.dst undef)) : wpP P ops C Mu Q (o :: rest) k p a := by
  have hk' : k ∈ Mu := by simpa using hk
  unfold wpP
  rw [if_pos hw]
  refine ⟨undef, ?_, by unfold nextP; rw [if_pos hk']; exact h⟩
  unfold pat
  rw [if_pos hk']
  intro w hw'
  obtain ⟨w', h1, h2⟩ := hr w hw'
  rw [h1]
  exact ⟨h2, rfl⟩
/-- an operation that reads what a later one writes: a phase of its own -/
theorem wpP_read {P : Program} {ops : Array Oper} {C : Nat → World → Prop} {Mu : List Nat} {rest : List Oper} {o : Oper} {a : Act} {Q : Nat → Act → Prop} {k p : Nat} (v : Value) (hw : Region.wanted o (yielded ops a.tmps) = true) (hk : Mu.contains k = true)
    (hr : ∀ w, C p w → (execOp a.eval o).run P w = .ok (.value v) w ∧ C (p + 1) w) (h : wpP P ops C Mu Q rest (k + 1) (p + 1) (a.put o.dst v)) : wpP P ops C Mu Q (o :: rest) k p a := by
  have hk' : k ∈ Mu := by simpa using hk
  unfold wpP
  rw [if_pos hw]
  refine ⟨v, ?_, by unfold nextP; rw [if_pos hk']; exact h⟩
  unfold pat
  rw [if_pos hk']
  intro w hw'
  obtain ⟨h1, h2⟩ := hr w hw'
  rw [h1]
  exact ⟨h2, rfl⟩
/-- a call that any phase bears -/
theorem wpP_callN {P : Program} {ops : Array Oper} {C : Nat → World → Prop} {Mu : List Nat} {rest : List Oper} {o : Oper} {a : Act} {Q : Nat → Act → Prop} {k p : Nat} (v : Value) (f : FuncId) (args : Array Value) (hw : Region.wanted o (yielded ops a.tmps) = true) (hk : Mu.contains k = false) (hr : ∀ w, (execOp a.eval o).run P w = .ok (.enter f args) w)
    (hc : ∀ q w, C q w → Calls P f args w fun e w'' => e = .returned v ∧ C q w'') (h : wpP P ops C Mu Q rest (k + 1) p (a.put o.dst v)) : wpP P ops C Mu Q (o :: rest) k p a := by
  have hk' : k ∉ Mu := by simpa using hk
  unfold wpP
  rw [if_pos hw]
  refine ⟨v, ?_, by unfold nextP; rw [if_neg hk']; exact h⟩
  unfold pat
  rw [if_neg hk']
  intro q w hw'
  rw [hr w]
  exact ⟨rfl, hc q w hw'⟩
end Go.Proofs.Ytohgkadbajmphaa
