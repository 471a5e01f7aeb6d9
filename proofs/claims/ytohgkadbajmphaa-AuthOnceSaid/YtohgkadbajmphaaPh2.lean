/- A writing operation in a statement walked by phases. -/
import Derived.Test.YtohgkadbajmphaaPh
namespace Go.Proofs.Ytohgkadbajmphaa
open Go.RowKit
set_option linter.unusedVariables false
theorem wpP_write {P : Program} {ops : Array Oper} {C : Nat → World → Prop} {Mu : List Nat} {rest : List Oper} {o : Oper} {a : Act} {Q : Nat → Act → Prop} {k p : Nat} (hw : Region.wanted o (yielded ops a.tmps) = true) (hk : Mu.contains k = true)
    (hr : ∀ w, C p w → ∃ w', (execOp a.eval o).run P w = .ok .skip w' ∧ C (p + 1) w') (h : wpP P ops C Mu Q rest (k + 1) (p + 1) (a.put o.dst undef)) : wpP P ops C Mu Q (o :: rest) k p a := by
  have hk' : k ∈ Mu := by simpa using hk
  unfold wpP
  rw [if_pos hw]
  refine ⟨undef, ?_, by unfold nextP; rw [if_pos hk']; exact h⟩
  unfold pat
  rw [if_pos hk']
  intro w hw'
  obtain ⟨w', h1, h2⟩ := hr w hw'
  rw [h1]
  exact ⟨h2, rfl⟩
end Go.Proofs.Ytohgkadbajmphaa
