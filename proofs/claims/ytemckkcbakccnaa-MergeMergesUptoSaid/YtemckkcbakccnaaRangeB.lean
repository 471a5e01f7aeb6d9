/- A range over a function value that gives items, with a break: one way on behind it. -/
import Derived.Test.YtemckkcbakccnaaRangeI
import Derived.Test.YtemckkcbakccnaaRoundQuiet
namespace Go.Proofs.Ytemckkcbakccnaa
open Go.RowKit
set_option linter.unusedVariables false
/-- 'for x := range seq { .. break .. }' in its block: what follows is walked once -/
theorem wp_rangeIb (id p tz : Nat) {T : Array Value} {ds : List Deferred} {g : Operand} {assign body : Code} {Q : Exit → Act → World → Prop} {w : World} {gf : Nat} {lb : Array Value} {K : Nat → Prop} {xs : List It}
    (hg : ({ tmps := T, defers := ds } : Act).eval g = .func (.func gf) #[] lb) (eg : ∀ args w, (callFunc gf args).run Try.prog w = .ok (.enter gf args) w) (hK : ∀ g, K g → g < w.heap.size) (hseq : Gives Try.prog gf lb (fun x : It => #[iv x]) K xs w)
    (I Jx : List It → World → Prop) (hI : ∀ s W W', I s W → w.heap.size ≤ W.heap.size → Apart w.heap.size W W' → I s W') (hJ : ∀ s W W', Jx s W → w.heap.size ≤ W.heap.size → Apart w.heap.size W W' → Jx s W')
    (h0 : I [] w)
    (hassign : ∀ (l : Nat) (x : It) (W : World) (K' : Act → World → Prop), K' (actI T p tz x W.heap.size) (W.alloc (.cells #[.string ⟨x.key.toArray⟩, .int .u64 (x.seq : Int), .bool x.gone, .string ⟨x.val.toArray⟩] 29)) →
      assign.wpIn (Fence.wide.inRound l) 7 Try.prog (Exit.then K' (fun _ _ _ => False)) { tmps := T.setIfInBounds p (iv x), defers := [] } W)
    (hbody : ∀ (l : Nat) (pre : List It) (x : It) (b : Nat) (W : World), I pre W → w.heap.size ≤ W.heap.size → IBox W b x → w.heap.size ≤ b → pre.length < xs.length → body.wpIn (Fence.wide.inRound l) 7 Try.prog (roundPost K I (fun c s W => (c = .exit id ∧ Jx s W) ∨ ¬ s <+: xs) (pre ++ [x]) W) (actI T p tz x b) W)
    (hafter : ∀ (D : Nat) (W : World), w.heap.size ≤ D → w.heap.size ≤ W.heap.size → (I xs W ∨ ∃ pre, pre <+: xs ∧ Jx pre W) → W.heap[D]? = some (.deferred (some [])) → Q .normal { tmps := T, defers := { target := .collected D, args := #[] } :: ds } W) :
    (Code.block id (Code.rangeFunc g #[p] assign body)).wp Try.prog Q { tmps := T, defers := ds } w := by
  refine wp_block (wp_rangeIz p tz hg eg hK hseq I (fun c s W => (c = .exit id ∧ Jx s W) ∨ ¬ s <+: xs) hI (fun c s W W' h hs ha => h.imp (fun h => ⟨h.1, hJ s W W' h.2 hs ha⟩) (fun h => h)) h0 hassign hbody ?_ ?_)
  · intro D W h1 h2 h3 h4
    exact hafter D W h1 h2 (.inl h3) h4
  · intro D c pre W h1 h2 h3 h4 h5
    rcases h4 with ⟨rfl, h4⟩ | h4
    · refine wp_exit ?_
      show if id = id then _ else _
      rw [if_pos rfl]
      exact hafter D W h1 h2 (.inr ⟨pre, h3, h4⟩) h5
    · exact absurd h3 h4
theorem exec_loadI {o : Oper} {a : Act} {w : World} {g off : Nat} {x : It} (X : Operand) (ho : o.op = .load 29 X) (hx : a.eval X = .pointer (some ⟨g, off, none⟩)) (h : w.rangeAt g off (itv x)) : (execOp a.eval o).run Try.prog w = .ok (.value (iv x)) w := by
  unfold execOp
  simp only [ho, hx, Sem.run_bind, load_item h, Result.andThen_ok, Sem.run_pure]
theorem exec_neqI {o : Oper} {a : Act} {w : World} {x y : It} {rt : TypeId} (X Y : Operand) (ho : o.op = .binOp .neq 29 X Y rt) (hx : a.eval X = iv x) (hy : a.eval Y = iv y) : (execOp a.eval o).run Try.prog w = .ok (.value (.bool (!decide (x = y)))) w := by
  unfold execOp
  have hg : (eqGuard .neq 29 X Y (iv x) (iv y)).run Try.prog w = .ok () w := run_eqGuard_agg (w := w) _ _ _ _ _ _ Try.eqGuardType29
  simp only [ho, hx, hy, Sem.run_bind, hg, neq_item x y w, Result.andThen_ok, Sem.run_pure]
section
variable {F : Fence} {n : Nat} {ops : Array Oper} {Q : Act → Prop} {a : Act} {o : Oper} {rest : List Oper} {w : World}
/-- a whole item read, in a round's statement that draws its order -/
theorem wpQuietIn_loadI {g off : Nat} {x : It} (X : Operand) (ho : o.op = .load 29 X) (hx : a.eval X = .pointer (some ⟨g, off, none⟩)) (hr : w.rangeAt g off (itv x)) (hw : Region.wanted o (yielded ops a.tmps) = true)
    (h : wpQuietIn F n Try.prog ops (fun w' => ∃ n, w' = w.drewN n) Q rest (a.put o.dst (iv x))) : wpQuietIn F n Try.prog ops (fun w' => ∃ n, w' = w.drewN n) Q (o :: rest) a :=
  wpQuietIn_value (iv x) (by intro c hc; rw [ho] at hc; cases hc) hw (fun w' ⟨k, e⟩ => by subst e; exact exec_loadI X ho hx hr) h
/-- two items compared -/
theorem wpQuietIn_neqI {x y : It} {rt : TypeId} {b : Bool} (X Y : Operand) (ho : o.op = .binOp .neq 29 X Y rt) (hx : a.eval X = iv x) (hy : a.eval Y = iv y) (hb : (!decide (x = y)) = b) (hw : Region.wanted o (yielded ops a.tmps) = true)
    (h : wpQuietIn F n Try.prog ops (fun w' => ∃ n, w' = w.drewN n) Q rest (a.put o.dst (.bool b))) : wpQuietIn F n Try.prog ops (fun w' => ∃ n, w' = w.drewN n) Q (o :: rest) a :=
  wpQuietIn_value (.bool b) (by intro c hc; rw [ho] at hc; cases hc) hw (fun w' _ => by rw [← hb]; exact exec_neqI X Y ho hx hy) h
end
end Go.Proofs.Ytemckkcbakccnaa
