/- append of bytes as one step of a statement that draws its order. -/
import Derived.Test.YtohgkadbajmphaaBytes
import Derived.Deep.RegionLaw
namespace Go.Proofs.Ytohgkadbajmphaa
open Go.RowKit
theorem step_app8 {ops : Array Oper} {o : Oper} {a : Act} {w : World} {K : Act → World → Prop} {Q : Exit → Act → World → Prop} {E : Prop} (hg : o.guard = none) (s x : Operand) (xt : TypeId)
    (ho : o.op = .call { callee := .builtin .append, args := #[s, x], argTypes := #[31, xt] }) (hxt : (∃ e', Try.prog.underlying xt = some (.slice e')) ∨ Try.prog.underlying xt = some .string)
    (base : Nat) (A : Option Addr) (n cap : Nat) (l : List UInt8) (hs : a.eval s = .slice A n cap) (hown : OwnB w base A n cap l)
    (m : Nat) (r : List UInt8) (hsrc : Src Try.prog w 1 (a.eval x) m (r.map b8)) (hfit : n + m ≤ 140737488355328) (hbase : base ≤ w.heap.size)
    (h : ∀ A' cap' w', OwnB w' base A' (n + m) cap' (l ++ r) → w.grownBy w' (blk A) → Below base w w' → K (a.put o.dst (.slice A' (n + m) cap')) w') :
    if Region.wanted o (yielded ops a.tmps) = true then Oper.wp Try.prog o a w K Q else E := by
  have hw : Region.wanted o (yielded ops a.tmps) = true := by simp [Region.wanted, hg]
  rw [if_pos hw]
  obtain ⟨i0, hi, hz0, hz1, hz2⟩ := info_parts info_u8
  have hle := hown.le
  refine wp_append_gen w s x 31 xt ho base 5 i0 (.int .u8 0) 1 1 Try.underlying31 hxt hi hz0 hz1 hz2 rfl A n cap (l.map b8) hs hown m (r.map b8) hsrc (one_b8 r) ?_ ?_ hbase ?_
  · unfold maxLen; omega
  · by_cases hroom : n + m ≤ cap
    · exact .inl hroom
    · exact .inr (growslice_fits (by omega) (by omega))
  · intro A' cap' w' hO hg hor
    exact h A' cap' w' (by unfold OwnB; rw [List.map_append]; exact hO) hg (below_grown hg hbase fun g e => (hown.lt g e).1)
end Go.Proofs.Ytohgkadbajmphaa
