/- A map from texts to bools, used as a set. -/
import Derived.Test.YtemckkcbakccnaaItem
import Derived.Maps.OwnSet
namespace Go.Proofs.Ytemckkcbakccnaa
open Go.RowKit Go.Maps
set_option linter.unusedVariables false
theorem keyed_s : Keyed Try.prog 9 := string_keyed Try.underlying9
theorem zero_b (w : World) : (zeroValue 4).run Try.prog w = .ok (.bool false) w := by kernel_rfl
/-- how an element of a set reads: it is true -/
def trueElem (v : Value) : Option (DataW Unit × List MemPlace) := match v with
  | .bool true => some (.lit (.bool true), [])
  | _ => none
theorem trueElem_inv {v : Value} {z : DataW Unit × List MemPlace} (h : trueElem v = some z) : v = .bool true ∧ z = (.lit (.bool true), []) := by
  unfold trueElem at h
  split at h
  · cases h; exact ⟨rfl, rfl⟩
  · cases h
/-- block b is a map of at most n texts: those of S -/
def Met (w : World) (b n : Nat) (S : List UInt8 → Bool) : Prop := ∃ D : DataW Unit, w.ownsMap Try.prog 9 trueElem b n D ∧ ∀ key : List UInt8, Maps.has D (.string key) = S key
section
variable {w w' : World} {b n : Nat} {S : List UInt8 → Bool}
theorem met_made (w : World) : Met (w.alloc (.map #[] 0)) w.heap.size 0 fun _ => false :=
  ⟨_, World.ownsMap_made w _ _ _, fun key => rfl⟩
theorem Met.kept {row : Option Nat} (h : Met w b n S) (hg : w.grownBy w' row) (hne : some b ≠ row) : Met w' b n S := by
  obtain ⟨D, h1, h2⟩ := h
  exact ⟨D, h1.kept hg hne, h2⟩
theorem Met.alloc (h : Met w b n S) (o : Obj) : Met (w.alloc o) b n S := by
  obtain ⟨D, h1, h2⟩ := h
  exact ⟨D, h1.alloc o, h2⟩
theorem Met.mono (h : Met w b n S) {m : Nat} (hn : n ≤ m) : Met w b m S := by
  obtain ⟨D, h1, h2⟩ := h
  exact ⟨D, h1.mono hn, h2⟩
theorem Met.congr {T : List UInt8 → Bool} (h : Met w b n S) (e : ∀ k, S k = T k) : Met w b n T := by
  obtain ⟨D, h1, h2⟩ := h
  exact ⟨D, h1, fun k => (h2 k).trans (e k)⟩
theorem Met.lt (h : Met w b n S) : b < w.heap.size := by
  obtain ⟨D, h1, _⟩ := h
  exact h1.lt
theorem key_s (key : List UInt8) (hk : key.length ≤ maxLen) : keyOf Try.prog 9 (.string ⟨key.toArray⟩) = some (.string key) := by
  have := Go.WideMaps.keyOf_string_mk (P := Try.prog) Try.underlying9 (s := ⟨key.toArray⟩) (by rw [ba_size]; exact hk)
  simpa using this
theorem Met.look (h : Met w b n S) (key : List UInt8) (hk : key.length ≤ maxLen) : (Instr.lookup 53 (.map (some b)) (.string ⟨key.toArray⟩) false).run Try.prog w = .ok (.bool (S key)) w := by
  obtain ⟨D, ⟨es, clock, hb, F, _, rfl⟩, h2⟩ := h
  rw [← h2 key]
  rcases Maps.fit_look false keyed_s Try.underlying53 (zero_b w) hb F (key_s key hk) with ⟨hrun, _, hat⟩ | ⟨e0, y, _, _, hrun, hRv, hat, _⟩
  · rw [has_false_of_atKey hat]
    exact hrun
  · rw [has_true_of_atKey hat]
    obtain ⟨e, _⟩ := trueElem_inv hRv
    rw [e] at hrun
    exact hrun
theorem Met.put (h : Met w b n S) (key : List UInt8) (hk : key.length ≤ maxLen) (hn : n < maxLen) : ∃ w', (Instr.mapUpdate 53 (.map (some b)) (.string ⟨key.toArray⟩) (.bool true)).run Try.prog w = .ok () w' ∧ Met w' b (n + 1) (fun k => decide (k = key) || S k) ∧ w.grownBy w' (some b) := by
  obtain ⟨D, h1, h2⟩ := h
  have hm : IsMap D := h1.isMap
  obtain ⟨w', r1, r2, r3⟩ := h1.update keyed_s Try.underlying53 hn (key_s key hk) (val := .bool true) (d := .lit (.bool true)) (ps := []) rfl
  refine ⟨w', r1, ⟨_, r2, fun k => ?_⟩, r3⟩
  by_cases e : k = key
  · subst e
    rw [has_put_same hm (keyed_s.key (key_s k hk))]
    simp
  · rw [has_put_other (fun e2 => e (by injection e2)), h2 k]
    simp [e]
/-- 'm[k] = true' -/
theorem wpList_met {ops : Array Oper} {rest : List Oper} {o : Oper} {a : Act} {Q : Exit → Act → World → Prop} (hg : o.guard = none) (m x v : Operand) (ho : o.op = .mapUpdate 53 m x v)
    (hm : a.eval m = .map (some b)) (hmet : Met w b n S) (hn : n < maxLen) (key : List UInt8) (hk : key.length ≤ maxLen) (hx : a.eval x = .string ⟨key.toArray⟩) (hv : a.eval v = .bool true)
    (h : ∀ w', Met w' b (n + 1) (fun k => decide (k = key) || S k) → w.grownBy w' (some b) → wpList Try.prog ops Q rest (a.put o.dst undef) w') : wpList Try.prog ops Q (o :: rest) a w := by
  refine wpList_plain hg fun K' hK' => ?_
  obtain ⟨w', hrun, r1, r2⟩ := hmet.put key hk hn
  unfold Oper.wp
  simp [execOp, ho, hm, hx, hv, hrun, Result.andThen]
  exact hK' _ _ (h w' r1 r2)
end
end Go.Proofs.Ytemckkcbakccnaa
