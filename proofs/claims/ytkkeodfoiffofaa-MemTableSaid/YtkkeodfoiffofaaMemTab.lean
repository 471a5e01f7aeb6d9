/- What is in memory, laid into a table: the plain facts. -/
import Derived.Test.YtkkeodfoiffofaaMemB
import Derived.Test.YtkkeodfoiffofaaRefSorted
import Derived.Test.YtkkeodfoiffofaaTabD
namespace Go.Proofs.Ytkkeodfoiffofaa
open Go.RowKit
set_option linter.unusedVariables false
open MemP
/-- each item may be, each number is one of 64 bits -/
def FineL (la : List (It × Nat)) : Prop := ∀ x ∈ la.map (·.1), ItP.may x = true ∧ x.seq < m64
theorem fine_put {la : List (It × Nat)} {x : It} (h : FineL la) (hx : x.seq < m64) : FineL (putR la x).2 ∧ (putR la x).2.length ≤ la.length + 1 := by
  unfold putR
  by_cases h1 : ItP.may x = false
  · rw [if_pos h1]
    exact ⟨h, Nat.le_succ _⟩
  · rw [if_neg h1]
    by_cases h2 : (ItP.put (la.map (·.1)) x).2 = false
    · rw [if_pos h2]
      exact ⟨h, Nat.le_succ _⟩
    · rw [if_neg h2]
      refine ⟨fun y hy => ?_, by simp; omega⟩
      simp only [List.map_append, List.map_cons, List.mem_append, List.mem_cons] at hy
      rcases hy with hy | rfl | hy
      · exact h y (by rw [List.map_take] at hy; exact List.mem_of_mem_take hy)
      · exact ⟨by simpa using h1, hx⟩
      · exact h y (by rw [List.map_drop] at hy; exact List.mem_of_mem_drop hy)
theorem costs_le {l : List It} (h : ∀ x ∈ l, ItP.may x = true) : costs l ≤ 5000 * l.length := by
  induction l with
  | nil => simp [costs]
  | cons x l ih =>
    rw [costs_cons, List.length_cons]
    have h1 := TabP.may_len (h x (by simp))
    have h2 := ih fun y hy => h y (by simp [hy])
    unfold cost
    omega
/-- a box of a slice of items is written: the keeper stays -/
theorem MemL.setBox {w : World} {B bx : Nat} {hd : Nd} {l : List (It × Nat)} {v : Value} (h : MemL w B hd l) (hb : Boxed w bx 32 v) (u : Value) : MemL (w.setCell ⟨bx, 0, none⟩ u) B hd l :=
  h.other (grown_set w bx 0 u) (fun r e => by
    injection e with e
    subst e
    exact ⟨_, _, _, hb, by decide, by decide, by decide⟩)
theorem fine_E {la : List (It × Nat)} {a : Int} (h : FineL la) (hs : ItP.Srt (la.map (·.1))) (hn : la.length ≤ 10000) (h1 : ¬ a < 1) (h2 : ¬ 1000 < a) : TabP.buildE (la.map (·.1)) a = 0 := by
  have hg : TabP.goodL (la.map (·.1)) = true := by
    rw [goodL_eq, ItP.srt_iff.2 hs, Bool.true_and, List.all_eq_true]
    exact fun x hx => (h x hx).1
  unfold TabP.buildE
  rw [if_neg (by omega), if_neg (by rw [hg]; decide), if_neg (by simp; omega)]
/-- items gone through go to a box: the keeper stays -/
theorem Col.mem {bx n c B : Nat} {w0 W w3 : World} {A : Option Addr} {pre : List It} {hd : Nd} {la : List (It × Nat)} {tmp : Obj} (h : Col bx w0 A n c pre W) (hb : bx < w0.heap.size) (hM : MemL W B hd la) (hg3 : (W.alloc tmp).grownBy w3 (blk A)) (u : Value) : MemL (w3.setCell ⟨bx, 0, none⟩ u) B hd la := by
  have h2 : MemL w3 B hd la := (hM.grew (grew_new W tmp)).appI (h.own.alloc _) hg3
  have hB3 : Boxed w3 bx 32 (.slice A n c) := (hg3.block bx (by have := h.box.lt; simp; omega) (fun e => by have := (h.own.lt bx e.symm).1; omega)).trans ((Below.heap_alloc W tmp bx h.box.lt).trans h.box)
  exact h2.setBox hB3 u
end Go.Proofs.Ytkkeodfoiffofaa
