/- The function value that gives a slice's items one by one from the last one on. -/
import Derived.Test.YtemckkcbakccnaaRange
import Derived.Test.YtemckkcbakccnaaRangeI
namespace Go.Proofs.Ytemckkcbakccnaa
open Go.RowKit
set_option linter.unusedVariables false
attribute [local go_sem] Oper.semAt_some
theorem keep_ltback1 {K : Nat → Prop} {W W' : World} (h : KeepSet K W W') {g : Nat} (hg : K g) (hl : g < W.heap.size) : g < W'.heap.size := by
  have := h g hg
  rw [Array.getElem?_eq_getElem hl] at this
  exact (Array.getElem?_eq_some_iff.1 this).1
/-- a list's items with their places, from the last one on -/
def backs (l : List It) : List (It × Nat) := l.zipIdx.reverse
theorem backs_len (l : List It) : (backs l).length = l.length := by simp [backs]
theorem backs_at {l : List It} {j : Nat} {x : It} (hx : l[j]? = some x) : (backs l)[l.length - (j + 1)]? = some (x, j) := by
  have hj := (List.getElem?_eq_some_iff.1 hx).1
  unfold backs
  rw [List.getElem?_reverse (by simp; omega), List.length_zipIdx, List.getElem?_zipIdx]
  rw [show l.length - 1 - (l.length - (j + 1)) = j by omega, hx]
  simp
abbrev encB (p : It × Nat) : Array Value := #[.int .i64 (p.2 : Int), iv p.1]
set_option maxRecDepth 100000 in
set_option maxHeartbeats 4000000 in
theorem back1_in (l Bs n c : Nat) (A : Option Addr) (xs : List It) (K : Nat → Prop) (J Jx : List (It × Nat) → World → Prop)
    (hY : ∀ pre x W, J pre W → pre.length < n → YieldAt Fence.wide 7 Try.prog l (encB x) W fun e W' => (e = .returned (.bool true) ∧ J (pre ++ [x]) W' ∧ KeepSet K W W') ∨ (e = .returned (.bool false) ∧ Jx (pre ++ [x]) W'))
    (W : World) (hBs : W.cell? ⟨Bs, 0, none⟩ = some (.slice A n c)) (hI : Is W W.heap.size A n c xs) (hKB : K Bs) (hK : ∀ g, xs ≠ [] → blk A = some g → K g) (hKlt : ∀ g, K g → g < W.heap.size) (h0 : J [] W) :
    CallsIn Fence.wide 8 Try.prog 41 #[.func (.yield l) #[] #[], .pointer (some ⟨Bs, 0, none⟩)] W fun e W' => (∃ v, e = .returned v) ∧ (J (backs xs) W' ∨ ∃ pre, pre <+: backs xs ∧ Jx pre W') := by
  have hl := hI.len
  have hm := hI.le
  have hx := hI.max
  unfold maxLen at hx
  have HI := Lib.hid hI
  have HKA := Lib.hid hK
  have HKL := Lib.hid hKlt
  have HKB := Lib.hid hKB
  have HCB := Lib.hid hBs
  have HY := Lib.hid hY
  clear hI hK hKlt hY hKB
  refine callsIn_of_wp Try.func41 rfl trivial ?_ rfl
  simp only [Try.ntmps41, List.size_toArray, List.length_cons, List.length_nil, Nat.reduceAdd, Nat.reduceSub, Array.replicate_succ, Array.replicate_zero, List.push_toArray, List.append_toArray, List.nil_append, List.cons_append]
  gi_wp2
  gi_loopw [3] (fun i wr => ∃ k : Nat, k ≤ n ∧ i = .int .i64 ((k : Int) - 1) ∧ J ((backs xs).take (n - k)) wr ∧ KeepSet K W wr) (fun i _ => ((intOf i) + 1).toNat)
  case atStart => exact ⟨n, Nat.le_refl _, rfl, by rw [Nat.sub_self]; exact h0, KeepSet.refl _ _⟩
  case round =>
    obtain ⟨k, hk, rfl, hJs, hKp⟩ := hrel
    have HJS := Lib.hid hJs
    have HKP := Lib.hid hKp
    clear hJs hKp
    rcases k with _ | j
    · have HT := Lib.hid (show (backs xs).take (n - 0) = backs xs from List.take_of_length_le (by rw [backs_len]; omega))
      gi_wp2
      go_end0
      exact ⟨⟨_, rfl⟩, .inl (by have := HJS.out; rwa [HT.out] at this)⟩
    · rw [show (((j + 1 : Nat) : Int) - 1) = (j : Int) by omega]
      have i0 : (0 : Int) ≤ (j : Int) := by omega
      obtain ⟨xi, hxi⟩ : ∃ y, xs[j]? = some y := ⟨_, List.getElem?_eq_getElem (by omega)⟩
      obtain ⟨g1, o1, rfl, hb1, hr1⟩ := HI.out.at hxi
      have hk1 : wr.heap[g1]? = W.heap[g1]? := HKP.out g1 (HKA.out g1 (fun e => by rw [e] at hxi; cases hxi) rfl)
      obtain ⟨q0, q1, q2, q3⟩ := range_cells (range_keep hr1 hk1)
      have qB : wr.cell? ⟨Bs, 0, none⟩ = some (.slice (some ⟨g1, o1, none⟩) n c) := (HKP.out.cell (p := ⟨Bs, 0, none⟩) HKB.out).trans HCB.out
      have HT := Lib.hid (show (backs xs).take (n - j) = (backs xs).take (n - (j + 1)) ++ [(xi, j)] by
        have hb := backs_at hxi
        rw [hl] at hb
        rw [show n - j = (n - (j + 1)) + 1 by omega, List.take_add_one, hb]
        rfl)
      have HPL := Lib.hid (show ((backs xs).take (n - (j + 1))).length < n by rw [List.length_take, backs_len]; omega)
      obtain ⟨fn, tmps, assign, body, hy, hR⟩ := HY.out ((backs xs).take (n - (j + 1))) (xi, j) wr HJS.out HPL.out
      clear hr1 hxi hk1
      have i1 : (j : Int) < (n : Int) := by omega
      gi_wp2
      refine hR.mono ?_
      rintro e W3 (⟨rfl, hJ3, hk3⟩ | ⟨rfl, hJx3⟩)
      · have HJ3 := Lib.hid (show J ((backs xs).take (n - j)) W3 by rw [HT.out]; exact hJ3)
        have HK3 := Lib.hid (show KeepSet K W W3 from HKP.out.trans hk3)
        gi_wp2
        go_roundw
        case rel => exact ⟨j, by omega, rfl, HJ3.out, HK3.out⟩
        case measure => first | (simp [intOf]; done) | (simp [intOf]; omega)
      · have HJX := Lib.hid (show Jx ((backs xs).take (n - j)) W3 by rw [HT.out]; exact hJx3)
        gi_wp2
        refine bodyPost_ret (results_none rfl _ _ _) rfl ?_
        exact ⟨⟨_, rfl⟩, .inr ⟨_, List.take_prefix _ _, HJX.out⟩⟩
/-- the blocks that the function value reads -/
def keepsback1 (Bs : Nat) (A : Option Addr) (xs : List It) (g : Nat) : Prop := g = Bs ∨ (xs ≠ [] ∧ blk A = some g)
theorem back1_gives (Bs n c : Nat) (A : Option Addr) (xs : List It) (w : World) (hBs : w.cell? ⟨Bs, 0, none⟩ = some (.slice A n c)) (hI : Is w w.heap.size A n c xs) :
    (∀ g, keepsback1 Bs A xs g → g < w.heap.size) ∧ Gives Try.prog 41 #[.pointer (some ⟨Bs, 0, none⟩)] encB (keepsback1 Bs A xs) (backs xs) w := by
  have hlt : ∀ g, keepsback1 Bs A xs g → g < w.heap.size := by
    rintro g (rfl | ⟨hne, hg⟩)
    · exact World.block_lt_of_cell? w _ hBs
    · cases xs with
      | nil => exact absurd rfl hne
      | cons x r =>
        obtain ⟨g', o, e, hb, _⟩ := hI.at (i := 0) (x := x) rfl
        rw [e] at hg
        simp [blk] at hg
        omega
  refine ⟨hlt, fun l J Jx W hW hJ hJx hY h0 => ?_⟩
  have hlen := hI.len
  refine (back1_in l Bs n c A xs (keepsback1 Bs A xs) J Jx (fun pre x X hx hp => hY pre x X hx (by rw [backs_len]; omega)) W ((hW.cell (p := ⟨Bs, 0, none⟩) (World.block_lt_of_cell? w _ hBs)).trans hBs)
    ((hI.below hW).more hW.size) (.inl rfl) (fun g hne hg => .inr ⟨hne, hg⟩) (fun g hg => Nat.lt_of_lt_of_le (hlt g hg) hW.size) h0).mono ?_
  rintro e W' ⟨h1, h2 | ⟨pre, h2, h3⟩⟩
  · exact ⟨h1, .inl ⟨_, rfl, h2⟩⟩
  · exact ⟨h1, .inr ⟨pre, h2, h3⟩⟩
/-- slices.Backward -/
theorem back_items (A : Option Addr) (n c : Nat) (w : World) :
    Calls Try.prog 29 #[.slice A n c] w fun e w' => e = .returned (.func (.func 41) #[] #[.pointer (some ⟨w.heap.size, 0, none⟩)]) ∧ Boxed w' w.heap.size 23 (.slice A n c) ∧ Grew w w' := by
  go_enter Try.func29, Try.ntmps29
  go_wp2_with fail
  go_ret
  exact ⟨rfl, Boxed.new w _ _, grew_new w _⟩
/-- slices.Values -/
theorem values_items (A : Option Addr) (n c : Nat) (w : World) :
    Calls Try.prog 32 #[.slice A n c] w fun e w' => e = .returned (.func (.func 42) #[] #[.pointer (some ⟨w.heap.size, 0, none⟩)]) ∧ Boxed w' w.heap.size 23 (.slice A n c) ∧ Grew w w' := by
  go_enter Try.func32, Try.ntmps32
  go_wp2_with fail
  go_ret
  exact ⟨rfl, Boxed.new w _ _, grew_new w _⟩
end Go.Proofs.Ytemckkcbakccnaa
