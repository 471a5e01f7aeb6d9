/- The function value that gives a slice's items one by one. -/
import Derived.Test.YtemckkcbakccnaaRange
import Derived.Test.YtemckkcbakccnaaItemBox
namespace Go.Proofs.Ytemckkcbakccnaa
open Go.RowKit
set_option linter.unusedVariables false
attribute [local go_sem] Oper.semAt_some
theorem keep_ltvalues1 {K : Nat → Prop} {W W' : World} (h : KeepSet K W W') {g : Nat} (hg : K g) (hl : g < W.heap.size) : g < W'.heap.size := by
  have := h g hg
  rw [Array.getElem?_eq_getElem hl] at this
  exact (Array.getElem?_eq_some_iff.1 this).1
set_option maxRecDepth 100000 in
set_option maxHeartbeats 4000000 in
theorem values1_in (l Bs n c : Nat) (A : Option Addr) (xs : List It) (K : Nat → Prop) (J Jx : List It → World → Prop) (hJ : ∀ s W W', J s W → Grew W W' → J s W')
    (hY : ∀ pre x W, J pre W → pre.length < n → YieldAt Fence.wide 7 Try.prog l #[iv x] W fun e W' => (e = .returned (.bool true) ∧ J (pre ++ [x]) W' ∧ KeepSet K W W') ∨ (e = .returned (.bool false) ∧ Jx (pre ++ [x]) W'))
    (W : World) (hBs : W.cell? ⟨Bs, 0, none⟩ = some (.slice A n c)) (hI : Is W W.heap.size A n c xs) (hK : ∀ g, xs ≠ [] → blk A = some g → K g) (hKlt : ∀ g, K g → g < W.heap.size) (h0 : J [] W) :
    CallsIn Fence.wide 8 Try.prog 42 #[.func (.yield l) #[] #[], .pointer (some ⟨Bs, 0, none⟩)] W fun e W' => (∃ v, e = .returned v) ∧ (J xs W' ∨ ∃ pre, pre <+: xs ∧ Jx pre W') := by
  have hl := hI.len
  have hm := hI.le
  have hx := hI.max
  unfold maxLen at hx
  have HI := Lib.hid hI
  have HKA := Lib.hid hK
  have HKL := Lib.hid hKlt
  have HJ := Lib.hid hJ
  have HY := Lib.hid hY
  clear hI hK hKlt hJ hY
  refine callsIn_of_wp Try.func42 rfl trivial ?_ rfl
  simp only [Try.ntmps42, List.size_toArray, List.length_cons, List.length_nil, Nat.reduceAdd, Nat.reduceSub, Array.replicate_succ, Array.replicate_zero, List.push_toArray, List.append_toArray, List.nil_append, List.cons_append]
  gi_wp2
  gi_loopw [7] (fun i wr => ∃ k : Nat, k ≤ n ∧ i = .int .i64 k ∧ J (xs.take k) wr ∧ KeepSet K W wr) (fun i _ => n - (intOf i).toNat)
  case atStart => exact ⟨0, Nat.zero_le _, rfl, h0, KeepSet.refl _ _⟩
  case round =>
    obtain ⟨k, hk, rfl, hJs, hKp⟩ := hrel
    have HJS := Lib.hid hJs
    have HKP := Lib.hid hKp
    clear hJs hKp
    have i0 : (0 : Int) ≤ (k : Int) := by omega
    by_cases hlt : k < n
    · obtain ⟨xi, hxi⟩ : ∃ y, xs[k]? = some y := ⟨_, List.getElem?_eq_getElem (by omega)⟩
      obtain ⟨g1, o1, rfl, hb1, hr1⟩ := HI.out.at hxi
      have hk1 : wr.heap[g1]? = W.heap[g1]? := HKP.out g1 (HKA.out g1 (fun e => by rw [e] at hxi; cases hxi) rfl)
      obtain ⟨q0, q1, q2, q3⟩ := range_cells (range_keep hr1 hk1)
      have HT := Lib.hid (show xs.take (k + 1) = xs.take k ++ [xi] by rw [List.take_add_one, hxi]; rfl)
      have hgr : Grew wr (wr.alloc (.cells #[.string ⟨xi.key.toArray⟩, .int .u64 (xi.seq : Int), .bool xi.gone, .string ⟨xi.val.toArray⟩] 29)) := grew_new wr _
      have HGR := Lib.hid hgr
      have HPL := Lib.hid (show (xs.take k).length < n by simp; omega)
      obtain ⟨fn, tmps, assign, body, hy, hR⟩ := HY.out (xs.take k) xi (wr.alloc (.cells #[.string ⟨xi.key.toArray⟩, .int .u64 (xi.seq : Int), .bool xi.gone, .string ⟨xi.val.toArray⟩] 29)) (HJ.out _ _ _ HJS.out hgr) HPL.out
      clear hr1 hxi hk1 hgr
      have i1 : (k : Int) < (n : Int) := by omega
      gi_wp2
      refine hR.mono ?_
      rintro e W3 (⟨rfl, hJ3, hk3⟩ | ⟨rfl, hJx3⟩)
      · have HJ3 := Lib.hid (show J (xs.take (k + 1)) W3 by rw [HT.out]; exact hJ3)
        have HK3 := Lib.hid (show KeepSet K W W3 from HKP.out.trans (KeepSet.trans (fun g hg => HGR.out.block g (keep_ltvalues1 HKP.out hg (HKL.out g hg))) hk3))
        gi_wp2
        go_roundw
        case rel => exact ⟨k + 1, hlt, by go_num, HJ3.out, HK3.out⟩
        case measure => simp [intOf]; omega
      · have HJX := Lib.hid (show Jx (xs.take (k + 1)) W3 by rw [HT.out]; exact hJx3)
        gi_wp2
        refine bodyPost_ret (results_none rfl _ _ _) rfl ?_
        exact ⟨⟨_, rfl⟩, .inr ⟨_, List.take_prefix _ _, HJX.out⟩⟩
    · obtain rfl : k = n := by omega
      have HT := Lib.hid (show xs.take k = xs from List.take_of_length_le (by omega))
      have i1 : ¬ (k : Int) < (k : Int) := by omega
      gi_wp2
      go_end0
      exact ⟨⟨_, rfl⟩, .inl (by have := HJS.out; rwa [HT.out] at this)⟩
/-- the blocks that the function value reads -/
def keepsvalues1 (Bs : Nat) (A : Option Addr) (xs : List It) (g : Nat) : Prop := g = Bs ∨ (xs ≠ [] ∧ blk A = some g)
theorem values1_gives (Bs n c : Nat) (A : Option Addr) (xs : List It) (w : World) (hBs : w.cell? ⟨Bs, 0, none⟩ = some (.slice A n c)) (hI : Is w w.heap.size A n c xs) :
    (∀ g, keepsvalues1 Bs A xs g → g < w.heap.size) ∧ Gives Try.prog 42 #[.pointer (some ⟨Bs, 0, none⟩)] (fun x : It => #[iv x]) (keepsvalues1 Bs A xs) xs w := by
  have hlt : ∀ g, keepsvalues1 Bs A xs g → g < w.heap.size := by
    rintro g (rfl | ⟨hne, hg⟩)
    · exact World.block_lt_of_cell? w _ hBs
    · cases xs with
      | nil => exact absurd rfl hne
      | cons x r =>
        obtain ⟨g', o, e, hb, _⟩ := hI.at (i := 0) (x := x) rfl
        rw [e] at hg
        simp [blk] at hg
        omega
  refine ⟨hlt, fun l J Jx W hW hJ hJx hY h0 => ?_⟩
  have hlen := hI.len
  refine (values1_in l Bs n c A xs (keepsvalues1 Bs A xs) J Jx (fun s X Y hs hg => hJ s X Y none hs ⟨hg.os, hg.tape, hg.output, hg.size, fun k hk _ => hg.block k hk⟩ (fun r e => by cases e)) (fun pre x X hx hp => hY pre x X hx (by omega)) W ((hW.cell (p := ⟨Bs, 0, none⟩) (World.block_lt_of_cell? w _ hBs)).trans hBs)
    ((hI.below hW).more hW.size) (fun g hne hg => .inr ⟨hne, hg⟩) (fun g hg => Nat.lt_of_lt_of_le (hlt g hg) hW.size) h0).mono ?_
  rintro e W' ⟨h1, h2 | ⟨pre, h2, h3⟩⟩
  · exact ⟨h1, .inl ⟨xs, rfl, h2⟩⟩
  · exact ⟨h1, .inr ⟨pre, h2, h3⟩⟩
end Go.Proofs.Ytemckkcbakccnaa
