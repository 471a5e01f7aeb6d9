/- slices' stable sort of few items, CompactFunc, by merge's compare. -/
import Derived.Test.YtemckkcbakccnaaItemIns
import Derived.Test.YtemckkcbakccnaaItemCat
import Derived.Test.YtemckkcbakccnaaMrgPlain
import Derived.Test.YtemckkcbakccnaaRefSorted
namespace Go.Proofs.Ytemckkcbakccnaa
open Go.RowKit
set_option linter.unusedVariables false
open SrtP
set_option maxHeartbeats 1000000 in
theorem stable_small (A : Option Addr) (n c base : Nat) (l : List It) (w : World) (h : OwnI w base A n c l) (hn : n < 20) :
    Calls Try.prog 36 #[.slice A n c, .int .i64 (n : Int), cmpV] w fun e w' => (∃ v, e = .returned v) ∧ OwnI w' base A n c (isort l) ∧ w.grownBy w' (blk A) := by
  have hl := h.len
  have HC := Lib.hid (ins_sort A n c base 0 n [] l [] w (by simpa using h) rfl (by simpa using hl) (by omega))
  have i1 : ¬ (20 : Int) ≤ (n : Int) := by omega
  have i2 : ¬ (20 : Int) < (n : Int) := by omega
  clear h
  go_enter Try.func36, Try.ntmps36
  go_wp2_with fail
  refine wp_loop_rounds 1 ?_
  rw [rounds_succ]
  go_wp2_with (go_at_call 44; ((refine HC.out.mono ?_); rintro e w2 ⟨⟨v, rfl⟩, hO, hG⟩; have HO := Lib.hid hO; have HG := Lib.hid hG; clear hO hG))
  refine wp_loop_rounds 1 ?_
  rw [rounds_succ]
  go_wp2_with fail
  go_end0
  exact ⟨⟨_, rfl⟩, by simpa using HO.out, HG.out⟩
set_option maxHeartbeats 1000000 in
theorem sort_small (A : Option Addr) (n c base : Nat) (l : List It) (w : World) (h : OwnI w base A n c l) (hn : n < 20) :
    Calls Try.prog 22 #[.slice A n c, cmpV] w fun e w' => (∃ v, e = .returned v) ∧ OwnI w' base A n c (isort l) ∧ w.grownBy w' (blk A) := by
  have HC := Lib.hid (stable_small A n c base l w h hn)
  clear h
  go_enter Try.func22, Try.ntmps22
  go_wp2_with (go_at_call 36; ((with_reducible refine HC.out.mono ?_); rintro e w2 ⟨⟨v, rfl⟩, hO, hG⟩; have HO := Lib.hid hO; have HG := Lib.hid hG; clear hO hG))
  go_end0
  exact ⟨⟨_, rfl⟩, HO.out, HG.out⟩
/-- are two items of one key and number? -/
def sameB (x y : It) : Bool := decide (ItP.cmp x y = 0)
abbrev eqV : Value := .func (.func 25) #[] #[]
set_option maxHeartbeats 1000000 in
theorem mrg_same (x y : It) (w : World) : Calls Try.prog 25 #[iv x, iv y] w fun e w' => e = .returned (.bool (sameB x y)) ∧ Grew w w' := by
  obtain ⟨w1, hw1⟩ : ∃ W, W = (w.alloc (.cells #[.string ⟨x.key.toArray⟩, .int .u64 (x.seq : Int), .bool x.gone, .string ⟨x.val.toArray⟩] 29)).alloc (.cells #[.string ⟨y.key.toArray⟩, .int .u64 (y.seq : Int), .bool y.gone, .string ⟨y.val.toArray⟩] 29) := ⟨_, rfl⟩
  have HG1 := Lib.hid (show Grew w w1 by rw [hw1]; exact (grew_new w _).trans (grew_new _ _))
  have HX := Lib.hid (show IBox w1 w.heap.size x by rw [hw1]; exact (IBox.new w x).alloc _)
  have HY := Lib.hid (show IBox w1 (w.heap.size + 1) y by rw [hw1]; have := IBox.new (w.alloc (.cells #[.string ⟨x.key.toArray⟩, .int .u64 (x.seq : Int), .bool x.gone, .string ⟨x.val.toArray⟩] 29)) y; simpa using this)
  obtain ⟨cz, hcz⟩ : ∃ cz, cz = ItP.cmp x y := ⟨_, rfl⟩
  have HR : Hid (∀ W, Calls Try.prog 23 #[iv x, iv y] W fun e w' => e = .returned (.int .i64 cz) ∧ Grew W w') := Lib.hid fun W => by rw [hcz]; exact merge_compare x y W
  have HS := Lib.hid (show sameB x y = (cz == 0) by unfold sameB; rw [← hcz]; rfl)
  have HW := Lib.hid hw1
  obtain ⟨p0, p1, p2, p3⟩ := range_cells HX.out.range
  obtain ⟨q0, q1, q2, q3⟩ := range_cells HY.out.range
  clear hw1 hcz
  go_enter Try.func25, Try.ntmps25
  go_upto_region 1 with fail
  rw [← HW.out]
  clear HW
  go_wp2_with (go_at_call 23; ((with_reducible refine (HR.out _).mono ?_); rintro e w2 ⟨rfl, hG⟩; have HG2 := Lib.hid hG; clear hG))
  go_ret
  exact ⟨by rw [HS.out]; rfl, HG1.out.trans HG2.out⟩
end Go.Proofs.Ytemckkcbakccnaa
