/- The walk of rolodexref8.shown. -/
import Derived.Test.YtemckkcbakccnaaRefGet
import Derived.Test.YtemckkcbakccnaaMrgPlain
namespace Go.Proofs.Ytemckkcbakccnaa
open Go.RowKit
set_option linter.unusedVariables false
set_option maxRecDepth 100000 in
set_option maxHeartbeats 1000000 in
theorem ref_shown (A : Option Addr) (n c : Nat) (l : List It) (x : It) (q : Nat) (w : World) (h : Is w w.heap.size A n c l) :
    Calls Try.prog 34 #[.slice A n c, iv x, .int .u64 (q : Int)] w fun e w' => e = .returned (.bool (MrgP.sh l q x)) ∧ Grew w w' := by
  obtain ⟨w1, hw1⟩ : ∃ W, W = w.alloc (.cells #[.string ⟨x.key.toArray⟩, .int .u64 (x.seq : Int), .bool x.gone, .string ⟨x.val.toArray⟩] 29) := ⟨_, rfl⟩
  obtain ⟨b1, hb1⟩ : ∃ b, b = w.heap.size := ⟨_, rfl⟩
  have HX := Lib.hid (show IBox w1 b1 x by rw [hw1, hb1]; exact IBox.new w x)
  have HG1 := Lib.hid (show Grew w w1 by rw [hw1]; exact grew_new w _)
  have HI := Lib.hid (show Is w1 w1.heap.size A n c l from (h.below HG1.out).more HG1.out.size)
  have HW := Lib.hid (And.intro hw1 hb1)
  clear hw1 hb1 h
  go_enter Try.func34, Try.ntmps34
  go_upto_region 1 with fail
  rw [← HW.out.1, ← HW.out.2]
  clear HW
  obtain ⟨q0, q1, q2, q3⟩ := range_cells HX.out.range
  rcases hgt : ItP.get l x.key q with _ | y
  · have HR := Lib.hid (show MrgP.sh l q x = false by unfold MrgP.sh; rw [hgt]; rfl)
    have HGe : Hid (Calls Try.prog 43 #[.slice A n c, sv x.key, .int .u64 (q : Int)] w1 fun e w' => e = .returned (.tuple #[.agg #[.string ⟨#[]⟩, .int .u64 0, .bool false, .string ⟨#[]⟩], .bool false]) ∧ Grew w1 w') := Lib.hid ((ref_get A n c l x.key q w1 HI.out).mono fun e w' h => ⟨by rw [h.1, hgt]; rfl, h.2⟩)
    clear hgt
    go_wp2_with (go_at_call 43; ((with_reducible refine HGe.out.mono ?_); rintro e w2 ⟨rfl, hG⟩; have HG2 := Lib.hid hG; clear hG))
    go_ret
    exact ⟨by rw [HR.out]; rfl, HG1.out.trans (HG2.out.trans (grew_new w2 _))⟩
  · have HR := Lib.hid (show MrgP.sh l q x = decide (y = x) by unfold MrgP.sh; rw [hgt]; simp)
    have HGe : Hid (Calls Try.prog 43 #[.slice A n c, sv x.key, .int .u64 (q : Int)] w1 fun e w' => e = .returned (.tuple #[.agg #[.string ⟨y.key.toArray⟩, .int .u64 (y.seq : Int), .bool y.gone, .string ⟨y.val.toArray⟩], .bool true]) ∧ Grew w1 w') := Lib.hid ((ref_get A n c l x.key q w1 HI.out).mono fun e w' h => ⟨by rw [h.1, hgt]; rfl, h.2⟩)
    have hq := fun W => eql_item y x W
    obtain ⟨b, hb⟩ : ∃ b, b = decide (y = x) := ⟨_, rfl⟩
    rw [← hb] at HR hq
    clear hgt hb
    go_upto_region 2 with (go_at_call 43; ((with_reducible refine HGe.out.mono ?_); rintro e w2 ⟨rfl, hG⟩; have HG2 := Lib.hid hG; clear hG))
    obtain ⟨w3, hw3⟩ : ∃ W, W = w2.alloc (.cells #[.string ⟨y.key.toArray⟩, .int .u64 (y.seq : Int), .bool y.gone, .string ⟨y.val.toArray⟩] 29) := ⟨_, rfl⟩
    obtain ⟨b3, hb3⟩ : ∃ b, b = w2.heap.size := ⟨_, rfl⟩
    have HY := Lib.hid (show IBox w3 b3 y by rw [hw3, hb3]; exact IBox.new w2 y)
    have HG3 := Lib.hid (show Grew w2 w3 by rw [hw3]; exact grew_new w2 _)
    have HX3 := Lib.hid (HX.out.grew (HG2.out.trans HG3.out))
    rw [← hw3, ← hb3]
    clear hw3 hb3 q0 q1 q2 q3
    obtain ⟨q0, q1, q2, q3⟩ := range_cells HX3.out.range
    obtain ⟨p0, p1, p2, p3⟩ := range_cells HY.out.range
    go_wp2_with fail
    go_ret
    exact ⟨by rw [HR.out]; rfl, HG1.out.trans (HG2.out.trans HG3.out)⟩
end Go.Proofs.Ytemckkcbakccnaa
