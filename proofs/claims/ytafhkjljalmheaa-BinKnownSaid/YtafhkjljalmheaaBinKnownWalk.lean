/- The walk of rolodexlaw3.BinKnown. -/
import Derived.Test.YtafhkjljalmheaaAwake3
namespace Go.Proofs.Ytafhkjljalmheaa
open Go.RowKit
set_option linter.unusedVariables false
attribute [local go_sem] left_some left_none endN_nil endN_cons endN_none errN_some errN_none
set_option maxRecDepth 4000 in
set_option maxHeartbeats 1000000 in
theorem binKnown_walk (w : World) : Calls Try.prog 3 #[] w fun e w' => e = .returned (.bool true) ∧ Below w.heap.size w w' := by
  have p1 : BinP.pText 9 (some [3, 97]) = ([], none) := by decide +kernel
  have p2 : BinP.pInt 4 (some [5, 1]) = (0, none) := by decide +kernel
  have p3 : BinP.pByte none = (0, none) := rfl
  have P1 := Lib.hid p1
  have P2 := Lib.hid p2
  have P3 := Lib.hid p3
  clear p1 p2 p3
  go_enter Try.func3, Try.ntmps3
  go_wp2_with fail
  refine (awake3 w).mono ?_
  rintro e w0 ⟨rfl, hB0⟩
  have hs0 := hB0.size
  go_wp2_with fail
  refine (bin_read _ 2 2 [3, 97] (w0.heap.size + 1) _ rfl ?_ (by simp) (by omega)).mono ?_
  · exact Row.new _ _ _ _ _ _ rfl (by omega) _ rfl
  rintro e w1 ⟨gr, rfl, hr, hB1⟩
  have hB : Below w.heap.size w w1 := (hB0.alloc hs0 _).trans (hB1.mono (by simp; omega))
  have hgr := hr.base_le
  simp at hgr
  clear hB1 hB0
  go_wp2_with fail
  refine (rd_text gr _ _ _ 9 (by decide) hr).mono ?_
  rw [P1.out]
  rintro e w2 ⟨rfl, hr2, hg2⟩
  have hB2 := hB.trans (Below.of_grown hg2 hB.size (by omega))
  have hs2 := hB2.size
  clear hr hB hg2
  go_wp2_with fail
  refine (bin_read _ 2 2 [5, 1] (w2.heap.size + 1) _ rfl ?_ (by simp) (by omega)).mono ?_
  · exact Row.new _ _ _ _ _ _ rfl (by omega) _ rfl
  rintro e w3 ⟨gq, rfl, hq, hB3⟩
  have hB4 : Below w.heap.size w w3 := (hB2.alloc hs2 _).trans (hB3.mono (by simp; omega))
  have hb23 : Below w2.heap.size w2 w3 := ((Below.refl _ _).alloc (Nat.le_refl _) _).trans (hB3.mono (by simp))
  have hgq := hq.base_le
  have hgr3 := hr2.base_le
  simp at hgq
  clear hB3 hB2
  go_wp2_with fail
  refine (rd_int gq _ _ _ 4 (by decide) hq).mono ?_
  rw [P2.out]
  rintro e w4 ⟨rfl, hq4, hg4⟩
  have hB5 := hB4.trans (Below.of_grown hg4 hB4.size (by omega))
  have hr4 := hr2.below (hb23.trans (Below.of_grown hg4 hb23.size (by omega)))
  clear hr2 hq hg4 hB4 hb23
  go_wp2_with fail
  refine (rd_err gr _ _ _ hr4).mono ?_
  rintro e w5 ⟨rfl, rfl⟩
  go_wp2_with fail
  refine (rd_left gr _ _ _ hr4).mono ?_
  rintro e w5 ⟨rfl, rfl⟩
  go_wp2_with fail
  refine (rd_byte gr _ _ _ hr4).mono ?_
  rw [P3.out]
  rintro e w5 ⟨rfl, hr5, hg5⟩
  have hB6 := hB5.trans (Below.of_grown hg5 hB5.size (by omega))
  have hq5 := hq4.other hg5 (by simp; omega)
  clear hr4 hq4 hg5 hB5 hr5
  go_wp2_with fail
  refine (rd_err gq _ _ _ hq5).mono ?_
  rintro e w6 ⟨rfl, rfl⟩
  go_wp2_with fail
  refine (rd_end gq _ _ _ hq5).mono ?_
  rintro e w6 ⟨rfl, rfl⟩
  clear hq5
  go_wp2_with fail
  refine (bin_read none 0 0 [] 0 _ rfl Row.nil (by omega) (by omega)).mono ?_
  rintro e w6 ⟨ga, rfl, ha, hB7⟩
  have hB8 := hB6.trans (hB7.mono hB6.size)
  clear hB6 hB7
  go_wp2_with fail
  refine (rd_end ga _ _ _ ha).mono ?_
  rintro e w7 ⟨rfl, rfl⟩
  clear ha
  have hs6 := hB8.size
  go_wp2_with fail
  refine (bin_read _ 1 1 [1] (w6.heap.size + 1) _ rfl ?_ (by simp) (by omega)).mono ?_
  · exact Row.new _ _ _ _ _ _ rfl (by omega) _ rfl
  rintro e w7 ⟨gb, rfl, hb, hB9⟩
  have hB10 : Below w.heap.size w w7 := (hB8.alloc hs6 _).trans (hB9.mono (by simp; omega))
  clear hB9 hB8
  go_wp2_with fail
  refine (rd_end gb _ _ _ hb).mono ?_
  rintro e w8 ⟨rfl, rfl⟩
  go_wp2_with fail
  go_ret
  exact ⟨rfl, hB10⟩
end Go.Proofs.Ytafhkjljalmheaa
