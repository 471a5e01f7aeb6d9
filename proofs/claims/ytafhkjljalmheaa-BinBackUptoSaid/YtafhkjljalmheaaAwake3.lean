/- The walk of rolodexlaw3.awake. -/
import Derived.Test.YtafhkjljalmheaaBinRd3
namespace Go.Proofs.Ytafhkjljalmheaa
open Go.RowKit
set_option linter.unusedVariables false
attribute [local go_sem] left_some left_none endN_nil endN_cons endN_none errN_some errN_none
theorem Below.of_grown {B : Nat} {w w' : World} {g : Nat} (h : w.grownBy w' (some g)) (hb : B ≤ w.heap.size) (hg : B ≤ g) : Below B w w' := below_grown h hb fun k e => by injection e with e; omega
set_option maxRecDepth 4000 in
set_option maxHeartbeats 1000000 in
theorem awake3 (w : World) : Calls Try.prog 10 #[] w fun e w' => e = .returned (.bool true) ∧ Below w.heap.size w w' := by
  have p1 : BinP.pUint (some [172, 2, 1, 120]) = (300, some [1, 120]) := by decide +kernel
  have p2 : BinP.pText 5 (some [1, 120]) = ([120], some []) := by decide +kernel
  have p3 : BinP.pUint (some [128, 0]) = (0, none) := by decide +kernel
  have p4 : BinP.pInt 7 (some [7, 9]) = (7, some [9]) := by decide +kernel
  have p5 : BinP.pByte (some [9]) = (9, some []) := rfl
  have p6 : BinP.enc 300 = [172, 2] := by decide +kernel
  have p7 : [5] ++ BinP.text [97, 98] = [5, 2, 97, 98] := by decide +kernel
  have P1 := Lib.hid p1
  have P2 := Lib.hid p2
  have P3 := Lib.hid p3
  have P4 := Lib.hid p4
  have P5 := Lib.hid p5
  have P6 := Lib.hid p6
  have P7 := Lib.hid p7
  clear p1 p2 p3 p4 p5 p6 p7
  go_enter Try.func10, Try.ntmps10
  go_wp2_with fail
  refine (bin_read _ 4 4 [172, 2, 1, 120] (w.heap.size + 1) _ rfl ?_ (by simp) (by omega)).mono ?_
  · exact Row.new _ _ _ _ _ _ rfl (by omega) _ rfl
  rintro e w1 ⟨gr, rfl, hr, hB1⟩
  have hB : Below w.heap.size w w1 := ((Below.refl _ _).alloc (Nat.le_refl _) _).trans (hB1.mono (by simp))
  have hgr := hr.base_le
  simp at hgr
  clear hB1
  go_wp2_with fail
  refine (rd_uint gr _ _ _ hr).mono ?_
  rw [P1.out]
  rintro e w2 ⟨rfl, hr2, hg2⟩
  have hB2 := hB.trans (Below.of_grown hg2 hB.size (by omega))
  clear hr hB hg2
  go_wp2_with fail
  refine (rd_left gr _ _ _ hr2).mono ?_
  rintro e w3 ⟨rfl, rfl⟩
  go_wp2_with fail
  refine (rd_text gr _ _ _ 5 (by decide) hr2).mono ?_
  rw [P2.out]
  rintro e w3 ⟨rfl, hr3, hg3⟩
  have hB3 := hB2.trans (Below.of_grown hg3 hB2.size (by omega))
  clear hr2 hB2 hg3
  go_wp2_with fail
  refine (rd_end gr _ _ _ hr3).mono ?_
  rintro e w4 ⟨rfl, rfl⟩
  clear hr3
  go_wp2_with fail
  have hs3 := hB3.size
  refine (bin_read _ 2 2 [128, 0] (w3.heap.size + 1) _ rfl ?_ (by simp) (by omega)).mono ?_
  · exact Row.new _ _ _ _ _ _ rfl (by omega) _ rfl
  rintro e w4 ⟨gq, rfl, hq, hB4⟩
  have hB5 : Below w.heap.size w w4 := (hB3.alloc hs3 _).trans (hB4.mono (by simp; omega))
  have hgq := hq.base_le
  simp at hgq
  clear hB4 hB3
  go_wp2_with fail
  refine (rd_uint gq _ _ _ hq).mono ?_
  rw [P3.out]
  rintro e w5 ⟨rfl, hq5, hg5⟩
  have hB6 := hB5.trans (Below.of_grown hg5 hB5.size (by omega))
  clear hq hB5 hg5
  have hs5 := hB6.size
  go_wp2_with fail
  refine (bin_read _ 2 2 [7, 9] (w5.heap.size + 1) _ rfl ?_ (by simp) (by omega)).mono ?_
  · exact Row.new _ _ _ _ _ _ rfl (by omega) _ rfl
  rintro e w6 ⟨gs, rfl, hs, hB7⟩
  have hB8 : Below w.heap.size w w6 := (hB6.alloc hs5 _).trans (hB7.mono (by simp; omega))
  have hgs := hs.base_le
  simp at hgs
  have hq6 := hq5.below (((Below.refl _ _).alloc (Nat.le_refl _) _).trans (hB7.mono (by simp)))
  clear hB7 hB6 hq5
  go_wp2_with fail
  have hlay := bin_uint none 0 0 300 [] 0 w6 rfl Row.nil (by omega) (by omega) (by decide)
  rw [P6.out] at hlay
  refine hlay.mono ?_
  rintro e w7 ⟨A7, n7, c7, rfl, hO7, hB7⟩
  have hrow7 := hO7.row
  have hB9 : Below w.heap.size w w7 := hB8.trans (hB7.mono hB8.size)
  have hq7 := hq6.below hB7
  have hs7 := hs.below hB7
  have hn7 := hO7.len
  clear hlay hO7 hB7 hB8 hq6 hs
  obtain rfl : n7 = 2 := by simpa using hn7.symm
  clear hn7
  go_wp2_with (refine wpList_str8 (dst := some 28) A7 2 c7 _ [172, 2] rfl rfl rfl hrow7 ?_)
  have htxt := bin_text (some ⟨w7.heap.size, 0, none⟩) 1 1 [5] [97, 98] (w7.heap.size + 1) (w7.alloc (.cells #[.int .u8 5] 5)) rfl (Row.new _ _ _ _ _ _ rfl (by omega) _ rfl) (by simp) (by decide)
  rw [P7.out] at htxt
  refine htxt.mono ?_
  rintro e w8 ⟨A8, n8, c8, rfl, hO8, hB8⟩
  have hB80 : Below w7.heap.size w7 w8 := ((Below.refl _ _).alloc (Nat.le_refl _) _).trans (hB8.mono (by simp))
  have hrow8 := hO8.row
  have hB10 : Below w.heap.size w w8 := hB9.trans (hB80.mono hB9.size)
  have hq8 := hq7.below hB80
  have hs8 := hs7.below hB80
  have hn8 := hO8.len
  clear htxt hO8 hB8 hB80 hB9 hq7 hs7 hrow7
  obtain rfl : n8 = 4 := by simpa using hn8.symm
  clear hn8
  go_wp2_with (refine wpList_str8 (dst := some 33) A8 4 c8 _ [5, 2, 97, 98] rfl rfl rfl hrow8 ?_)
  refine (rd_err gq _ _ _ hq8).mono ?_
  rintro e w9 ⟨rfl, rfl⟩
  clear hq8
  go_wp2_with fail
  refine (rd_int gs _ _ _ 7 (by decide) hs8).mono ?_
  rw [P4.out]
  rintro e w9 ⟨rfl, hs9, hg9⟩
  have hB11 := hB10.trans (Below.of_grown hg9 hB10.size (by omega))
  clear hs8 hB10 hg9 hrow8
  go_wp2_with fail
  refine (rd_byte gs _ _ _ hs9).mono ?_
  rw [P5.out]
  rintro e w10 ⟨rfl, hs10, hg10⟩
  have hB12 := hB11.trans (Below.of_grown hg10 hB11.size (by omega))
  clear hs9 hB11 hg10
  go_wp2_with fail
  refine (rd_err gs _ _ _ hs10).mono ?_
  rintro e w11 ⟨rfl, rfl⟩
  clear hs10
  go_wp2_with fail
  go_ret
  exact ⟨rfl, hB12⟩
end Go.Proofs.Ytafhkjljalmheaa
