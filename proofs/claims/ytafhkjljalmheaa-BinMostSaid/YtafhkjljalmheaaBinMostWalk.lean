/- The walk of rolodexlaw3.BinMost. -/
import Derived.Test.YtafhkjljalmheaaAwake3
import Derived.Test.YtafhkjljalmheaaBinPlain2
namespace Go.Proofs.Ytafhkjljalmheaa
open Go.RowKit
set_option linter.unusedVariables false
attribute [local go_sem] left_some left_none endN_nil endN_cons endN_none errN_some errN_none
set_option maxRecDepth 4000 in
set_option maxHeartbeats 1000000 in
theorem binMost_walk (a0 a1 : Int) (w : World) (w0 : (Lit.int .i64 a0).wf = true) (w1 : (Lit.int .i64 a1).wf = true) :
    Calls Try.prog 8 #[.int .i64 a0, .int .i64 a1] w fun e w' => e = .returned (.bool true) ∧ Below w.heap.size w w' := by
  have WF := Lib.hid w1
  have hi1 := wf_i64' w1
  clear w0 w1
  by_cases h0 : a0 < 0
  · go_enter Try.func8, Try.ntmps8
    go_wp2_with fail
    refine (awake3 w).mono ?_
    rintro e w0 ⟨rfl, hB0⟩
    go_wp2_with fail
    go_ret
    exact ⟨rfl, hB0⟩
  · by_cases h300 : 300 < a0
    · go_enter Try.func8, Try.ntmps8
      go_wp2_with fail
      refine (awake3 w).mono ?_
      rintro e w0 ⟨rfl, hB0⟩
      go_wp2_with fail
      go_ret
      exact ⟨rfl, hB0⟩
    · obtain ⟨n, rfl⟩ := Int.eq_ofNat_of_zero_le (show 0 ≤ a0 by omega)
      have hn : n ≤ 300 := by omega
      obtain ⟨s, hs⟩ : ∃ s : List UInt8, s = List.replicate n 0 := ⟨_, rfl⟩
      have hsl : s.length = n := by rw [hs]; simp
      have HS := Lib.hid hs
      have HSL := Lib.hid hsl
      have hen := BinP.enc_len n
      have hes := BinP.enc_len s.length
      clear hs hsl
      go_enter Try.func8, Try.ntmps8
      go_wp2_with fail
      refine (awake3 w).mono ?_
      rintro e w0 ⟨rfl, hB0⟩
      have hs0 := hB0.size
      go_wp2_with fail
      refine (bin_uint none 0 0 n [] 0 w0 rfl Row.nil (by omega) (by omega) (by have := two64_eq; omega)).mono ?_
      rintro e w1 ⟨A1, n1, c1, rfl, hO1, hB1⟩
      have hrow1 := hO1.row
      rw [List.nil_append] at hrow1
      have hl1 := Lib.hid hO1.len
      have hn1 : n1 ≤ 10 := by have := hO1.len; simp at this; omega
      have hB2 := hB0.trans (hB1.mono hs0)
      clear hO1 hB0 hB1
      go_wp2_with fail
      refine (bin_read A1 n1 c1 (BinP.enc n) w1.heap.size w1 (by have := hl1.out; simpa using this) hrow1 (Nat.le_refl _) (by omega)).mono ?_
      rintro e w2 ⟨ga, rfl, ha, hB3⟩
      have hB4 := hB2.trans (hB3.mono hB2.size)
      have hga := ha.base_le
      simp at hga
      have hs2 := hB4.size
      have hs1 := hB2.size
      clear hB2 hB3 hrow1
      go_wp2_with (refine wpList_make8 (dst := some 22) w.heap.size n .i64 .i64 rfl rfl rfl hs2 (by omega) ?_; intro w3 hO3 hB5 hs3; rw [← HS.out] at hO3; have hrow3 := hO3.row; refine wpList_str8 (dst := some 23) _ n n _ s rfl rfl HSL.out hrow3 ?_)
      have hB6 := hB4.trans (hB5.mono hs2)
      have ha3 := ha.below hB5
      clear hO3 hB5 hrow3 hB4 ha
      refine (bin_text none 0 0 [] s 0 w3 rfl Row.nil (by omega) (by have := HSL.out; omega)).mono ?_
      rintro e w4 ⟨A4, n4, c4, rfl, hO4, hB7⟩
      have hrow4 := hO4.row
      rw [List.nil_append] at hrow4
      have hl4 := Lib.hid hO4.len
      have hn4 : n4 ≤ 310 := by have := hO4.len; have := HSL.out; simp [BinP.text] at *; omega
      have hB8 := hB6.trans (hB7.mono hB6.size)
      have ha4 := ha3.below hB7
      have hs34 := hB7.size
      clear hO4 hB7 hB6 ha3
      go_wp2_with fail
      refine (bin_read A4 n4 c4 (BinP.text s) w4.heap.size w4 (by have := hl4.out; simpa using this) hrow4 (Nat.le_refl _) (by omega)).mono ?_
      rintro e w5 ⟨gb, rfl, hb, hB9⟩
      have hB10 := hB8.trans (hB9.mono hB8.size)
      have ha5 := ha4.below hB9
      have hgb := hb.base_le
      simp at hgb
      have hg4 := ha4.base_le
      simp at hg4
      have hs5 := hB10.size
      have hs4 := hB8.size
      clear hB8 hB9 hrow4 ha4
      by_cases hm : a1 < (n : Int)
      · have p1 := BinP.pInt_most n a1 (by have := two64_eq; omega) hm
        have p2 := BinP.pText_most s a1 (by have := two64_eq; have := HSL.out; omega) (by have := HSL.out; omega)
        have P1 := Lib.hid p1
        have P2 := Lib.hid p2
        clear p1 p2
        go_wp2_with fail
        refine (rd_int ga _ _ _ a1 WF.out ha5).mono ?_
        rw [P1.out]
        rintro e w6 ⟨rfl, ha6, hg6⟩
        have hB11 := hB10.trans (Below.of_grown hg6 hs5 (by omega))
        have hb6 := hb.other hg6 (.inl (by simp; omega))
        clear hb ha5 hg6 hB10
        go_wp2_with fail
        refine (rd_text gb _ _ _ a1 WF.out hb6).mono ?_
        rw [P2.out]
        rintro e w7 ⟨rfl, hb7, hg7⟩
        have hB12 := hB11.trans (Below.of_grown hg7 hB11.size (by omega))
        have ha7 := ha6.other hg7 (.inr (by simp; omega))
        clear hb6 ha6 hg7 hB11
        go_wp2_with fail
        refine (rd_err ga _ _ _ ha7).mono ?_
        rintro e w8 ⟨rfl, rfl⟩
        go_wp2_with fail
        refine (rd_err gb _ _ _ hb7).mono ?_
        rintro e w8 ⟨rfl, rfl⟩
        go_wp2_with fail
        go_ret
        exact ⟨rfl, hB12⟩
      · have p1 := BinP.pInt_just n a1 (by have := two64_eq; omega) (by omega)
        have p2 := BinP.pText_just s a1 (by have := two64_eq; have := HSL.out; omega) (by have := HSL.out; omega)
        have P1 := Lib.hid p1
        have P2 := Lib.hid p2
        clear p1 p2
        go_wp2_with fail
        refine (rd_int ga _ _ _ a1 WF.out ha5).mono ?_
        rw [P1.out]
        rintro e w6 ⟨rfl, ha6, hg6⟩
        have hB11 := hB10.trans (Below.of_grown hg6 hs5 (by omega))
        have hb6 := hb.other hg6 (.inl (by simp; omega))
        clear hb ha5 hg6 hB10
        go_wp2_with fail
        refine (rd_text gb _ _ _ a1 WF.out hb6).mono ?_
        rw [P2.out]
        rintro e w7 ⟨rfl, hb7, hg7⟩
        have hB12 := hB11.trans (Below.of_grown hg7 hB11.size (by omega))
        have ha7 := ha6.other hg7 (.inr (by simp; omega))
        clear hb6 ha6 hg7 hB11
        have hsl := HSL.out
        go_wp2_with fail
        refine (rd_end ga _ _ _ ha7).mono ?_
        rintro e w8 ⟨rfl, rfl⟩
        go_wp2_with fail
        refine (rd_end gb _ _ _ hb7).mono ?_
        rintro e w8 ⟨rfl, rfl⟩
        go_wp2_with fail
        go_ret
        exact ⟨rfl, hB12⟩
end Go.Proofs.Ytafhkjljalmheaa
