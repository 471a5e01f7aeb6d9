/- The walk of rolodexlaw3.BinCut. -/
import Derived.Test.YtafhkjljalmheaaAwake3
import Derived.Test.YtafhkjljalmheaaBinPlain2
namespace Go.Proofs.Ytafhkjljalmheaa
open Go.RowKit
set_option linter.unusedVariables false
attribute [local go_sem] left_some left_none endN_nil endN_cons endN_none errN_some errN_none
set_option maxRecDepth 4000 in
set_option maxHeartbeats 1000000 in
theorem binCut_walk (a0 : Int) (s1 : ByteArray) (a2 : Int) (w : World) (w0 : (Lit.int .u64 a0).wf = true) (z1 : s1.data.toList.length ≤ 140737488351232) (w2 : (Lit.int .i64 a2).wf = true) :
    Calls Try.prog 7 #[.int .u64 a0, .string s1, .int .i64 a2] w fun e w' => e = .returned (.bool true) ∧ Below w.heap.size w w' := by
  obtain ⟨v, rfl, hv⟩ := u64_arg w0
  obtain ⟨s, rfl, _⟩ := str_of s1
  have hz : s.length ≤ 140737488351232 := by simpa using z1
  clear z1 w0
  have ha2 := wf_i64' w2
  obtain ⟨L, hL⟩ : ∃ L, L = (BinP.enc v ++ BinP.text s).length := ⟨_, rfl⟩
  have HL := Lib.hid hL
  have HV := Lib.hid hv
  clear hL hv w2
  by_cases h500 : 500 < s.length
  · go_enter Try.func7, Try.ntmps7
    go_wp2_with fail
    refine (awake3 w).mono ?_
    rintro e w0 ⟨rfl, hB0⟩
    go_wp2_with fail
    go_ret
    exact ⟨rfl, hB0⟩
  · go_enter Try.func7, Try.ntmps7
    go_wp2_with fail
    refine (awake3 w).mono ?_
    rintro e w0 ⟨rfl, hB0⟩
    have hs0 := hB0.size
    go_wp2_with fail
    refine (bin_uint none 0 0 v [] 0 w0 rfl Row.nil (by omega) (by omega) HV.out).mono ?_
    rintro e w1 ⟨A1, n1, c1, rfl, hO1, hB1⟩
    have hrow1 := hO1.row
    have hn1 : n1 ≤ 10 := by have := hO1.len; have := BinP.enc_len v; simp at *; omega
    have hlen1 := Lib.hid hO1.len
    have hB2 := hB0.trans (hB1.mono hs0)
    clear hO1 hB0 hB1
    go_wp2_with fail
    refine (bin_text A1 n1 c1 _ s w1.heap.size w1 hlen1.out hrow1 (Nat.le_refl _) (by omega)).mono ?_
    rintro e w2 ⟨A2, n2, c2, rfl, hO2, hB3⟩
    have hrow2 := hO2.row
    have hcap2 := hO2.le.1
    have hB4 := hB2.trans (hB3.mono hB2.size)
    obtain rfl : n2 = L := by rw [HL.out, ← hO2.len]; simp
    have hn2 : n2 ≤ 520 := by
      have e1 := BinP.enc_len v
      have e2 := BinP.enc_len s.length
      rw [HL.out, List.length_append, BinP.text, List.length_append]
      omega
    clear hO2 hB3 hB2 hrow1
    by_cases hc0 : a2 < 0
    · go_wp2_with fail
      go_ret
      exact ⟨rfl, hB4⟩
    · by_cases hc1 : (n2 : Int) ≤ a2
      · go_wp2_with fail
        go_ret
        exact ⟨rfl, hB4⟩
      · obtain ⟨k, rfl⟩ := Int.eq_ofNat_of_zero_le (show 0 ≤ a2 by omega)
        have hkn : k < n2 := by omega
        have hcut := BinP.cut_none v s k HV.out (by have := two64_eq; omega) (by rw [← HL.out]; exact hkn)
        have HC := Lib.hid hcut
        rw [List.nil_append] at hrow2
        have hrow3 := hrow2.cutTo k
        have hlk : ((BinP.enc v ++ BinP.text s).take k).length = k := by rw [List.length_take, ← HL.out]; omega
        have HLK := Lib.hid hlk
        clear hcut hlk hrow2
        have hs2 := hB4.size
        obtain ⟨t, ht⟩ : ∃ t, t = (BinP.enc v ++ BinP.text s).take k := ⟨_, rfl⟩
        rw [← ht] at HC HLK hrow3
        clear ht
        obtain ⟨st, hst⟩ : ∃ st, st = (BinP.pUint (some t)).2 := ⟨_, rfl⟩
        rw [← hst] at HC
        have HST := Lib.hid hst
        clear hst
        obtain ⟨tx, htx⟩ : ∃ tx, BinP.pText s.length st = (tx, none) := ⟨(BinP.pText s.length st).1, by rw [← HC.out]⟩
        have HTX := Lib.hid htx
        have q1 : BinP.pText 5 none = ([], none) := rfl
        have q2 : BinP.pInt 9 none = (0, none) := rfl
        have q3 : BinP.pByte none = (0, none) := rfl
        have q4 : BinP.pUint none = (0, none) := rfl
        have Q1 := Lib.hid q1
        have Q2 := Lib.hid q2
        have Q3 := Lib.hid q3
        have Q4 := Lib.hid q4
        clear htx q1 q2 q3 q4
        go_wp2_with fail
        refine (bin_read A2 k c2 t w2.heap.size w2 HLK.out hrow3 (Nat.le_refl _) (by omega)).mono ?_
        rintro e w3 ⟨g, rfl, hr3, hB5⟩
        have hB6 := hB4.trans (hB5.mono hs2)
        have hg := hr3.base_le
        clear hB4 hB5 hrow3
        go_wp2_with fail
        refine (rd_uint g _ _ _ hr3).mono ?_
        rw [← HST.out]
        rintro e w4 ⟨rfl, hr4, hg4⟩
        have hB7 := hB6.trans (Below.of_grown hg4 hB6.size (by omega))
        clear hr3 hB6 hg4
        go_wp2_with fail
        refine (rd_text g _ _ _ (s.length : Int) (WalkArith.wf_i64 (by omega)) hr4).mono ?_
        rw [HTX.out]
        rintro e w5 ⟨rfl, hr5, hg5⟩
        have hB8 := hB7.trans (Below.of_grown hg5 hB7.size (by omega))
        clear hr4 hB7 hg5
        go_wp2_with fail
        refine (rd_err g _ _ _ hr5).mono ?_
        rintro e w6 ⟨rfl, rfl⟩
        go_wp2_with fail
        refine (rd_end g _ _ _ hr5).mono ?_
        rintro e w6 ⟨rfl, rfl⟩
        go_wp2_with fail
        refine (rd_left g _ _ _ hr5).mono ?_
        rintro e w6 ⟨rfl, rfl⟩
        go_wp2_with fail
        refine (rd_uint g _ _ _ hr5).mono ?_
        rw [Q4.out]
        rintro e w6 ⟨rfl, hr6, hg6⟩
        have hB9 := hB8.trans (Below.of_grown hg6 hB8.size (by omega))
        clear hr5 hB8 hg6
        go_wp2_with fail
        refine (rd_text g _ _ _ 5 (by decide) hr6).mono ?_
        rw [Q1.out]
        rintro e w7 ⟨rfl, hr7, hg7⟩
        have hB10 := hB9.trans (Below.of_grown hg7 hB9.size (by omega))
        clear hr6 hB9 hg7
        go_wp2_with fail
        refine (rd_byte g _ _ _ hr7).mono ?_
        rw [Q3.out]
        rintro e w8 ⟨rfl, hr8, hg8⟩
        have hB11 := hB10.trans (Below.of_grown hg8 hB10.size (by omega))
        clear hr7 hB10 hg8
        go_wp2_with fail
        refine (rd_int g _ _ _ 9 (by decide) hr8).mono ?_
        rw [Q2.out]
        rintro e w9 ⟨rfl, hr9, hg9⟩
        have hB12 := hB11.trans (Below.of_grown hg9 hB11.size (by omega))
        clear hr8 hB11 hg9
        go_wp2_with fail
        go_ret
        exact ⟨rfl, hB12⟩
end Go.Proofs.Ytafhkjljalmheaa
