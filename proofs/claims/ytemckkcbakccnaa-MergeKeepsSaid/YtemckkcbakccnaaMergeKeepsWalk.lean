/- The walk of rolodexlaw10.MergeKeeps. -/
import Derived.Test.YtemckkcbakccnaaMergeThinsWalk
namespace Go.Proofs.Ytemckkcbakccnaa
open Go.RowKit
set_option linter.unusedVariables false
set_option maxRecDepth 100000 in
set_option maxHeartbeats 4000000 in
theorem mergeKeeps_walk (A0 : Option Addr) (n0 c0 : Nat) (l0 : List It) (A1 : Option Addr) (n1 c1 : Nat) (l1 : List Int) (a2 : Bool) (w : World) (b0 : ItemsIn w A0 n0 c0 l0) (z0 : n0 * 48 ≤ 140737488351232) (b1 : NumsIn .u64 w A1 n1 c1 l1) (z1 : n1 * 8 ≤ 140737488351232) :
    Calls Try.prog 6 #[.slice A0 n0 c0, .slice A1 n1 c1, .bool a2] w fun e w' => e = .returned (.bool true) ∧ Below w.heap.size w w' := by
  have hl := b0.is.len
  have hm := b0.is.le
  obtain ⟨ms, hN, hmm, _⟩ := ns_of b1
  have hkl := hN.len
  have HI := Lib.hid b0.is
  have HKl := Lib.hid b0.kln
  have HN := Lib.hid hN
  have HAw := Lib.hid (awake10 w)
  clear b0 b1 z0 z1 hN hmm
  go_enter Try.func6, Try.ntmps6
  go_upto_region 3 with (go_at_call 9; ((with_reducible refine HAw.out.mono ?_); rintro e w2 ⟨rfl, hB⟩; have HB2 := Lib.hid hB; clear hB))
  by_cases hbig : 80 < n0
  · have i1 : (80 : Int) < (n0 : Int) := by omega
    go_wp2_with fail
    go_ret
    exact ⟨rfl, HB2.out⟩
  have i1 : ¬ (80 : Int) < (n0 : Int) := by omega
  by_cases hbig2 : 20 < n1
  · have i2 : (20 : Int) < (n1 : Int) := by omega
    go_wp2_with fail
    go_ret
    exact ⟨rfl, HB2.out⟩
  have i2 : ¬ (20 : Int) < (n1 : Int) := by omega
  obtain ⟨s, hs⟩ : ∃ s, s = ItP.srt l0 := ⟨_, rfl⟩
  have HSr : Hid (Calls Try.prog 14 #[.slice A0 n0 c0] w2 fun e w' => e = .returned (.bool s) ∧ Grew w2 w') := Lib.hid (by rw [hs]; exact ref_sorted A0 n0 c0 l0 w2 ((HI.out.below HB2.out).more HB2.out.size) (by omega))
  have HS := Lib.hid hs
  clear hs
  cases s
  · go_wp2_with (go_at_call 14; ((with_reducible refine HSr.out.mono ?_); rintro e w3 ⟨rfl, hG⟩; have HG3 := Lib.hid hG; clear hG))
    go_ret
    exact ⟨rfl, HB2.out.trans (Below.mono HG3.out HB2.out.size)⟩
  go_upto_region 5 with (go_at_call 14; ((with_reducible refine HSr.out.mono ?_); rintro e w3 ⟨rfl, hG⟩; have HB3 := Lib.hid (HB2.out.trans (Below.mono hG HB2.out.size)); clear hG))
  have hsrt : ItP.Srt l0 := ItP.srt_iff.1 HS.out.symm
  obtain ⟨T, hT⟩ : ∃ T, T = MrgP.thin l0 ms a2 := ⟨_, rfl⟩
  have hTR : T = MrgP.thinR l0 ms a2 := by rw [hT, MrgP.thin_eq]
  have HTh : Hid (Calls Try.prog 13 #[.slice A0 n0 c0, .slice A1 n1 c1, .bool a2] w3 fun e w' => ∃ A n c, e = .returned (.slice A n c) ∧ OwnI w' w3.heap.size A n c T ∧ Grew w3 w') := Lib.hid (by rw [hT]; exact mrg_thin A0 A1 n0 c0 n1 c1 l0 ms a2 w3 ((HI.out.below HB3.out).more HB3.out.size) ((HN.out.below HB3.out).more HB3.out.size) (by omega) (by omega))
  have hsub : T.Sublist l0 := by rw [hTR]; exact MrgP.thin_sub hsrt ms a2
  have HTs := Lib.hid (show ItP.srt T = true from ItP.srt_iff.2 (by unfold ItP.Srt at *; exact hsrt.sublist hsub))
  have HTT := Lib.hid (show MrgP.thin T ms a2 = T by rw [MrgP.thin_eq, hTR]; exact MrgP.thin_again hsrt ms a2)
  have HEq : Hid (∀ q, (q = m64 - 1 ∨ q ∈ ms) → MrgP.seen T q = MrgP.seen l0 q) := Lib.hid fun q hq => by rw [hTR]; exact MrgP.thin_seen hsrt ms a2 hq
  have HTk : Hid (∀ x ∈ T, x.key.length ≤ maxLen) := Lib.hid fun x hx => HKl.out x (hsub.subset hx)
  have hTl := hsub.length_le
  clear hT hTR hsub hsrt HSr
  go_upto_region 6 with (go_at_call 13; ((with_reducible refine HTh.out.mono ?_); rintro e w4 ⟨A7, n7, c7, rfl, hO, hG⟩; have HO4 := Lib.hid hO; have HB4 := Lib.hid (HB3.out.trans (Below.mono hG HB3.out.size)); clear hO hG))
  have hn7 : n7 ≤ n0 := by have := HO4.out.len; omega
  have i3 : ¬ (n0 : Int) < (n7 : Int) := by omega
  have i4 : decide (n0 < n7) = false := by simp; omega
  have HIt : Hid (∀ W, Grew w4 W → Is W W.heap.size A7 n7 c7 T) := Lib.hid fun W hW => (HO4.out.below_all hW).is (Nat.le_refl _)
  have HIl : Hid (∀ W, Grew w4 W → Is W W.heap.size A0 n0 c0 l0) := Lib.hid fun W hW => (HI.out.below (HB4.out.trans (Below.mono hW HB4.out.size))).more (Nat.le_trans HB4.out.size hW.size)
  have HNl : Hid (∀ W, Grew w4 W → Ns W W.heap.size A1 n1 c1 ms) := Lib.hid fun W hW => (HN.out.below (HB4.out.trans (Below.mono hW HB4.out.size))).more (Nat.le_trans HB4.out.size hW.size)
  have HSt : Hid (∀ W, Grew w4 W → Calls Try.prog 14 #[.slice A7 n7 c7] W fun e w' => e = .returned (.bool true) ∧ Grew W w') := Lib.hid fun W hW => by rw [← HTs.out]; exact ref_sorted A7 n7 c7 T W (HIt.out W hW) (by omega)
  have HT2 : Hid (∀ W, Grew w4 W → Calls Try.prog 13 #[.slice A7 n7 c7, .slice A1 n1 c1, .bool a2] W fun e w' => ∃ A n c, e = .returned (.slice A n c) ∧ OwnI w' W.heap.size A n c T ∧ Grew W w') := Lib.hid fun W hW => by have := mrg_thin A7 A1 n7 c7 n1 c1 T ms a2 W (HIt.out W hW) (HNl.out W hW) (by omega) (by omega); rwa [HTT.out] at this
  have HSm : Hid (∀ (W : World) (A B : Option Addr) (n c m d : Nat) (x : List It), Is W W.heap.size A n c x → Is W W.heap.size B m d x → Calls Try.prog 16 #[.slice A n c, .slice B m d] W fun e w' => e = .returned (.bool true) ∧ Grew W w') := Lib.hid fun W A B n c m d x h1 h2 => (ref_same A B n c m d x x W h1 h2).mono fun e w' h => ⟨by rw [h.1, decide_eq_true rfl], h.2⟩
  have HGr := Lib.hid (Grew.refl w4)
  clear HO4 HB2 HB3 HTh HAw
  go_wp2_with (first
    | (go_at_call 14; ((with_reducible refine (HSt.out _ HGr.out).mono ?_); rintro e w5 ⟨rfl, hG⟩; have HGr := Lib.hid (Grew.trans HGr.out hG); clear hG))
    | (go_at_call 13; ((with_reducible refine (HT2.out _ HGr.out).mono ?_); rintro e w6 ⟨A6, n6, c6, rfl, hO, hG⟩; have HOt := Lib.hid hO; have HGr := Lib.hid (Grew.trans HGr.out hG); clear hO hG))
    | (go_at_call 16; ((with_reducible refine (HSm.out _ _ _ _ _ _ _ _ (HOt.out.is (Nat.le_refl _)) (HIt.out _ HGr.out)).mono ?_); rintro e w7 ⟨rfl, hG⟩; have HGr := Lib.hid (Grew.trans HGr.out hG); clear hG)))
  have HSe1 : Hid (∀ W (q : Nat), Grew w4 W → Calls Try.prog 11 #[.slice A7 n7 c7, .int .u64 (q : Int)] W fun e w' => ∃ A n c, e = .returned (.slice A n c) ∧ OwnI w' (W.heap.size + 1) A n c (MrgP.seen T q) ∧ Grew W w') := Lib.hid fun W q hW => mrg_seen A7 n7 c7 T q W (HIt.out W hW) HTk.out (by omega)
  have HSe2 : Hid (∀ W (q : Nat), Grew w4 W → Calls Try.prog 11 #[.slice A0 n0 c0, .int .u64 (q : Int)] W fun e w' => ∃ A n c, e = .returned (.slice A n c) ∧ OwnI w' (W.heap.size + 1) A n c (MrgP.seen l0 q) ∧ Grew W w') := Lib.hid fun W q hW => mrg_seen A0 n0 c0 l0 q W (HIl.out W hW) HKl.out (by omega)
  go_loopw [6, 8, 9] (fun _ i _ wy => ∃ k : Nat, k ≤ n1 + 1 ∧ i = .int .i64 (k : Int) ∧ Grew w4 wy) (fun _ i _ _ => n1 + 1 - (intOf i).toNat)
  case atStart => exact ⟨0, Nat.zero_le _, rfl, HGr.out⟩
  case round =>
    obtain ⟨k, hk, rfl, hG⟩ := hrel
    have HG := Lib.hid hG
    clear hG HGr
    have j0 : (0 : Int) ≤ (k : Int) := by omega
    by_cases hlt : k ≤ n1
    · have j1 : (k : Int) ≤ (n1 : Int) := by omega
      by_cases hlt2 : k < n1
      · have j2 : (k : Int) < (n1 : Int) := by omega
        obtain ⟨q, hq⟩ : ∃ q, ms[k]? = some q := ⟨_, List.getElem?_eq_getElem (by omega)⟩
        obtain ⟨g, o, rfl, _, q1⟩ := (HNl.out wr HG.out).at hq
        have HE := Lib.hid (HEq.out q (.inr (List.mem_of_getElem? hq)))
        have HA := Lib.hid (fun W hW => HSe1.out W q hW)
        have HBq := Lib.hid (fun W hW => HSe2.out W q hW)
        rw [HE.out] at HA
        clear hq HE
        go_wp2_with (first
          | (go_at_call 11; ((with_reducible refine (HA.out _ HG.out).mono ?_); rintro e w8 ⟨A8, n8, c8, rfl, hO, hG⟩; have HO8 := Lib.hid hO; have HG := Lib.hid (Grew.trans HG.out hG); clear hO hG))
          | (go_at_call 11; ((with_reducible refine (HBq.out _ HG.out).mono ?_); rintro e w9 ⟨A9, n9, c9, rfl, hO, hG⟩; have HO9 := Lib.hid hO; have HO8 := Lib.hid (HO8.out.below_all hG); have HG := Lib.hid (Grew.trans HG.out hG); clear hO hG))
          | (go_at_call 16; ((with_reducible refine (HSm.out _ _ _ _ _ _ _ _ (HO8.out.is (Nat.le_refl _)) (HO9.out.is (Nat.le_refl _))).mono ?_); rintro e w10 ⟨rfl, hG⟩; have HG := Lib.hid (Grew.trans HG.out hG); clear hG)))
        go_roundw
        case rel => exact ⟨k + 1, by omega, by go_num, HG.out⟩
        case measure => simp [intOf]; omega
      · have j2 : ¬ (k : Int) < (n1 : Int) := by omega
        have HE := Lib.hid (HEq.out (m64 - 1) (.inl rfl))
        have HA := Lib.hid (fun W hW => HSe1.out W (m64 - 1) hW)
        have HBq := Lib.hid (fun W hW => HSe2.out W (m64 - 1) hW)
        rw [HE.out] at HA
        rw [show ((m64 - 1 : Nat) : Int) = 18446744073709551615 from rfl] at HA HBq
        clear HE
        go_wp2_with (first
          | (go_at_call 11; ((with_reducible refine (HA.out _ HG.out).mono ?_); rintro e w8 ⟨A8, n8, c8, rfl, hO, hG⟩; have HO8 := Lib.hid hO; have HG := Lib.hid (Grew.trans HG.out hG); clear hO hG))
          | (go_at_call 11; ((with_reducible refine (HBq.out _ HG.out).mono ?_); rintro e w9 ⟨A9, n9, c9, rfl, hO, hG⟩; have HO9 := Lib.hid hO; have HO8 := Lib.hid (HO8.out.below_all hG); have HG := Lib.hid (Grew.trans HG.out hG); clear hO hG))
          | (go_at_call 16; ((with_reducible refine (HSm.out _ _ _ _ _ _ _ _ (HO8.out.is (Nat.le_refl _)) (HO9.out.is (Nat.le_refl _))).mono ?_); rintro e w10 ⟨rfl, hG⟩; have HG := Lib.hid (Grew.trans HG.out hG); clear hG)))
        go_roundw
        case rel => exact ⟨k + 1, by omega, by go_num, HG.out⟩
        case measure => simp [intOf]; omega
    · have j1 : ¬ (k : Int) ≤ (n1 : Int) := by omega
      go_wp2_with fail
      go_ret
      exact ⟨rfl, HB4.out.trans (Below.mono HG.out HB4.out.size)⟩
end Go.Proofs.Ytemckkcbakccnaa
