/- The walk of rolodexlaw3.BinReads. -/
import Derived.Test.YtafhkjljalmheaaAwake3
import Derived.Test.YtafhkjljalmheaaBinGet2
import Derived.Test.YtafhkjljalmheaaOpenN
import Derived.Deep.CutRange
import Derived.Deep.DeepCutAuto
import Derived.Deep.CutBlock
namespace Go.Proofs.Ytafhkjljalmheaa
open Go.RowKit
set_option linter.unusedVariables false
attribute [local go_sem] left_some left_none endN_nil endN_cons endN_none errN_some errN_none
/-- what the law keeps beside the reader: what is left, and whether all was fine -/
def SideH (w : World) (B : Nat) (st : BinP.St) (r o : Value) : Prop :=
  o = .bool st.isSome ∧ ∃ A n c, r = .slice A n c ∧ Sl w B A n c (st.getD [])
def SideC (w : World) (B : Nat) (st : BinP.St) (r o : Value) : Prop :=
  o = .bool st.isSome ∧ ∃ A n c, r = .slice A n c ∧ ∀ l, st = some l → Sl w B A n c l
theorem pUint_num {l : List UInt8} (h : BinP.num l = none) : BinP.pUint (some l) = (0, none) := by simp [BinP.pUint, h]
theorem pUint_num1 {l : List UInt8} {v k : Nat} (h : BinP.num l = some (v, k)) : BinP.pUint (some l) = (v, some (l.drop k)) := by simp [BinP.pUint, h]
theorem pInt_z {a : Int} {st : BinP.St} (h : (BinP.pInt a st).2 = none) : BinP.pInt a st = (0, none) := by
  rcases st with _ | l
  · rfl
  · unfold BinP.pInt at *
    simp only at *
    split at h
    · simp_all
    · rename_i e
      split at h
      · simp_all
      · cases h
theorem pText_z {a : Int} {st : BinP.St} (h : (BinP.pText a st).2 = none) : BinP.pText a st = ([], none) := by
  unfold BinP.pText at *
  split at h
  · rfl
  · split at h
    · rename_i e; simp [e]
    · cases h
set_option maxRecDepth 4000 in
set_option maxHeartbeats 1000000 in
theorem binReads_walk (A0 : Option Addr) (n0 c0 : Nat) (l0 : List UInt8) (A1 : Option Addr) (n1 c1 : Nat) (l1 : List Int) (a2 : Int) (w : World) (b0 : BytesIn w A0 n0 c0 l0) (z0 : n0 * 1 ≤ 140737488351232) (b1 : NumsIn .i64 w A1 n1 c1 l1) (z1 : n1 * 8 ≤ 140737488351232) (w2 : (Lit.int .i64 a2).wf = true) :
    Calls Try.prog 5 #[.slice A0 n0 c0, .slice A1 n1 c1, .int .i64 a2] w fun e w' => e = .returned (.bool true) ∧ Below w.heap.size w w' := by
  have WF := Lib.hid w2
  obtain ⟨hn0, hnc0, hcm0, hr0⟩ := b0
  obtain ⟨hn1, hnc1, hcm1, hr1, hwf1⟩ := b1
  have HWF1 := Lib.hid hwf1
  subst hn0 hn1
  unfold maxLen at hcm0 hcm1
  clear w2 hwf1
  by_cases h50 : 50 < l1.length
  · go_enter Try.func5, Try.ntmps5
    go_wp2_with fail
    refine (awake3 w).mono ?_
    rintro e w1 ⟨rfl, hB0⟩
    go_wp2_with fail
    go_ret
    exact ⟨rfl, hB0⟩
  · go_enter Try.func5, Try.ntmps5
    go_wp2_with fail
    refine (awake3 w).mono ?_
    rintro e w1 ⟨rfl, hB0⟩
    have hs0 := hB0.size
    have hr0' := hr0.below hB0
    go_wp2_with (first | (refine wpList_str8 (dst := some 30) A0 l0.length c0 w.heap.size l0 rfl rfl rfl hr0' ?_) | (refine wpList_bytes8 (dst := some 31) w.heap.size l0 rfl rfl hs0 (by unfold maxLen; omega) ?_; intro cap2 w2 hO2 hB1 hs2))
    have hB2 := hB0.trans (hB1.mono hs0)
    refine (bin_read _ _ _ l0 w2.heap.size w2 rfl hO2.row (Nat.le_refl _) (by omega)).mono ?_
    rintro e w3 ⟨g, rfl, hrd3, hB3⟩
    have hO3 := hO2.below_all hB3
    have hB4 := hB2.trans (hB3.mono hB2.size)
    have hg3 := hrd3.base_le
    simp only at hg3
    have hs3 := hB3.size
    clear hO2 hr0' hB0 hB1 hB2 hB3
    go_wp2_with fail
    go_loopw [9] (fun i wr => ∃ k l, k ≤ l0.length ∧ i = .int .i64 (k : Nat) ∧ OwnB wr w.heap.size (some ⟨w1.heap.size, 0, none⟩) l0.length cap2 l ∧ RdS wr (w2.heap.size, w3.heap.size) g (some l0) ∧ Below w.heap.size w wr) (fun i _ => l0.length - (intOf i).toNat)
    case atStart => exact ⟨0, l0, by omega, rfl, hO3, hrd3, hB4⟩
    case round =>
      obtain ⟨k, l, hk, rfl, hO, hrd, hB⟩ := hrel
      clear hO3 hrd3 hB4
      by_cases hlt : k < l0.length
      · obtain ⟨v, hcv⟩ : ∃ v, wr.cell? ⟨w1.heap.size, k, none⟩ = some v := ⟨_, hO.cell (j := k) (by have := hO.len; omega)⟩
        have hf := hO.frozen hlt
        have hset := hO.set hlt 0
        have hrd' := hrd.other (grown_set wr w1.heap.size k (.int .u8 0)) (.inl (by simp; omega))
        have hB' := hB.trans (Below.of_grown (grown_set wr w1.heap.size k (.int .u8 0)) hB.size hs0)
        clear hO hrd hB
        go_wp2
        go_roundw
        case rel => exact ⟨k + 1, _, by omega, by go_num, hset, hrd', hB'⟩
        case measure => simp [intOf]; omega
      · clear hO
        go_wp2_with fail
        go_loopw [10, 11, 12] (fun r o i wr => ∃ k st, k ≤ l1.length ∧ i = .int .i64 (k : Nat) ∧ RdS wr (w2.heap.size, w3.heap.size) g st ∧ SideH wr w.heap.size st r o ∧ Below w.heap.size w wr) (fun _ _ i _ => l1.length - (intOf i).toNat)
        case atStart => exact ⟨0, some l0, by omega, rfl, hrd, ⟨rfl, _, _, _, rfl, rfl, hnc0, by unfold maxLen; omega, hr0.below hB⟩, hB⟩
        case round =>
          obtain ⟨k, st, hk, rfl, hrd5, ⟨rfl, A, n, c, rfl, hsl⟩, hB5⟩ := hrel
          clear hrd hB
          by_cases hlt : k < l1.length
          · obtain ⟨ad, hA, _, hcz⟩ := (hr1.below hB5).at_ k (by rw [List.length_map]; exact hlt)
            subst hA
            rw [List.getElem_map] at hcz
            obtain ⟨z, hz⟩ : ∃ z, z = l1[k] := ⟨_, rfl⟩
            rw [← hz] at hcz
            have hzw := wf_i64' (HWF1.out z (by rw [hz]; exact List.getElem_mem hlt))
            clear hz
            go_upto_block 4 with fail
            go_cut [10, 11, 13, 14, 15, 16, 17, 18, 19, 20, 21, 22, 23] from 44 to 194 (fun r o _ _ _ _ _ _ _ _ _ _ _ wx => ∃ st', RdS wx (w2.heap.size, w3.heap.size) g st' ∧ SideC wx w.heap.size st' r o ∧ Below w.heap.size w wx)
            case first =>
              by_cases hz0 : z = 0
              · as_aux_lemma =>
                  subst hz0
                  rcases st with _ | L
                  · have HP := Lib.hid (show BinP.pUint none = (0, none) from rfl)
                    have HQ := Lib.hid (show BinP.num [] = none from rfl)
                    go_wp2_with fail
                    refine (ref_get A n c _ w.heap.size _ hsl).mono ?_
                    rintro e w6 ⟨hgot, j, rfl⟩
                    rcases hgot with ⟨_, v, A8, n8, c8, rfl⟩ | ⟨v, j8, A8, n8, c8, hv, rfl, hsl8⟩
                    · go_wp2_with fail
                      refine (rd_uint g none _ (wr.drewN j) hrd5).mono ?_
                      rw [HP.out]
                      rintro e w8 ⟨rfl, hrd8, hg8'⟩
                      have hg8 := of_drewN hg8'
                      go_wp2_with fail
                      go_meet
                      exact ⟨none, hrd8, ⟨rfl, _, _, _, rfl, fun _ h => by cases h⟩, hB5.trans (Below.of_grown hg8 hB5.size (by omega))⟩
                    · have := HQ.out
                      simp only [Option.getD] at hv
                      rw [this] at hv
                      cases hv
                  · rcases hnum : BinP.num L with _ | ⟨v0, k0⟩
                    · have HP := Lib.hid (pUint_num hnum)
                      have HQ := Lib.hid hnum
                      clear hnum
                      go_wp2_with fail
                      refine (ref_get A n c _ w.heap.size _ hsl).mono ?_
                      rintro e w6 ⟨hgot, j, rfl⟩
                      rcases hgot with ⟨_, v, A8, n8, c8, rfl⟩ | ⟨v, j8, A8, n8, c8, hv, rfl, hsl8⟩
                      · go_wp2_with fail
                        refine (rd_uint g (some L) _ (wr.drewN j) hrd5).mono ?_
                        rw [HP.out]
                        rintro e w8 ⟨rfl, hrd8, hg8'⟩
                        have hg8 := of_drewN hg8'
                        go_wp2_with fail
                        go_meet
                        exact ⟨none, hrd8, ⟨rfl, _, _, _, rfl, fun _ h => by cases h⟩, hB5.trans (Below.of_grown hg8 hB5.size (by omega))⟩
                      · have := HQ.out
                        simp only [Option.getD] at hv
                        rw [this] at hv
                        cases hv
                    · have HP := Lib.hid (pUint_num1 hnum)
                      have HQ := Lib.hid hnum
                      clear hnum
                      go_wp2_with fail
                      refine (ref_get A n c _ w.heap.size _ hsl).mono ?_
                      rintro e w6 ⟨hgot, j, rfl⟩
                      rcases hgot with ⟨hv, _⟩ | ⟨v, j8, A8, n8, c8, hv, rfl, hsl8⟩
                      · have := HQ.out
                        simp only [Option.getD] at hv
                        rw [this] at hv
                        cases hv
                      · have hq := HQ.out
                        simp only [Option.getD] at hv
                        rw [hq] at hv
                        cases hv
                        go_wp2_with fail
                        refine (rd_uint g (some L) _ (wr.drewN j) hrd5).mono ?_
                        rw [HP.out]
                        rintro e w8 ⟨rfl, hrd8, hg8'⟩
                        have hg8 := of_drewN hg8'
                        have hsl9 := hsl8.below (Below.of_grown hg8 hB5.size (by omega))
                        go_wp2_with fail
                        go_meet
                        exact ⟨some _, hrd8, ⟨rfl, _, _, _, rfl, fun _ h => by injection h with h; subst h; exact hsl9⟩, hB5.trans (Below.of_grown hg8 hB5.size (by omega))⟩
              · by_cases hz1 : z = 1
                · as_aux_lemma =>
                    subst hz1
                    rcases st with _ | L
                    · have HP := Lib.hid (show BinP.pInt a2 none = (0, none) from rfl)
                      have HQ := Lib.hid (show BinP.pInt a2 (some []) = (0, none) from rfl)
                      go_wp2_with fail
                      refine (ref_small A n c _ w.heap.size _ a2 WF.out hsl).mono ?_
                      rintro e w6 ⟨hgot, j, rfl⟩
                      rcases hgot with ⟨_, rfl⟩ | ⟨v, r8, A8, n8, c8, hv, rfl, hsl8⟩
                      · go_wp2_with fail
                        refine (rd_int g none _ (wr.drewN j) a2 WF.out hrd5).mono ?_
                        rw [HP.out]
                        rintro e w8 ⟨rfl, hrd8, hg8'⟩
                        have hg8 := of_drewN hg8'
                        go_wp2_with fail
                        go_meet
                        exact ⟨none, hrd8, ⟨rfl, _, _, _, rfl, fun _ h => by cases h⟩, hB5.trans (Below.of_grown hg8 hB5.size (by omega))⟩
                      · have := HQ.out
                        simp only [Option.getD] at hv
                        rw [this] at hv
                        cases hv
                    · rcases hnum : BinP.pInt a2 (some L) with ⟨v0, _ | r0⟩
                      · have HP := Lib.hid (pInt_z (show (BinP.pInt a2 (some L)).2 = none by rw [hnum]))
                        have HQ := Lib.hid hnum
                        clear hnum
                        go_wp2_with fail
                        refine (ref_small A n c _ w.heap.size _ a2 WF.out hsl).mono ?_
                        rintro e w6 ⟨hgot, j, rfl⟩
                        rcases hgot with ⟨_, rfl⟩ | ⟨v, r8, A8, n8, c8, hv, rfl, hsl8⟩
                        · go_wp2_with fail
                          refine (rd_int g (some L) _ (wr.drewN j) a2 WF.out hrd5).mono ?_
                          rw [HP.out]
                          rintro e w8 ⟨rfl, hrd8, hg8'⟩
                          have hg8 := of_drewN hg8'
                          go_wp2_with fail
                          go_meet
                          exact ⟨none, hrd8, ⟨rfl, _, _, _, rfl, fun _ h => by cases h⟩, hB5.trans (Below.of_grown hg8 hB5.size (by omega))⟩
                        · have := HQ.out
                          simp only [Option.getD] at hv
                          rw [this] at hv
                          cases hv
                      · have HP := Lib.hid (hnum)
                        have HQ := Lib.hid hnum
                        clear hnum
                        go_wp2_with fail
                        refine (ref_small A n c _ w.heap.size _ a2 WF.out hsl).mono ?_
                        rintro e w6 ⟨hgot, j, rfl⟩
                        rcases hgot with ⟨hv, _⟩ | ⟨v, r8, A8, n8, c8, hv, rfl, hsl8⟩
                        · have := HQ.out
                          simp only [Option.getD] at hv
                          rw [this] at hv
                          cases hv
                        · have hq := HQ.out
                          simp only [Option.getD] at hv
                          rw [hq] at hv
                          cases hv
                          go_wp2_with fail
                          refine (rd_int g (some L) _ (wr.drewN j) a2 WF.out hrd5).mono ?_
                          rw [HP.out]
                          rintro e w8 ⟨rfl, hrd8, hg8'⟩
                          have hg8 := of_drewN hg8'
                          have hsl9 := hsl8.below (Below.of_grown hg8 hB5.size (by omega))
                          go_wp2_with fail
                          go_meet
                          exact ⟨some _, hrd8, ⟨rfl, _, _, _, rfl, fun _ h => by injection h with h; subst h; exact hsl9⟩, hB5.trans (Below.of_grown hg8 hB5.size (by omega))⟩
                · by_cases hz2 : z = 2
                  · as_aux_lemma =>
                      subst hz2
                      rcases st with _ | L
                      · have HP := Lib.hid (show BinP.pText a2 none = ([], none) from rfl)
                        have HQ := Lib.hid (show BinP.pText a2 (some []) = ([], none) from rfl)
                        go_wp2_with fail
                        refine (ref_string A n c _ w.heap.size _ a2 WF.out hsl).mono ?_
                        rintro e w6 ⟨hgot, j, rfl⟩
                        rcases hgot with ⟨_, rfl⟩ | ⟨v, r8, A8, n8, c8, hv, rfl, hsl8⟩
                        · go_wp2_with fail
                          refine (rd_text g none _ (wr.drewN j) a2 WF.out hrd5).mono ?_
                          rw [HP.out]
                          rintro e w8 ⟨rfl, hrd8, hg8'⟩
                          have hg8 := of_drewN hg8'
                          go_wp2_with fail
                          go_meet
                          exact ⟨none, hrd8, ⟨rfl, _, _, _, rfl, fun _ h => by cases h⟩, hB5.trans (Below.of_grown hg8 hB5.size (by omega))⟩
                        · have := HQ.out
                          simp only [Option.getD] at hv
                          rw [this] at hv
                          cases hv
                      · rcases hnum : BinP.pText a2 (some L) with ⟨v0, _ | r0⟩
                        · have HP := Lib.hid (pText_z (show (BinP.pText a2 (some L)).2 = none by rw [hnum]))
                          have HQ := Lib.hid hnum
                          clear hnum
                          go_wp2_with fail
                          refine (ref_string A n c _ w.heap.size _ a2 WF.out hsl).mono ?_
                          rintro e w6 ⟨hgot, j, rfl⟩
                          rcases hgot with ⟨_, rfl⟩ | ⟨v, r8, A8, n8, c8, hv, rfl, hsl8⟩
                          · go_wp2_with fail
                            refine (rd_text g (some L) _ (wr.drewN j) a2 WF.out hrd5).mono ?_
                            rw [HP.out]
                            rintro e w8 ⟨rfl, hrd8, hg8'⟩
                            have hg8 := of_drewN hg8'
                            go_wp2_with fail
                            go_meet
                            exact ⟨none, hrd8, ⟨rfl, _, _, _, rfl, fun _ h => by cases h⟩, hB5.trans (Below.of_grown hg8 hB5.size (by omega))⟩
                          · have := HQ.out
                            simp only [Option.getD] at hv
                            rw [this] at hv
                            cases hv
                        · have HP := Lib.hid (hnum)
                          have HQ := Lib.hid hnum
                          clear hnum
                          go_wp2_with fail
                          refine (ref_string A n c _ w.heap.size _ a2 WF.out hsl).mono ?_
                          rintro e w6 ⟨hgot, j, rfl⟩
                          rcases hgot with ⟨hv, _⟩ | ⟨v, r8, A8, n8, c8, hv, rfl, hsl8⟩
                          · have := HQ.out
                            simp only [Option.getD] at hv
                            rw [this] at hv
                            cases hv
                          · have hq := HQ.out
                            simp only [Option.getD] at hv
                            rw [hq] at hv
                            cases hv
                            go_wp2_with fail
                            refine (rd_text g (some L) _ (wr.drewN j) a2 WF.out hrd5).mono ?_
                            rw [HP.out]
                            rintro e w8 ⟨rfl, hrd8, hg8'⟩
                            have hg8 := of_drewN hg8'
                            have hsl9 := hsl8.below (Below.of_grown hg8 hB5.size (by omega))
                            go_wp2_with fail
                            go_meet
                            exact ⟨some _, hrd8, ⟨rfl, _, _, _, rfl, fun _ h => by injection h with h; subst h; exact hsl9⟩, hB5.trans (Below.of_grown hg8 hB5.size (by omega))⟩
                  · as_aux_lemma =>
                      have hb0 : (z == 0) = false := by simp [hz0]
                      have hb1 : (z == 1) = false := by simp [hz1]
                      have hb2 : (z == 2) = false := by simp [hz2]
                      clear hz0 hz1 hz2
                      rcases st with _ | L
                      · have hn8 : n < 1 := by have := hsl.1; simp at this; omega
                        go_wp2_with fail
                        refine (rd_byte g none _ _ hrd5).mono ?_
                        rw [show BinP.pByte none = (0, none) from rfl]
                        rintro e w8 ⟨rfl, hrd8, hg8⟩
                        go_wp2_with fail
                        go_meet
                        exact ⟨none, hrd8, ⟨rfl, _, _, _, rfl, fun _ h => by cases h⟩, hB5.trans (Below.of_grown hg8 hB5.size (by omega))⟩
                      · rcases L with _ | ⟨x, L⟩
                        · have hn8 : n < 1 := by have := hsl.1; simp at this; omega
                          go_wp2_with fail
                          refine (rd_byte g (some []) _ _ hrd5).mono ?_
                          rw [show BinP.pByte (some []) = (0, none) from rfl]
                          rintro e w8 ⟨rfl, hrd8, hg8⟩
                          go_wp2_with fail
                          go_meet
                          exact ⟨none, hrd8, ⟨rfl, _, _, _, rfl, fun _ h => by cases h⟩, hB5.trans (Below.of_grown hg8 hB5.size (by omega))⟩
                        · have hn8 : 0 < n := by have := hsl.1; simp at this; omega
                          obtain ⟨ad8, hA8, _, hc8⟩ := hsl.2.2.2 0 (b8 x) rfl
                          subst hA8
                          have hc8' : wr.cell? ad8 = some (b8 x) := hc8
                          have hnc8 := hsl.2.1
                          have hcm8 := hsl.2.2.1
                          unfold maxLen at hcm8
                          have HS := Lib.hid hsl
                          clear hsl
                          by_cases hcut : c = 1
                          · have HS2 := Lib.hid (show Sl wr w.heap.size (some ad8) (n - 1) 0 L from ⟨by have := HS.out.1; simp at this; omega, by omega, Nat.zero_le _, HS.out.2.2.2.cut0 (n := 1) (c := 1) (by simp) (by have := HS.out.1; simp only [Option.getD, List.length_cons] at this ⊢; omega) rfl⟩)
                            go_wp2_with fail
                            refine (rd_byte g (some (x :: L)) _ _ hrd5).mono ?_
                            rw [show BinP.pByte (some (x :: L)) = (x, some L) from rfl]
                            rintro e w8 ⟨rfl, hrd8, hg8⟩
                            have hsl9 := HS2.out.below (Below.of_grown hg8 hB5.size (by omega))
                            go_wp2_with fail
                            go_meet
                            exact ⟨some _, hrd8, ⟨rfl, _, _, _, rfl, fun _ h => by injection h with h; subst h; exact hsl9⟩, hB5.trans (Below.of_grown hg8 hB5.size (by omega))⟩
                          · have HS2 := Lib.hid (show Sl wr w.heap.size (some (ad8.add 1)) (n - 1) (c - 1) L from ⟨by have := HS.out.1; simp at this; omega, by omega, by unfold maxLen; omega, HS.out.2.2.2.cut1 (n := 1) (c := c) (by simp) (by have := HS.out.1; simp only [Option.getD, List.length_cons] at this ⊢; omega) hcut⟩)
                            go_wp2_with fail
                            refine (rd_byte g (some (x :: L)) _ _ hrd5).mono ?_
                            rw [show BinP.pByte (some (x :: L)) = (x, some L) from rfl]
                            rintro e w8 ⟨rfl, hrd8, hg8⟩
                            have hsl9 := HS2.out.below (Below.of_grown hg8 hB5.size (by omega))
                            go_wp2_with fail
                            go_meet
                            exact ⟨some _, hrd8, ⟨rfl, _, _, _, rfl, fun _ h => by injection h with h; subst h; exact hsl9⟩, hB5.trans (Below.of_grown hg8 hB5.size (by omega))⟩
            case rest =>
              obtain ⟨st', hrd6, ⟨rfl, A6, n6, c6, rfl, hsl6⟩, hB6⟩ := hcut
              clear hrd5 hsl hB5
              rcases st' with _ | l
              · go_wp2_with fail
                refine (rd_left g _ _ _ hrd6).mono ?_
                rintro e w7 ⟨rfl, rfl⟩
                go_wp2_with fail
                refine (rd_err g _ _ _ hrd6).mono ?_
                rintro e w7 ⟨rfl, rfl⟩
                go_wp2_with fail
                refine (rd_end g _ _ _ hrd6).mono ?_
                rintro e w7 ⟨rfl, rfl⟩
                go_wp2_with fail
                refine (rd_err g _ _ _ hrd6).mono ?_
                rintro e w7 ⟨rfl, rfl⟩
                go_wp2_with fail
                go_roundw
                case rel => exact ⟨k + 1, none, by omega, by go_num, hrd6, ⟨rfl, _, _, _, rfl, Sl.nil _ _⟩, hB6⟩
                case measure => simp [intOf]; omega
              · have hS := hsl6 l rfl
                have hSl := hS.1
                clear hsl6
                rcases l with _ | ⟨x, l⟩
                · have hn6 : n6 < 1 := by rw [← hSl]; simp
                  have hnb : ((n6 : Int) == 0) = true := by simp; omega
                  have hS' := Lib.hid hS
                  clear hS hSl
                  go_wp2_with fail
                  refine (rd_left g _ _ _ hrd6).mono ?_
                  rintro e w7 ⟨rfl, rfl⟩
                  go_wp2_with fail
                  refine (rd_err g _ _ _ hrd6).mono ?_
                  rintro e w7 ⟨rfl, rfl⟩
                  go_wp2_with fail
                  refine (rd_end g _ _ _ hrd6).mono ?_
                  rintro e w7 ⟨rfl, rfl⟩
                  go_wp2_with fail
                  go_roundw
                  case rel => exact ⟨k + 1, some [], by omega, by go_num, hrd6, ⟨rfl, _, _, _, rfl, hS'.out⟩, hB6⟩
                  case measure => simp [intOf]; omega
                · have hn6 : 0 < n6 := by rw [← hSl]; simp
                  have hnl : (BinP.left (some (x :: l)) : Nat) = n6 := hSl
                  have HL := Lib.hid hnl
                  have hnb : ((n6 : Int) == 0) = false := by simp; omega
                  have hS' := Lib.hid hS
                  clear hS hSl hnl
                  go_wp2_with fail
                  refine (rd_left g _ _ _ hrd6).mono ?_
                  rw [HL.out]
                  rintro e w7 ⟨rfl, rfl⟩
                  go_wp2_with fail
                  refine (rd_err g _ _ _ hrd6).mono ?_
                  rintro e w7 ⟨rfl, rfl⟩
                  go_wp2_with fail
                  refine (rd_end g _ _ _ hrd6).mono ?_
                  rintro e w7 ⟨rfl, rfl⟩
                  go_wp2_with fail
                  refine (rd_end g _ _ _ hrd6).mono ?_
                  rintro e w7 ⟨rfl, rfl⟩
                  go_wp2_with fail
                  go_roundw
                  case rel => exact ⟨k + 1, some (x :: l), by omega, by go_num, hrd6, ⟨rfl, _, _, _, rfl, hS'.out⟩, hB6⟩
                  case measure => simp [intOf]; omega
          · go_wp2_with fail
            go_ret
            exact ⟨rfl, hB5⟩
end Go.Proofs.Ytafhkjljalmheaa
