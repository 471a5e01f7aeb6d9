/- The walk of the reference's root. -/
import Derived.Test.YtohgkadbajmphaaRefNum2
import Derived.Test.YtohgkadbajmphaaPh2
namespace Go.Proofs.Ytohgkadbajmphaa
open Go.RowKit
set_option linter.unusedVariables false
/-- the worlds of 'a = times(a, of(t))' -/
def RP (w0 : World) (g : Nat) (CU : List Value) (p : Nat) (w : World) : Prop := if p ≤ 1 then Grew w0 w else w0.grownBy w (some g) ∧ ArrV w g CU
theorem RP.grew {w0 : World} {g : Nat} {CU : List Value} {p : Nat} {w w' : World} (h : RP w0 g CU p w) (hg : Grew w w') : RP w0 g CU p w' := by
  unfold RP at *
  split
  · rename_i hp
    rw [if_pos hp] at h
    exact h.trans hg
  · rename_i hp
    rw [if_neg hp] at h
    exact ⟨grown_grew h.1 hg, h.2.grew hg⟩
theorem dg_p4 (p : Nat) (h : p < 65536) : (u64v (RefP.dg 0)).set 4 (.int .u64 (p : Int)) = u64v (RefP.dg (p * 65536 ^ 4)) := by
  have e : RefP.dg (p * 65536 ^ 4) = [0, 0, 0, 0, p, 0, 0, 0] := by
    have e1 : RefP.dg (p * 65536 ^ 4) = [RefP.dig (p * 65536 ^ 4) 0, RefP.dig (p * 65536 ^ 4) 1, RefP.dig (p * 65536 ^ 4) 2, RefP.dig (p * 65536 ^ 4) 3, RefP.dig (p * 65536 ^ 4) 4, RefP.dig (p * 65536 ^ 4) 5, RefP.dig (p * 65536 ^ 4) 6, RefP.dig (p * 65536 ^ 4) 7] := rfl
    rw [e1]
    unfold RefP.dig
    simp only [List.cons.injEq, and_true]
    refine ⟨?_, ?_, ?_, ?_, ?_, ?_, ?_, ?_⟩ <;> omega
  rw [e]
  rfl
theorem dg_p6 (p : Nat) (h : p < 65536) : (u64v (RefP.dg 0)).set 6 (.int .u64 (p : Int)) = u64v (RefP.dg (p * 65536 ^ 6)) := by
  have e : RefP.dg (p * 65536 ^ 6) = [0, 0, 0, 0, 0, 0, p, 0] := by
    have e1 : RefP.dg (p * 65536 ^ 6) = [RefP.dig (p * 65536 ^ 6) 0, RefP.dig (p * 65536 ^ 6) 1, RefP.dig (p * 65536 ^ 6) 2, RefP.dig (p * 65536 ^ 6) 3, RefP.dig (p * 65536 ^ 6) 4, RefP.dig (p * 65536 ^ 6) 5, RefP.dig (p * 65536 ^ 6) 6, RefP.dig (p * 65536 ^ 6) 7] := rfl
    rw [e1]
    unfold RefP.dig
    simp only [List.cons.injEq, and_true]
    refine ⟨?_, ?_, ?_, ?_, ?_, ?_, ?_, ?_⟩ <;> omega
  rw [e]
  rfl
theorem or_bit (r m : Nat) (h : r % 2 ^ (m + 1) = 0) (hr : r + 2 ^ m < 18446744073709551616) : bits .or .u64 (r : Int) ((2 ^ m : Nat) : Int) = ((r + 2 ^ m : Nat) : Int) := by
  have h1 : 0 < 2 ^ m := Nat.pow_pos (by omega)
  rw [u64_or_nat _ _ (by omega) (by omega)]
  congr 1
  obtain ⟨q, hq⟩ : ∃ q, r = 2 ^ (m + 1) * q := ⟨r / 2 ^ (m + 1), by have := Nat.div_add_mod r (2 ^ (m + 1)); omega⟩
  rw [hq, ← Nat.two_pow_add_eq_or_of_lt (by rw [Nat.pow_succ]; omega)]
/-- 'x := value' of a wide: the world behind it -/
def boxedW (W : World) (C : List Value) : World := (W.alloc (.cells z8 150)).setCells W.heap.size 0 C
theorem boxedW_grew (W : World) (C : List Value) : Grew W (boxedW W C) := by
  have hG : W.grownBy (boxedW W C) none := grown_fresh (grown_grew (grown_refl W none) (grew_alloc W _)) (Nat.le_refl _) (grown_setCells W.heap.size C 0 _)
  exact ⟨hG.os, hG.tape, hG.output, hG.size, fun k hk => hG.block k hk (by simp)⟩
theorem stored8 {W : World} {g : Nat} {C z : List Value} {v : Nat} (hC : C = u64v (RefP.dg v)) (h : ArrV W g z) (hz : z.length = 8) :
    W.there g 0 C.toArray.size ∧ (Try.prog.info? 150).map (·.size) = some C.toArray.size ∧ C.toArray.all (·.oneCell') = true ∧ ArrV (W.setCells g 0 C) g C ∧ C.length = 8 := by
  have hl : C.length = 8 := by rw [hC]; rfl
  have e : C.toArray.size = 8 := by simp [hl]
  refine ⟨?_, ?_, ?_, h.stored (by rw [hl, hz]), hl⟩
  · have := h.there
    rw [hz] at this
    rw [e]
    exact this
  · rw [e]; kernel_rfl
  · rw [hC]
    exact all_oneCell_toArray (fun v hv => by obtain ⟨x, _, rfl⟩ := List.mem_map.1 hv; rfl)
theorem below_grown' {a b c : World} {g : Nat} (h : Grew a b) (k : b.grownBy c (some g)) (hg : a.heap.size ≤ g) : Below a.heap.size a c :=
  Below.trans h (below_grown k h.size (fun i e => by injection e with e; omega))
theorem load8 {W : World} {g : Nat} {C : List Value} (h : ArrV W g C) (hl : C.length = 8) : (Instr.loadAt 150 (.pointer (some ⟨g, 0, none⟩))).run Try.prog W = .ok (.agg C.toArray) W :=
  run_loadAt_mid (P := Try.prog) W g 0 150 C _ h.range Try.underlying150 rfl (by rw [hl]; kernel_rfl)
theorem u64v_len (v : Nat) : (u64v (RefP.dg v)).length = 8 := rfl
theorem root_keep {p m r t P : Nat} {cube : Bool} (hP : P = 2 ^ m) (ht : t = r + P) (hr0 : r % 2 ^ (m + 1) = 0) (hrb : r + 2 ^ (m + 1) ≤ 137438953472) :
    (RefP.okR p cube t = true → t % 2 ^ m = 0 ∧ t + 2 ^ m ≤ 137438953472 ∧ RefP.rootR p cube (m + 1) r = RefP.rootR p cube m t) ∧
    (RefP.okR p cube t = false → r % 2 ^ m = 0 ∧ r + 2 ^ m ≤ 137438953472 ∧ RefP.rootR p cube (m + 1) r = RefP.rootR p cube m r) := by
  have h2 : 2 ^ (m + 1) = 2 * 2 ^ m := by rw [Nat.pow_succ, Nat.mul_comm]
  have hrm : r % 2 ^ m = 0 := by
    rw [h2] at hr0
    exact Nat.mod_eq_zero_of_dvd (Nat.dvd_trans (Nat.dvd_mul_left _ _) (Nat.dvd_of_mod_eq_zero hr0))
  have e : r + 2 ^ m = t := by rw [ht, hP]
  constructor
  · intro h
    refine ⟨?_, by omega, ?_⟩
    · rw [ht, hP, Nat.add_mod_right, hrm]
    · rw [RefP.rootR, e, h, if_pos rfl]
  · intro h
    refine ⟨hrm, by omega, ?_⟩
    rw [RefP.rootR, e, h]
    rfl
set_option maxRecDepth 100000 in
set_option maxHeartbeats 2000000 in
theorem ref_root (p : Nat) (cube : Bool) (hp : p < 400) (w : World) : Calls Try.prog 62 #[.int .i64 (p : Int), .bool cube] w fun e w' => e = .returned (.int .u32 (RefP.root p cube : Int)) ∧ Grew w w' := by
  go_enter Try.func62, Try.ntmps62
  go_wp2_with fail
  go_loopw [6, 5] (fun kv rv wr => ∃ m r : Nat, m ≤ 37 ∧ kv = .int .i64 ((m : Int) - 1) ∧ rv = .int .u64 (r : Int) ∧ r % 2 ^ m = 0 ∧ r + 2 ^ m ≤ 137438953472 ∧ RefP.rootR p cube 37 0 = RefP.rootR p cube m r ∧ Grew w wr) (fun kv _ _ => ((intOf kv) + 1).toNat)
  case atStart => exact ⟨37, 0, Nat.le_refl _, rfl, rfl, by simp, by decide, rfl, Grew.refl w⟩
  case round =>
    obtain ⟨wo, rfl⟩ : ∃ wo : World, wo = wr := ⟨_, rfl⟩
    obtain ⟨m, r, hm, rfl, rfl, hr0, hrb, hroot, hgr⟩ := hrel
    rcases m with _ | m
    · have i0 : ¬ (0 : Int) ≤ ((0 : Nat) : Int) - 1 := by omega
      have HROOT := Lib.hid hroot
      have hrb2 : r ≤ 137438953472 := by omega
      have HV := Lib.hid (show (r : Int) % 4294967296 = (RefP.root p cube : Int) by unfold RefP.root; rw [hroot]; rfl)
      clear hroot hr0 hrb
      go_wp2_with fail
      go_ret
      exact ⟨by rw [← HV.out]; rfl, hgr⟩
    · have hm36 : m ≤ 36 := by omega
      obtain ⟨P, hP⟩ : ∃ P, P = 2 ^ m := ⟨_, rfl⟩
      have hPb : P ≤ 68719476736 := by rw [hP]; exact Nat.le_trans (Nat.pow_le_pow_right (by omega) hm36) (by decide)
      have hP2 : 2 ^ (m + 1) = 2 * P := by rw [Nat.pow_succ, hP, Nat.mul_comm]
      have hor := or_bit r m hr0 (by omega)
      rw [← hP] at hor
      obtain ⟨t, ht⟩ : ∃ t, t = r + P := ⟨_, rfl⟩
      rw [← ht] at hor
      have htb : t ≤ 137438953471 := by have : 0 < P := by rw [hP]; exact Nat.pow_pos (by omega)
                                        omega
      have e1 : ((m + 1 : Nat) : Int) - 1 = (m : Int) := by omega
      have i0 : (0 : Int) ≤ (m : Int) := by omega
      have i36 : (m : Int) ≤ 36 := by omega
      have epow : (2 : Int) ^ m = (P : Int) := by rw [hP, Int.natCast_pow]; rfl
      rw [e1]
      have HP := Lib.hid hP
      have HT := Lib.hid ht
      have HR0 := Lib.hid hr0
      have HRB := Lib.hid hrb
      have HROOT := Lib.hid hroot
      clear e1 hP ht hr0 hrb hroot hP2
      have HK := Lib.hid (root_keep (p := p) (cube := cube) HP.out HT.out HR0.out HRB.out)
      obtain ⟨T, hT⟩ : ∃ T, T = u64v (RefP.dg t) := ⟨_, rfl⟩
      obtain ⟨SQ, hSQ⟩ : ∃ S, S = u64v (RefP.dg (t * t)) := ⟨_, rfl⟩
      have hOf := Lib.hid (show ∀ W : World, Calls Try.prog 84 #[.int .u64 (t : Int)] W fun e w' => e = .returned (.agg T.toArray) ∧ Grew W w' from fun W => by have := ref_of t (by omega) W; rw [← hT] at this; exact this)
      have hTT := Lib.hid (show ∀ W : World, Calls Try.prog 83 #[.agg T.toArray, .agg T.toArray] W fun e w' => e = .returned (.agg SQ.toArray) ∧ Grew W w' from fun W => by have := ref_times t t (by omega) W; rw [← hT, ← hSQ] at this; exact this)
      have htt : t * t ≤ 137438953471 * 137438953471 := Nat.mul_le_mul htb htb
      have HSQ := Lib.hid hSQ
      have HTW := Lib.hid hT
      have HTTB := Lib.hid htt
      clear hT hSQ htt
      go_wp2_with fail
      refine (hOf.out wo).mono ?_
      rintro e w1 ⟨rfl, hg1⟩
      go_wp2_with fail
      refine (hOf.out w1).mono ?_
      rintro e w2 ⟨rfl, hg2⟩
      go_wp2_with fail
      refine (hTT.out w2).mono ?_
      rintro e w3 ⟨rfl, hg3⟩
      have hg03 : Grew w w3 := ((hgr.trans hg1).trans hg2).trans hg3
      have HST := Lib.hid (stored8 (W := w3.alloc (.cells z8 150)) HSQ.out (z8_made w3) rfl)
      obtain ⟨w4, hw4⟩ : ∃ w4, w4 = boxedW w3 SQ := ⟨_, rfl⟩
      have hA4 : ArrV w4 w3.heap.size SQ := by rw [hw4]; exact HST.out.2.2.2.1
      have hg4 : Grew w3 w4 := by rw [hw4]; exact boxedW_grew w3 SQ
      obtain ⟨w5, hw5⟩ : ∃ w5, w5 = w4.alloc (.cells z8 150) := ⟨_, rfl⟩
      have hB5 : ArrV w5 w4.heap.size (u64v (RefP.dg 0)) := by rw [hw5]; exact z8_made w4
      have hA5 : ArrV w5 w3.heap.size SQ := by rw [hw5]; exact hA4.alloc _
      have hg5 : Grew w w5 := (hg03.trans hg4).trans (by rw [hw5]; exact grew_alloc w4 _)
      have q1 := hB5.cell (i := 4) (show 4 < 8 by decide)
      have q2 := hB5.frozen 4
      have h34 : w3.heap.size < w4.heap.size := hA4.lt
      have HW4 := Lib.hid hw4
      have HW5 := Lib.hid hw5
      have HA5 := Lib.hid hA5
      have HB5 := Lib.hid hB5
      have HG5 := Lib.hid hg5
      have hwg3 : w.heap.size ≤ w3.heap.size := hg03.size
      have hwg : w.heap.size ≤ w4.heap.size := (hg03.trans hg4).size
      clear hg1 hg2 hg3 hA4 hg4 hw4 hw5 hB5 hA5 hg5 hg03 hgr
      cases cube with
      | false =>
        go_upto_region 13 with (first
          | (refine wpList_value (o := ⟨some 8, _, _, _, _, _⟩) (v := .pointer (some ⟨w3.heap.size, 0, none⟩)) (w' := w3.alloc (.cells z8 150)) rfl (by kernel_rfl) ?_)
          | (refine wpList_store_mid rfl 150 (.tmp 8) (.tmp 23) rfl w3.heap.size 0 SQ.toArray rfl rfl HST.out.1 HST.out.2.1 HST.out.2.2.1 ?_; rw [show (w3.alloc (.cells z8 150)).setCells w3.heap.size 0 SQ.toArray.toList = w4 from HW4.out.symm])
          | (refine wpList_value (o := ⟨some 9, _, _, _, _, _⟩) (v := .pointer (some ⟨w4.heap.size, 0, none⟩)) (w' := w4.alloc (.cells z8 150)) rfl (by kernel_rfl) ?_; rw [← HW5.out]))
        obtain ⟨PB, hPB⟩ : ∃ C, C = u64v (RefP.dg (p * 65536 ^ 4)) := ⟨_, rfl⟩
        obtain ⟨w6, hw6⟩ : ∃ w6, w6 = w5.setCell ⟨w4.heap.size, 4, none⟩ (.int .u64 (p : Int)) := ⟨_, rfl⟩
        rw [← hw6]
        have HB6 := Lib.hid (show ArrV w6 w4.heap.size PB by rw [hw6, hPB, ← dg_p4 p (by omega)]; exact HB5.out.set 4 _)
        have HA6 := Lib.hid (show ArrV w6 w3.heap.size SQ by rw [hw6]; exact HA5.out.setOther (p := ⟨w4.heap.size, 4, none⟩) (by show w4.heap.size ≠ w3.heap.size; omega) _)
        have HG6 := Lib.hid (show Grew w w6 by rw [hw6]; exact Below.setCell HG5.out (p := ⟨w4.heap.size, 4, none⟩) hwg _)
        have HPB := Lib.hid hPB
        have HGT := Lib.hid (show RefP.gt 8 (t * t) (p * 65536 ^ 4) = !(RefP.okR p false t) by
          have h1 := HTTB.out
          rw [RefP.gt8 _ _ (by omega) (by omega)]
          show decide (p * 65536 ^ 4 < t * t) = !(decide (t * t ≤ p * 65536 ^ 4))
          rw [Bool.eq_iff_iff]
          simp)
        clear hPB hw6
        have hAb := Lib.hid (show ∀ W : World, Calls Try.prog 85 #[.agg SQ.toArray, .agg PB.toArray] W fun e w' => e = .returned (.bool (!(RefP.okR p false t))) ∧ Grew W w' from fun W => by
          have := ref_above (t * t) (p * 65536 ^ 4) W
          rw [← HSQ.out, ← HPB.out, HGT.out] at this
          exact this)
        have HRA := Lib.hid HA6.out.range
        have HRB := Lib.hid HB6.out.range
        have HIA := Lib.hid (show (Try.prog.info? 150).map (·.size) = some SQ.length by rw [HSQ.out]; kernel_rfl)
        have HIB := Lib.hid (show (Try.prog.info? 150).map (·.size) = some PB.length by rw [HPB.out]; kernel_rfl)
        go_wp2_with (first
          | (refine wpList_load_mid rfl 150 (.tmp 8) rfl w3.heap.size 0 rfl SQ _ HRA.out Try.underlying150 rfl HIA.out ?_)
          | (refine wpList_load_mid rfl 150 (.tmp 9) rfl w4.heap.size 0 rfl PB _ HRB.out Try.underlying150 rfl HIB.out ?_))
        refine (hAb.out _).mono ?_
        rintro e w7 ⟨rfl, hg7⟩
        have HG7 := Lib.hid (HG6.out.trans hg7)
        clear hg7
        cases hok : RefP.okR p false t with
        | true =>
          have HKK := Lib.hid (HK.out.1 hok)
          clear hok
          go_wp2_with fail
          go_roundw
          case rel => exact ⟨m, t, by omega, rfl, rfl, HKK.out.1, HKK.out.2.1, by rw [HROOT.out, HKK.out.2.2], HG7.out⟩
          case measure => simp [intOf]
        | false =>
          have HKK := Lib.hid (HK.out.2 hok)
          clear hok
          go_wp2_with fail
          go_roundw
          case rel => exact ⟨m, r, by omega, rfl, rfl, HKK.out.1, HKK.out.2.1, by rw [HROOT.out, HKK.out.2.2], HG7.out⟩
          case measure => simp [intOf]
      | true =>
        obtain ⟨CU, hCU⟩ : ∃ C, C = u64v (RefP.dg (t * t * t)) := ⟨_, rfl⟩
        obtain ⟨PB, hPB⟩ : ∃ C, C = u64v (RefP.dg (p * 65536 ^ 6)) := ⟨_, rfl⟩
        have htt := HTTB.out
        have httt : t * t * t ≤ 137438953471 * 137438953471 * 137438953471 := Nat.mul_le_mul htt htb
        have hT3 := Lib.hid (show ∀ W : World, Calls Try.prog 83 #[.agg SQ.toArray, .agg T.toArray] W fun e w' => e = .returned (.agg CU.toArray) ∧ Grew W w' from fun W => by have := ref_times (t * t) t (by omega) W; rw [← HSQ.out, ← HTW.out, ← hCU] at this; exact this)
        have HCU := Lib.hid hCU
        have HPB := Lib.hid hPB
        have HGT := Lib.hid (show RefP.gt 8 (t * t * t) (p * 65536 ^ 6) = !(RefP.okR p true t) by
          rw [RefP.gt8 _ _ (by omega) (by omega)]
          show decide (p * 65536 ^ 6 < t * t * t) = !(decide (t * t * t ≤ p * 65536 ^ 6))
          rw [Bool.eq_iff_iff]
          simp)
        clear hCU hPB htt httt
        go_upto_region 10 with (first
          | (refine wpList_value (o := ⟨some 8, _, _, _, _, _⟩) (v := .pointer (some ⟨w3.heap.size, 0, none⟩)) (w' := w3.alloc (.cells z8 150)) rfl (by kernel_rfl) ?_)
          | (refine wpList_store_mid rfl 150 (.tmp 8) (.tmp 23) rfl w3.heap.size 0 SQ.toArray rfl rfl HST.out.1 HST.out.2.1 HST.out.2.2.1 ?_; rw [show (w3.alloc (.cells z8 150)).setCells w3.heap.size 0 SQ.toArray.toList = w4 from HW4.out.symm])
          | (refine wpList_value (o := ⟨some 9, _, _, _, _, _⟩) (v := .pointer (some ⟨w4.heap.size, 0, none⟩)) (w' := w4.alloc (.cells z8 150)) rfl (by kernel_rfl) ?_; rw [← HW5.out]))
        obtain ⟨w6, hw6⟩ : ∃ w6, w6 = w5.setCell ⟨w4.heap.size, 4, none⟩ (.int .u64 (p : Int)) := ⟨_, rfl⟩
        rw [← hw6]
        have HB6' := Lib.hid (show ArrV w6 w4.heap.size ((u64v (RefP.dg 0)).set 4 (.int .u64 (p : Int))) by rw [hw6]; exact HB5.out.set 4 _)
        have HA6' := Lib.hid (show ArrV w6 w3.heap.size SQ by rw [hw6]; exact HA5.out.setOther (p := ⟨w4.heap.size, 4, none⟩) (by show w4.heap.size ≠ w3.heap.size; omega) _)
        have HG6' := Lib.hid (show Grew w w6 by rw [hw6]; exact Below.setCell HG5.out (p := ⟨w4.heap.size, 4, none⟩) hwg _)
        clear hw6
        have hread := Lib.hid (show ∀ W, RP w6 w3.heap.size CU 0 W → (Instr.loadAt 150 (.pointer (some ⟨w3.heap.size, 0, none⟩))).run Try.prog W = .ok (.agg SQ.toArray) W ∧ RP w6 w3.heap.size CU 1 W from fun W h => ⟨load8 (HA6'.out.grew h) (by rw [HSQ.out]; rfl), h⟩)
        have hwrite := Lib.hid (show ∀ W, RP w6 w3.heap.size CU 1 W → ∃ W', (Instr.storeAt 150 (.pointer (some ⟨w3.heap.size, 0, none⟩)) (.agg CU.toArray)).run Try.prog W = .ok () W' ∧ RP w6 w3.heap.size CU 2 W' from fun W h => by
          have h' : Grew w6 W := h
          have hs := stored8 HCU.out (HA6'.out.grew h') (by rw [HSQ.out]; rfl)
          exact ⟨_, run_storeAt_mid (P := Try.prog) W w3.heap.size 0 150 CU.toArray hs.1 hs.2.1 hs.2.2.1, grown_step (grown_grew (grown_refl w6 _) h') (grown_setCells w3.heap.size _ 0 W), hs.2.2.2.1⟩)
        refine wp_region_p (RP w6 w3.heap.size CU) [0, 4] (by kernel_rfl) (by kernel_rfl) (by kernel_rfl) (show Grew w6 (w6.drewN 1) from Grew.drewN w6 1) ?_
        refine wpP_read (.agg SQ.toArray) rfl rfl (fun W h => ⟨exec_load (.tmp 8) rfl rfl (hread.out W h).1, (hread.out W h).2⟩) ?_
        (simp only [Act.put, List.setIfInBounds_toArray, List.set_cons_succ, List.set_cons_zero])
        (refine wpP_value (v := ?_) rfl rfl (fun x => ?_) ?_; rotate_left; (focus (simp [go_sem]; (try go_ints); first | done | (with_reducible rfl))); (simp only [Act.put, List.setIfInBounds_toArray, List.set_cons_succ, List.set_cons_zero]))
        refine wpP_callN (.agg T.toArray) _ _ rfl rfl (fun _ => by simp [go_sem]) (fun q W h => (hOf.out W).mono fun e w' k => ⟨k.1, h.grew k.2⟩) ?_
        (simp only [Act.put, List.setIfInBounds_toArray, List.set_cons_succ, List.set_cons_zero])
        refine wpP_callN (.agg CU.toArray) _ _ rfl rfl (fun _ => by simp [go_sem]) (fun q W h => (hT3.out W).mono fun e w' k => ⟨k.1, h.grew k.2⟩) ?_
        (simp only [Act.put, List.setIfInBounds_toArray, List.set_cons_succ, List.set_cons_zero])
        refine wpP_write rfl rfl (fun W h => ?_) ?_
        · obtain ⟨W', e, k⟩ := hwrite.out W h
          exact ⟨W', by simp [execOp, Act.eval, e], k⟩
        simp only [Act.put]
        refine wpP_nil ?_
        intro w7 h7
        obtain ⟨hg67, hA7⟩ := h7
        have hB7 := HB6'.out.other hg67 (by intro e; injection e; omega)
        obtain ⟨ZL, hZL⟩ : ∃ C, C = u64v (RefP.dg 0) := ⟨_, rfl⟩
        have hS7 := stored8 (W := w7) hZL hB7 (by simp [RefP.dg])
        obtain ⟨w8, hw8⟩ : ∃ w8, w8 = w7.setCells w4.heap.size 0 ZL := ⟨_, rfl⟩
        have hB8 : ArrV w8 w4.heap.size (u64v (RefP.dg 0)) := by rw [hw8, ← hZL]; exact hS7.2.2.2.1
        have hA8 : ArrV w8 w3.heap.size CU := by rw [hw8]; exact hA7.other (grown_setCells w4.heap.size ZL 0 w7) (by intro e; injection e; omega)
        have hG8 : Below w.heap.size w w8 := by
          have h1 : Below w.heap.size w w7 := below_grown' HG6'.out hg67 (by omega)
          rw [hw8]
          exact h1.trans (below_grown (grown_setCells w4.heap.size ZL 0 w7) h1.size (fun k e => by injection e with e; omega))
        have q3 := hB8.cell (i := 6) (show 6 < 8 by decide)
        have q4 := hB8.frozen 6
        have HZL := Lib.hid hZL
        have HS7 := Lib.hid hS7
        have HW8 := Lib.hid hw8
        have HB6 := Lib.hid (show ArrV (w8.setCell ⟨w4.heap.size, 6, none⟩ (.int .u64 (p : Int))) w4.heap.size PB by rw [HPB.out, ← dg_p6 p (by omega)]; exact hB8.set 6 _)
        have HA6 := Lib.hid (hA8.setOther (p := ⟨w4.heap.size, 6, none⟩) (by show w4.heap.size ≠ w3.heap.size; omega) (.int .u64 (p : Int)))
        have HG6 := Lib.hid (show Grew w (w8.setCell ⟨w4.heap.size, 6, none⟩ (.int .u64 (p : Int))) from Below.setCell hG8 (p := ⟨w4.heap.size, 6, none⟩) hwg _)
        clear hg67 hA7 hB7 hZL hS7 hw8 hB8 hA8 hG8 q1 q2
        go_upto_region 13 with (first
          | (refine wpList_value (o := ⟨some 32, _, _, _, _, _⟩) (v := .agg ZL.toArray) (w' := w7) rfl (by rw [HZL.out]; kernel_rfl) ?_)
          | (refine wpList_store_mid rfl 150 (.tmp 9) (.tmp 32) rfl w4.heap.size 0 ZL.toArray rfl rfl HS7.out.1 HS7.out.2.1 HS7.out.2.2.1 ?_; rw [show w7.setCells w4.heap.size 0 ZL.toArray.toList = w8 from HW8.out.symm]))
        have hAb := Lib.hid (show ∀ W : World, Calls Try.prog 85 #[.agg CU.toArray, .agg PB.toArray] W fun e w' => e = .returned (.bool (!(RefP.okR p true t))) ∧ Grew W w' from fun W => by
          have := ref_above (t * t * t) (p * 65536 ^ 6) W
          rw [← HCU.out, ← HPB.out, HGT.out] at this
          exact this)
        have HRA := Lib.hid HA6.out.range
        have HRB := Lib.hid HB6.out.range
        have HIA := Lib.hid (show (Try.prog.info? 150).map (·.size) = some CU.length by rw [HCU.out]; kernel_rfl)
        have HIB := Lib.hid (show (Try.prog.info? 150).map (·.size) = some PB.length by rw [HPB.out]; kernel_rfl)
        go_wp2_with (first
          | (refine wpList_load_mid rfl 150 (.tmp 8) rfl w3.heap.size 0 rfl CU _ HRA.out Try.underlying150 rfl HIA.out ?_)
          | (refine wpList_load_mid rfl 150 (.tmp 9) rfl w4.heap.size 0 rfl PB _ HRB.out Try.underlying150 rfl HIB.out ?_))
        refine (hAb.out _).mono ?_
        rintro e w7 ⟨rfl, hg7⟩
        have HG7 := Lib.hid (HG6.out.trans hg7)
        clear hg7
        cases hok : RefP.okR p true t with
        | true =>
          have HKK := Lib.hid (HK.out.1 hok)
          clear hok
          go_wp2_with fail
          go_roundw
          case rel => exact ⟨m, t, by omega, rfl, rfl, HKK.out.1, HKK.out.2.1, by rw [HROOT.out, HKK.out.2.2], HG7.out⟩
          case measure => simp [intOf]
        | false =>
          have HKK := Lib.hid (HK.out.2 hok)
          clear hok
          go_wp2_with fail
          go_roundw
          case rel => exact ⟨m, r, by omega, rfl, rfl, HKK.out.1, HKK.out.2.1, by rw [HROOT.out, HKK.out.2.2], HG7.out⟩
          case measure => simp [intOf]
end Go.Proofs.Ytohgkadbajmphaa
