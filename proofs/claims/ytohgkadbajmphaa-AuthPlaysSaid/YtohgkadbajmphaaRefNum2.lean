/- The walks of the reference's above and times. -/
import Derived.Test.YtohgkadbajmphaaRefNum
namespace Go.Proofs.Ytohgkadbajmphaa
open Go.RowKit
set_option linter.unusedVariables false
theorem dg_cell {W : World} {g v m : Nat} (h : ArrV W g (u64v (RefP.dg v))) (hm : m < 8) : W.cell? ⟨g, m, none⟩ = some (.int .u64 (RefP.dig v m : Int)) :=
  h.atSome (by rw [List.getElem?_map, RefP.dg_at v m hm]; rfl)
set_option maxRecDepth 100000 in
set_option maxHeartbeats 1000000 in
theorem ref_above (a b : Nat) (w : World) : Calls Try.prog 85 #[.agg (u64v (RefP.dg a)).toArray, .agg (u64v (RefP.dg b)).toArray] w fun e w' => e = .returned (.bool (RefP.gt 8 a b)) ∧ Grew w w' := by
  obtain ⟨CA, hCA⟩ : ∃ C, C = u64v (RefP.dg a) := ⟨_, rfl⟩
  obtain ⟨CB, hCB⟩ : ∃ C, C = u64v (RefP.dg b) := ⟨_, rfl⟩
  obtain ⟨w1, hw1⟩ : ∃ w1, w1 = w.alloc (.cells CA.toArray 150) := ⟨_, rfl⟩
  obtain ⟨w2, hw2⟩ : ∃ w2, w2 = w1.alloc (.cells CB.toArray 150) := ⟨_, rfl⟩
  have hz1 : w1.heap.size = w.heap.size + 1 := by rw [hw1]; simp
  have hA1 : ArrV w1 w.heap.size CA := by rw [hw1]; exact ArrV.made w _ _
  have HA := Lib.hid (show ArrV w2 w.heap.size (u64v (RefP.dg a)) by rw [hw2, ← hCA]; exact hA1.alloc _)
  have HB := Lib.hid (show ArrV w2 (w.heap.size + 1) (u64v (RefP.dg b)) by rw [hw2, ← hCB, ← hz1]; exact ArrV.made w1 _ _)
  have hg : Grew w w2 := by rw [hw2, hw1]; exact ((Below.refl _ _).alloc (Nat.le_refl _) _).alloc (by simp) _
  have HW1 := Lib.hid hw1
  have HW2 := Lib.hid hw2
  have HZ1 := Lib.hid hz1
  rw [← hCA, ← hCB]
  clear hCA hCB hw1 hw2 hz1 hA1
  go_enter Try.func85, Try.ntmps85
  go_upto_region 1 with (first
    | (refine wpList_value (o := ⟨some 2, _, _, _, _, _⟩) (v := .pointer (some ⟨w.heap.size, 0, none⟩)) (w' := w.alloc (.cells CA.toArray 150)) rfl (by kernel_rfl) ?_; rw [← HW1.out])
    | (refine wpList_value (o := ⟨some 3, _, _, _, _, _⟩) (v := .pointer (some ⟨w1.heap.size, 0, none⟩)) (w' := w1.alloc (.cells CB.toArray 150)) rfl (by kernel_rfl) ?_; rw [← HW2.out]))
  have hz := HZ1.out
  rw [hz]
  clear hz
  go_wp2_with fail
  go_loopw [5] (fun i wy => ∃ k : Nat, k ≤ 8 ∧ i = .int .i64 ((k : Int) - 1) ∧ RefP.gt 8 a b = RefP.gt k a b ∧ Grew w2 wy) (fun i _ => ((intOf i) + 1).toNat)
  case atStart => exact ⟨8, Nat.le_refl _, rfl, rfl, Grew.refl w2⟩
  case round =>
    obtain ⟨k, hk, rfl, hgt, hgr⟩ := hrel
    rcases k with _ | m
    · have HGT := Lib.hid hgt
      have i0 : ¬ (0 : Int) ≤ ((0 : Nat) : Int) - 1 := by omega
      clear hgt
      go_wp2_with fail
      go_ret
      exact ⟨by rw [HGT.out]; rfl, hg.trans hgr⟩
    · have hm : m < 8 := by omega
      obtain ⟨x, hx⟩ : ∃ x, x = RefP.dig a m := ⟨_, rfl⟩
      obtain ⟨y, hy⟩ : ∃ y, y = RefP.dig b m := ⟨_, rfl⟩
      have facts : ∀ z : GrewOf wr, z.1.cell? ⟨w.heap.size, m, none⟩ = some (.int .u64 (x : Int)) ∧ z.1.cell? ⟨w.heap.size + 1, m, none⟩ = some (.int .u64 (y : Int)) := fun z => by
        rw [hx, hy]
        exact ⟨dg_cell (HA.out.grew (hgr.trans z.2)) hm, dg_cell (HB.out.grew (hgr.trans z.2)) hm⟩
      have FACTS := Lib.hid facts
      have HX := Lib.hid hx
      have HY := Lib.hid hy
      have HGT := Lib.hid (show RefP.gt 8 a b = if x ≠ y then decide (y < x) else RefP.gt m a b by rw [hgt, RefP.gt, ← hx, ← hy])
      have e1 : ((m + 1 : Nat) : Int) - 1 = (m : Int) := by omega
      have i0 : (0 : Int) ≤ (m : Int) := by omega
      have i8 : (m : Int) < 8 := by omega
      rw [e1]
      clear facts hx hy hgt e1
      go_upto_region 4 with fail
      have hqq := FACTS.out
      refine wp_region_x [] (by kernel_rfl) (by kernel_rfl) (by kernel_rfl) ?_
      simp only [blank, List.foldl_nil]
      repeat ((refine wpX_value (v := ?_) rfl (by intros; simp) rfl rfl (fun x => ?_) ?_; rotate_left; (focus (simp [go_sem, hqq, ↓IntWalk.iteOmega]; (try go_ints); first | done | (with_reducible rfl))); (simp only [Act.put, List.setIfInBounds_toArray, List.set_cons_succ, List.set_cons_zero])))
      (refine wpX_nil ?_; intro xb wx hxg xl; obtain ⟨xf, xe⟩ := LikeAll.end_ xl; clear xl; subst xe; simp only [fill, List.foldl_nil, Act.put])
      clear hqq
      by_cases hxy : x = y
      · subst hxy
        go_wp2_with fail
        go_roundw
        case rel => exact ⟨m, by omega, by rfl, by rw [HGT.out]; simp, hgr.trans hxg⟩
        case measure => simp [intOf]
      · have hb : ((x : Int) != (y : Int)) = true := by rw [bne_iff_ne]; omega
        go_upto_region 5 with fail
        have F2 := Lib.hid (show ∀ z : GrewOf wx, z.1.cell? ⟨w.heap.size, m, none⟩ = some (.int .u64 (x : Int)) ∧ z.1.cell? ⟨w.heap.size + 1, m, none⟩ = some (.int .u64 (y : Int)) from fun z => FACTS.out ⟨z.1, hxg.trans z.2⟩)
        have hgx := hgr.trans hxg
        have hqq := F2.out
        clear hxg
        refine wp_region_x [] (by kernel_rfl) (by kernel_rfl) (by kernel_rfl) ?_
        simp only [blank, List.foldl_nil]
        repeat ((refine wpX_value (v := ?_) rfl (by intros; simp) rfl rfl (fun x => ?_) ?_; rotate_left; (focus (simp [go_sem, hqq, ↓IntWalk.iteOmega]; (try go_ints); first | done | (with_reducible rfl))); (simp only [Act.put, List.setIfInBounds_toArray, List.set_cons_succ, List.set_cons_zero])))
        (refine wpX_nil ?_; intro xb wx hxg xl; obtain ⟨xf, xe⟩ := LikeAll.end_ xl; clear xl; subst xe; simp only [fill, List.foldl_nil, Act.put])
        clear hqq
        go_wp2_with fail
        go_ret
        refine ⟨?_, hg.trans (hgx.trans hxg)⟩
        rw [HGT.out, if_pos hxy]
        rfl
def z8 : Array Value := Array.replicate 8 (.int .u64 0)
theorem z8_made (W : World) : ArrV (W.alloc (.cells z8 150)) W.heap.size (u64v (RefP.dg 0)) := by
  have h := ArrV.made W z8 150
  have e : z8.toList = u64v (RefP.dg 0) := by kernel_rfl
  rwa [e] at h
attribute [irreducible] z8
theorem part_cell {W : World} {g a b i j : Nat} (h : ArrV W g (u64v (RefP.part a b i j))) (hm : i + j < 8) : W.cell? ⟨g, i + j, none⟩ = some (.int .u64 (RefP.dig (RefP.low a b i) (i + j) : Int)) :=
  h.atSome (by
    unfold RefP.part
    rw [List.getElem?_map, List.getElem?_map, List.getElem?_range hm]
    simp)
set_option maxRecDepth 100000 in
set_option maxHeartbeats 2000000 in
theorem ref_times (a b : Nat) (ha : a < 65536 ^ 8) (w : World) : Calls Try.prog 83 #[.agg (u64v (RefP.dg a)).toArray, .agg (u64v (RefP.dg b)).toArray] w fun e w' => e = .returned (.agg (u64v (RefP.dg (a * b))).toArray) ∧ Grew w w' := by
  obtain ⟨CA, hCA⟩ : ∃ C, C = u64v (RefP.dg a) := ⟨_, rfl⟩
  obtain ⟨CB, hCB⟩ : ∃ C, C = u64v (RefP.dg b) := ⟨_, rfl⟩
  obtain ⟨w1, hw1⟩ : ∃ w1, w1 = w.alloc (.cells CA.toArray 150) := ⟨_, rfl⟩
  obtain ⟨w2, hw2⟩ : ∃ w2, w2 = w1.alloc (.cells CB.toArray 150) := ⟨_, rfl⟩
  obtain ⟨w3, hw3⟩ : ∃ w3, w3 = w2.alloc (.cells z8 150) := ⟨_, rfl⟩
  obtain ⟨w4, hw4⟩ : ∃ w4, w4 = w3.alloc (.cells z8 150) := ⟨_, rfl⟩
  have hz1 : w1.heap.size = w.heap.size + 1 := by rw [hw1]; simp
  have hz2 : w2.heap.size = w.heap.size + 2 := by rw [hw2]; simp [hz1]
  have hz3 : w3.heap.size = w.heap.size + 3 := by rw [hw3]; simp [hz2]
  have HA := Lib.hid (show ArrV w4 w.heap.size (u64v (RefP.dg a)) by rw [hw4]; refine ArrV.alloc ?_ _; rw [hw3]; refine ArrV.alloc ?_ _; rw [hw2]; refine ArrV.alloc ?_ _; rw [hw1, ← hCA]; exact ArrV.made w _ _)
  have HB := Lib.hid (show ArrV w4 (w.heap.size + 1) (u64v (RefP.dg b)) by rw [hw4]; refine ArrV.alloc ?_ _; rw [hw3]; refine ArrV.alloc ?_ _; rw [hw2, ← hCB, ← hz1]; exact ArrV.made w1 _ _)
  have HR := Lib.hid (show ArrV w4 (w.heap.size + 2) (u64v (RefP.dg 0)) by rw [hw4]; refine ArrV.alloc ?_ _; rw [hw3, ← hz2]; exact z8_made w2)
  have HC := Lib.hid (show ArrV w4 (w.heap.size + 3) (u64v (RefP.dg (RefP.low a b 0))) by rw [hw4, ← hz3, RefP.low_zero]; exact z8_made w3)
  have hg : Grew w w4 := by rw [hw4, hw3, hw2, hw1]; exact (((((Below.refl _ _).alloc (Nat.le_refl _) _).alloc (by simp) _).alloc (by simp; omega) _).alloc (by simp; omega) _)
  have HG := Lib.hid hg
  have HW1 := Lib.hid hw1
  have HW2 := Lib.hid hw2
  have HW3 := Lib.hid hw3
  have HW4 := Lib.hid hw4
  have HZ1 := Lib.hid hz1
  have HZ2 := Lib.hid hz2
  have HZ3 := Lib.hid hz3
  have hcw := HC.out.lt
  rw [← hCA, ← hCB]
  clear hCA hCB hw1 hw2 hw3 hw4 hz1 hz2 hz3 hg
  go_enter Try.func83, Try.ntmps83
  go_upto_region 2 with (first
    | (refine wpList_value (o := ⟨some 2, _, _, _, _, _⟩) (v := .pointer (some ⟨w.heap.size, 0, none⟩)) (w' := w.alloc (.cells CA.toArray 150)) rfl (by kernel_rfl) ?_; rw [← HW1.out])
    | (refine wpList_value (o := ⟨some 3, _, _, _, _, _⟩) (v := .pointer (some ⟨w1.heap.size, 0, none⟩)) (w' := w1.alloc (.cells CB.toArray 150)) rfl (by kernel_rfl) ?_; rw [← HW2.out])
    | (refine wpList_value (o := ⟨some 4, _, _, _, _, _⟩) (v := .pointer (some ⟨w2.heap.size, 0, none⟩)) (w' := w2.alloc (.cells z8 150)) rfl (by kernel_rfl) ?_; rw [← HW3.out])
    | (refine wpList_value (o := ⟨some 5, _, _, _, _, _⟩) (v := .pointer (some ⟨w3.heap.size, 0, none⟩)) (w' := w3.alloc (.cells z8 150)) rfl (by kernel_rfl) ?_; rw [← HW4.out]))
  have hz := HZ1.out
  have hz2 := HZ2.out
  have hz3 := HZ3.out
  rw [hz, hz2, hz3]
  clear hz hz2 hz3
  go_wp2_with fail
  go_loopw [6] (fun i wy => ∃ i' : Nat, i' ≤ 8 ∧ i = .int .i64 (i' : Int) ∧ ArrV wy (w.heap.size + 3) (u64v (RefP.dg (RefP.low a b i'))) ∧ w4.grownBy wy (some (w.heap.size + 3))) (fun i _ => 8 - (intOf i).toNat)
  case atStart => exact ⟨0, Nat.zero_le _, rfl, HC.out, grown_refl _ _⟩
  case round =>
    obtain ⟨wo, rfl⟩ : ∃ wo : World, wo = wr := ⟨_, rfl⟩
    obtain ⟨i, hi, rfl, hC, hgr⟩ := hrel
    by_cases hlt : i < 8
    · have i8 : (i : Int) < 8 := by omega
      rw [← RefP.part_start] at hC
      have HCo := Lib.hid hC
      have HGR := Lib.hid hgr
      clear hC hgr
      go_wp2_with fail
      go_loopw [8, 7] (fun jv kv wy => ∃ j : Nat, i + j ≤ 8 ∧ jv = .int .i64 (j : Int) ∧ kv = .int .u64 (RefP.carry a b i j : Int) ∧ ArrV wy (w.heap.size + 3) (u64v (RefP.part a b i j)) ∧ w4.grownBy wy (some (w.heap.size + 3))) (fun jv _ _ => 8 - (intOf jv).toNat)
      case atStart => exact ⟨0, by omega, rfl, by rw [RefP.carry_zero]; rfl, HCo.out, HGR.out⟩
      case round =>
        obtain ⟨j, hj, rfl, rfl, hC, hgr⟩ := hrel
        by_cases hjl : i + j < 8
        · have ij8 : (i : Int) + (j : Int) < 8 := by omega
          have j8 : (j : Int) < 8 := by omega
          obtain ⟨k, hk⟩ : ∃ k, k = RefP.carry a b i j := ⟨_, rfl⟩
          obtain ⟨c, hc⟩ : ∃ c, c = RefP.dig (RefP.low a b i) (i + j) := ⟨_, rfl⟩
          obtain ⟨x, hx⟩ : ∃ x, x = RefP.dig a i := ⟨_, rfl⟩
          obtain ⟨y, hy⟩ : ∃ y, y = RefP.dig b j := ⟨_, rfl⟩
          obtain ⟨q, hq⟩ : ∃ q, q = x * y := ⟨_, rfl⟩
          have hkb : k < 65536 := by rw [hk]; exact RefP.carry_lt a b i j
          have hcb : c < 65536 := by rw [hc]; exact RefP.dig_lt _ _
          have hxb : x < 65536 := by rw [hx]; exact RefP.dig_lt _ _
          have hyb : y < 65536 := by rw [hy]; exact RefP.dig_lt _ _
          have hqb : q ≤ 65535 * 65535 := by rw [hq]; exact Nat.mul_le_mul (by omega) (by omega)
          have hqm : (x : Int) * (y : Int) = (q : Int) := by rw [hq, Int.natCast_mul]
          obtain ⟨T, hT⟩ : ∃ T, T = k + c + q := ⟨_, rfl⟩
          have hw1 : IntKind.u64.wrap ((x : Int) * (y : Int)) = (q : Int) := by rw [hqm]; exact IntWalk.u64_in _ (by omega)
          have hw2 : IntKind.u64.wrap ((k : Int) + (c : Int) + (q : Int)) = (T : Int) := by rw [hT]; refine (IntWalk.u64_in _ (by omega)).trans ?_; omega
          have facts : ∀ z : GrewOf wr, (z.1.cell? ⟨w.heap.size + 3, i + j, none⟩ = some (.int .u64 (c : Int)) ∧ z.1.cell? ⟨w.heap.size, i, none⟩ = some (.int .u64 (x : Int)) ∧ z.1.cell? ⟨w.heap.size + 1, j, none⟩ = some (.int .u64 (y : Int))) := fun z => by
            refine ⟨?_, ?_, ?_⟩
            · rw [hc]; exact part_cell (hC.grew z.2) hjl
            · rw [hx]; exact dg_cell ((HA.out.other hgr (by intro e; injection e; omega)).grew z.2) hlt
            · rw [hy]; exact dg_cell ((HB.out.other hgr (by intro e; injection e; omega)).grew z.2) (by omega)
          have FACTS := Lib.hid facts
          have HK := Lib.hid hk
          have HCC := Lib.hid hc
          have HX := Lib.hid hx
          have HY := Lib.hid hy
          have HQ := Lib.hid hq
          have HCr := Lib.hid hC
          have HGr := Lib.hid hgr
          rw [← hk]
          have HT := Lib.hid hT
          have WW := Lib.hid (And.intro hw1 hw2)
          clear facts hk hc hx hy hq hC hgr hqm hw1 hw2
          go_upto_region 9 with fail
          have hqq := And.intro FACTS.out WW.out
          refine wp_region_x [] (by kernel_rfl) (by kernel_rfl) (by kernel_rfl) ?_
          simp only [blank, List.foldl_nil]
          repeat ((refine wpX_value (v := ?_) rfl (by intros; simp) rfl rfl (fun x => ?_) ?_; rotate_left; (focus (simp [go_sem, hqq, ↓IntWalk.iteOmega]; (try go_ints); first | done | (with_reducible rfl))); (simp only [Act.put, List.setIfInBounds_toArray, List.set_cons_succ, List.set_cons_zero])))
          (refine wpX_nil ?_; intro xb wx hxg xl; obtain ⟨xf, xe⟩ := LikeAll.end_ xl; clear xl; subst xe; simp only [fill, List.foldl_nil, Act.put])
          clear hqq
          have hTb : T < 4294967296 := by rw [HT.out]; omega
          have HCx := Lib.hid (HCr.out.grew hxg)
          have HGx := Lib.hid (grown_grew HGr.out hxg)
          have q1 := part_cell HCx.out hjl
          have q2 := HCx.out.frozen (i + j)
          obtain ⟨lo, hlo⟩ : ∃ lo, lo = T % 65536 := ⟨_, rfl⟩
          obtain ⟨hi', hhi⟩ : ∃ h, h = T / 65536 := ⟨_, rfl⟩
          have g1 := u64_low T (by omega)
          rw [← hlo] at g1
          have g2 : (T : Int) / 65536 = (hi' : Int) := by omega
          have eT : (T : Int) = (k : Int) + (c : Int) + (q : Int) := by rw [HT.out]; omega
          rw [eT] at g1 g2
          clear eT
          have hst := HCx.out.set (i + j) (.int .u64 (lo : Int))
          have hps : (u64v (RefP.part a b i j)).set (i + j) (.int .u64 (lo : Int)) = u64v (RefP.part a b i (j + 1)) := by
            rw [← RefP.part_set a b i j hjl, ← HK.out, ← HCC.out, ← HX.out, ← HY.out, ← HQ.out, ← HT.out, ← hlo]
            exact (List.map_set ..).symm
          rw [hps] at hst
          have HST := Lib.hid hst
          have HCAR := Lib.hid (show hi' = RefP.carry a b i (j + 1) by rw [RefP.carry_step, ← HK.out, ← HCC.out, ← HX.out, ← HY.out, ← HQ.out, ← HT.out, ← hhi])
          clear hst hps hlo hhi hxg HCr HGr
          go_wp2_with fail
          go_roundw
          case rel => exact ⟨j + 1, by omega, by go_num, by rw [HCAR.out], HST.out, grown_step HGx.out (grown_cell wx ⟨w.heap.size + 3, i + j, none⟩ _)⟩
          case measure => simp [intOf]; omega
        · obtain rfl : j = 8 - i := by omega
          have ij8 : ¬ (i : Int) + ((8 - i : Nat) : Int) < 8 := by omega
          rw [RefP.part_end a b i hlt] at hC
          have HC2 := Lib.hid hC
          have HG2 := Lib.hid hgr
          clear hC hgr
          go_wp2_with fail
          go_roundw
          case rel => exact ⟨i + 1, by omega, by go_num, HC2.out, HG2.out⟩
          case measure => simp [intOf]; omega
    · obtain rfl : i = 8 := by omega
      rw [RefP.low_end a b ha] at hC
      obtain ⟨C, hCC⟩ : ∃ C, C = u64v (RefP.dg (a * b)) := ⟨_, rfl⟩
      rw [← hCC] at hC
      have hCl : C.length = 8 := by rw [hCC]; rfl
      have hR := HR.out.other hgr (by intro e; injection e; omega)
      have hst := hR.stored (vs := C) (by rw [hCl]; rfl)
      have HRG := Lib.hid hC.range
      have hth : wo.there (w.heap.size + 2) 0 8 := by have := hR.there; rwa [show (u64v (RefP.dg 0)).length = 8 from rfl] at this
      have HT := Lib.hid (show wo.there (w.heap.size + 2) 0 C.toArray.size by
        have e : C.toArray.size = 8 := by simp [hCl]
        rw [e]
        exact hth)
      clear hth
      have HIN := Lib.hid (show (Try.prog.info? 150).map (·.size) = some C.length by rw [hCl]; kernel_rfl)
      have H1 := Lib.hid (show C.toArray.all (·.oneCell') = true by rw [hCC]; exact all_oneCell_toArray (fun v hv => by obtain ⟨x, _, rfl⟩ := List.mem_map.1 hv; rfl))
      have HL := Lib.hid (run_loadVar_mid (P := Try.prog) _ (w.heap.size + 2) 0 150 C _ hst.range Try.underlying150 rfl HIN.out)
      have HF := Lib.hid (show Grew w (wo.setCells (w.heap.size + 2) 0 C) from by
        have h1 : w.grownBy (wo.setCells (w.heap.size + 2) 0 C) none := grown_fresh (grown_fresh (grown_grew (grown_refl w none) HG.out) (by omega) hgr) (by omega) (grown_setCells (w.heap.size + 2) C 0 wo)
        exact ⟨h1.os, h1.tape, h1.output, h1.size, fun k hk => h1.block k hk (by simp)⟩)
      have HCC := Lib.hid hCC
      clear hC hgr hCC hCl hR hst
      go_wp2_with (first
        | (refine wpList_load_mid rfl 150 (.tmp 5) rfl (w.heap.size + 3) 0 rfl C _ HRG.out Try.underlying150 rfl HIN.out ?_)
        | (refine wpList_store_mid rfl 150 (.tmp 4) (.tmp 42) rfl (w.heap.size + 2) 0 C.toArray rfl rfl HT.out (by simpa using HIN.out) H1.out ?_))
      have hl := HL.out
      refine bodyPost_ret (v := .agg C.toArray) (by simp [results, Try.results83, Act.put, asAddr, hl]) rfl ⟨by rw [HCC.out], by simpa using HF.out⟩
end Go.Proofs.Ytohgkadbajmphaa
