/- The walk of slices.CompactFunc of items. -/
import Derived.Test.YtemckkcbakccnaaItemCompact
namespace Go.Proofs.Ytemckkcbakccnaa
open Go.RowKit
set_option linter.unusedVariables false
set_option maxRecDepth 100000 in
set_option maxHeartbeats 2000000 in
theorem compact_items (A : Option Addr) (n c base : Nat) (l : List It) (w : World) (h : OwnI w base A n c l) (hn : n ≤ 1000000) :
    Calls Try.prog 24 #[.slice A n c, eqV] w fun e w' => ∃ m, e = .returned (.slice A m c) ∧ OwnI w' base A m c (MrgP.compactP l) ∧ w.grownBy w' (blk A) := by
  have hl := h.len
  have hm := h.le
  unfold maxLen at hm
  have HO := Lib.hid h
  have HR0 : Hid (∀ W (x y : It), Calls Try.prog 25 #[iv x, iv y] W fun e w' => e = .returned (.bool (sameB x y)) ∧ Grew W w') := Lib.hid fun W x y => mrg_same x y W
  clear h
  by_cases hn2 : n < 2
  · have i1 : (n : Int) < 2 := by omega
    have HS := Lib.hid (MrgP.compact_short (l := l) (by omega))
    go_enter Try.func24, Try.ntmps24
    go_wp2_with fail
    go_ret
    exact ⟨n, rfl, by rw [HS.out]; exact HO.out, grown_of_grew (Grew.refl _) _⟩
  have i1 : ¬ (n : Int) < 2 := by omega
  go_enter Try.func24, Try.ntmps24
  go_wp2_with fail
  go_loopw [5] (fun i wy => ∃ k : Nat, k + 1 ≤ n ∧ i = .int .i64 ((k : Int) + 1) ∧ MrgP.compactP (l.take (k + 1)) = l.take (k + 1) ∧ OwnI wy base A n c l ∧ w.grownBy wy (blk A)) (fun i _ => n - (intOf i).toNat)
  case atStart => exact ⟨0, by omega, rfl, MrgP.compact_one l, HO.out, grown_of_grew (Grew.refl _) _⟩
  case round =>
    obtain ⟨k, hk, rfl, hc, hO, hG⟩ := hrel
    have HC := Lib.hid hc
    have HO1 := Lib.hid hO
    have HG1 := Lib.hid hG
    clear hc hO hG HO
    have i0 : (0 : Int) ≤ (k : Int) := by omega
    by_cases hlt : k + 1 < n
    · obtain ⟨y, hy⟩ : ∃ x, l[k]? = some x := ⟨_, List.getElem?_eq_getElem (by omega)⟩
      obtain ⟨x, hx⟩ : ∃ x, l[k + 1]? = some x := ⟨_, List.getElem?_eq_getElem (by omega)⟩
      have HADD := Lib.hid (MrgP.compact_add hy hx)
      obtain ⟨g, o, rfl, q1⟩ := is_grew (HO1.out.is (Nat.le_refl _)) (Below.refl _ _) hx
      obtain ⟨g2, o2, e2, q2⟩ := is_grew (HO1.out.is (Nat.le_refl _)) (Below.refl _ _) hy
      cases e2
      have HX := Lib.hid hx
      have HY := Lib.hid hy
      have i2 : (k : Int) + 1 < (n : Int) := by omega
      have i3 : (k : Int) < (n : Int) := by omega
      obtain ⟨b, hb⟩ : ∃ b, b = sameB x y := ⟨_, rfl⟩
      have HR := Lib.hid (fun W => HR0.out W x y)
      rw [← hb] at HR HADD
      clear hx hy hb
      cases b
      · have HADD := Lib.hid (show MrgP.compactP (l.take (k + 2)) = l.take (k + 2) by
          rw [HADD.out, HC.out, if_neg (by decide), List.take_add_one (i := k + 1), HX.out]
          rfl)
        go_upto_region 6 with fail
        have hqq := And.intro q1 (And.intro q2 (And.intro i2 (And.intro i3 i0)))
        clear q1 q2
        refine wp_region_x [] (by kernel_rfl) (by kernel_rfl) (by kernel_rfl) ?_
        simp only [blank, List.foldl_nil]
        repeat (first | (refine wpX_value (v := ?_) rfl (by intros; simp) rfl rfl (fun x => ?_) ?_; rotate_left; (focus (simp [go_sem, hqq, ↓IntWalk.iteOmega]; (try go_ints); first | done | (with_reducible rfl))); (simp only [Act.put, List.setIfInBounds_toArray, List.set_cons_succ, List.set_cons_zero])) | (refine wpX_call (.bool false) _ _ rfl (by intros; simp) rfl rfl (fun x => ?_) (fun W _ => HR.out W) ?_; (focus (simp [go_sem]; done)); (simp only [Act.put, List.setIfInBounds_toArray, List.set_cons_succ, List.set_cons_zero])))
        (refine wpX_nil ?_; intro xb wx hxg xl; obtain ⟨xf, xe⟩ := LikeAll.end_ xl; clear xl; subst xe; simp only [fill, List.foldl_nil, Act.put])
        clear hqq
        go_wp2_with fail
        go_roundw
        case rel => exact ⟨k + 1, hlt, by go_num, HADD.out, HO1.out.below_all hxg, HG1.out.trans (grown_of_grew hxg _)⟩
        case measure => simp [intOf]; omega
      · have HAD1 := Lib.hid (show MrgP.compactP (l.take (k + 2)) = l.take (k + 1) by rw [HADD.out, HC.out]; simp)
        go_upto_region 6 with fail
        have hqq := And.intro q1 (And.intro q2 (And.intro i2 (And.intro i3 i0)))
        clear q1 q2
        refine wp_region_x [] (by kernel_rfl) (by kernel_rfl) (by kernel_rfl) ?_
        simp only [blank, List.foldl_nil]
        repeat (first | (refine wpX_value (v := ?_) rfl (by intros; simp) rfl rfl (fun x => ?_) ?_; rotate_left; (focus (simp [go_sem, hqq, ↓IntWalk.iteOmega]; (try go_ints); first | done | (with_reducible rfl))); (simp only [Act.put, List.setIfInBounds_toArray, List.set_cons_succ, List.set_cons_zero])) | (refine wpX_call (.bool true) _ _ rfl (by intros; simp) rfl rfl (fun x => ?_) (fun W _ => HR.out W) ?_; (focus (simp [go_sem]; done)); (simp only [Act.put, List.setIfInBounds_toArray, List.set_cons_succ, List.set_cons_zero])))
        (refine wpX_nil ?_; intro xb wx hxg xl; obtain ⟨xf, xe⟩ := LikeAll.end_ xl; clear xl; subst xe; simp only [fill, List.foldl_nil, Act.put])
        clear hqq
        obtain ⟨N2, hN2⟩ : ∃ N2, N2 = n - (k + 1) := ⟨_, rfl⟩
        obtain ⟨C2, hC2⟩ : ∃ C2, C2 = c - (k + 1) := ⟨_, rfl⟩
        have hsl : ∀ W, (Instr.slice 23 (.slice (some ⟨g, o, none⟩) n c) (some (.int .i64 ((k : Int) + 1))) none none).run Try.prog W = .ok (.slice (some ⟨g, o + (k + 1) * 4, none⟩) N2 C2) W := fun W => by
          have := run_fromI (some ⟨g, o, none⟩) n c (k + 1) (by omega) (by omega) (by unfold maxLen; omega) ((k : Int) + 1) (by omega) W
          rw [hN2, hC2]
          unfold cutI at this
          rw [if_neg (by omega)] at this
          rw [this, Option.map_some, add_off]
        have hN : (k : Int) + 1 + (N2 : Int) = (n : Int) := by omega
        have HN := Lib.hid (show k + 1 + N2 = n by omega)
        have hNb : N2 ≤ 1000000 := by omega
        have HO2 := Lib.hid (HO1.out.below_all hxg)
        have HG2 := Lib.hid (HG1.out.trans (grown_of_grew hxg (blk (some ⟨g, o, none⟩))))
        clear hN2 hC2 HR HO1 HG1 hN
        go_wp2_with fail
        go_loopw [5, 7] (fun iv tv wy => ∃ (t m : Nat) (cur : List It), t + 1 ≤ N2 ∧ iv = .int .i64 ((m : Int) + 1) ∧ tv = .int .i64 ((t : Int) + 1) ∧ m ≤ k + t ∧ cur.take (m + 1) = MrgP.compactP (l.take (k + 2 + t)) ∧ (∀ j, k + 1 + t ≤ j → cur[j]? = l[j]?) ∧ OwnI wy base (some ⟨g, o, none⟩) n c cur ∧ w.grownBy wy (blk (some ⟨g, o, none⟩))) (fun _ tv _ => N2 - (intOf tv).toNat)
        case atStart => exact ⟨0, k, l, by have := HN.out; omega, rfl, rfl, Nat.le_refl _, HAD1.out.symm, fun _ _ => rfl, HO2.out, HG2.out⟩
        case round =>
          obtain ⟨t, m, cur, ht, rfl, rfl, hmk, hct, hrest, hO, hG⟩ := hrel
          have HCT := Lib.hid hct
          have HRS := Lib.hid hrest
          have HO3 := Lib.hid hO
          have HG3 := Lib.hid hG
          have hcl := hO.len
          clear hct hrest hO hG HO2 HG2 HADD HAD1
          have hNN := HN.out
          have j0 : (0 : Int) ≤ (t : Int) := by omega
          by_cases hlt2 : t + 1 < N2
          · obtain ⟨y2, hy2⟩ : ∃ x, l[k + 1 + t]? = some x := ⟨_, List.getElem?_eq_getElem (by omega)⟩
            obtain ⟨x2, hx2⟩ : ∃ x, l[k + 1 + t + 1]? = some x := ⟨_, List.getElem?_eq_getElem (by omega)⟩
            have HADD2 := Lib.hid (MrgP.compact_add hy2 hx2)
            have hcy : cur[k + 1 + t]? = some y2 := by rw [HRS.out _ (by omega)]; exact hy2
            have hcx : cur[k + 1 + t + 1]? = some x2 := by rw [HRS.out _ (by omega)]; exact hx2
            obtain ⟨g3, o3, e3, p1⟩ := is_grew (HO3.out.is (Nat.le_refl _)) (Below.refl _ _) hcx
            cases e3
            obtain ⟨g4, o4, e4, p2⟩ := is_grew (HO3.out.is (Nat.le_refl _)) (Below.refl _ _) hcy
            cases e4
            rw [show o + (k + 1 + t + 1) * 4 = o + (k + 1) * 4 + (t + 1) * 4 by omega] at p1
            rw [show o + (k + 1 + t) * 4 = o + (k + 1) * 4 + t * 4 by omega] at p2
            have i5 : (t : Int) + 1 < (N2 : Int) := by omega
            have i6 : (t : Int) < (N2 : Int) := by omega
            obtain ⟨b, hb⟩ : ∃ b, b = sameB x2 y2 := ⟨_, rfl⟩
            have HR := Lib.hid (fun W => HR0.out W x2 y2)
            rw [← hb] at HR HADD2
            have HCX := Lib.hid hcx
            clear hx2 hy2 hb hcy hcx hNN
            cases b
            · have HADD2 := Lib.hid (show MrgP.compactP (l.take (k + 2 + (t + 1))) = cur.take (m + 1) ++ [x2] by
                rw [HCT.out]
                have := HADD2.out
                rw [if_neg (by decide), show k + 1 + t + 2 = k + 2 + (t + 1) by omega, show k + 1 + t + 1 = k + 2 + t by omega] at this
                exact this)
              go_upto_region 11 with fail
              have hqq := And.intro p1 (And.intro p2 (And.intro i5 (And.intro i6 j0)))
              clear p1 p2
              refine wp_region_x [] (by kernel_rfl) (by kernel_rfl) (by kernel_rfl) ?_
              simp only [blank, List.foldl_nil]
              repeat (first | (refine wpX_value (v := ?_) rfl (by intros; simp) rfl rfl (fun x => ?_) ?_; rotate_left; (focus (simp [go_sem, hqq, ↓IntWalk.iteOmega]; (try go_ints); first | done | (with_reducible rfl))); (simp only [Act.put, List.setIfInBounds_toArray, List.set_cons_succ, List.set_cons_zero])) | (refine wpX_call (.bool false) _ _ rfl (by intros; simp) rfl rfl (fun x => ?_) (fun W _ => HR.out W) ?_; (focus (simp [go_sem]; done)); (simp only [Act.put, List.setIfInBounds_toArray, List.set_cons_succ, List.set_cons_zero])))
              (refine wpX_nil ?_; intro xb wx hxg xl; obtain ⟨xf, xe⟩ := LikeAll.end_ xl; clear xl; subst xe; simp only [fill, List.foldl_nil, Act.put])
              clear hqq
              have HO4 := Lib.hid (HO3.out.below_all hxg)
              have HG4 := Lib.hid (HG3.out.trans (grown_of_grew hxg (blk (some ⟨g, o, none⟩))))
              obtain ⟨r0, r1, r2, r3⟩ := range_cells (OwnI.range HO4.out HCX.out)
              rw [show o + (k + 1 + t + 1) * 4 = o + (k + 1) * 4 + (t + 1) * 4 by have := HN.out; omega] at r0 r1 r2 r3
              have hmn : m + 1 < n := by have := HN.out; omega
              have i7 : (m : Int) + 1 < (n : Int) := by omega
              have i8 : (0 : Int) ≤ (m : Int) + 1 := by omega
              clear HO3 HG3
              go_wp2_with (refine wpList_store_mid rfl 29 (.tmp 56) (.tmp 55) rfl g (o + (m + 1) * 4) (itv x2).toArray rfl rfl (HO4.out.there hmn) size_item (one_itv_all x2) ?_; rw [List.toList_toArray]; have HO5 := Lib.hid (HO4.out.setI hmn x2); have HG5 := Lib.hid (HG4.out.trans (grown_setCells g (itv x2) (o + (m + 1) * 4) wx)); generalize wx.setCells g (o + (m + 1) * 4) (itv x2) = w5 at HO5 HG5 ⊢)
              go_roundw
              case rel =>
                refine ⟨t + 1, m + 1, _, by omega, by go_num, by go_num, by omega, ?_, fun j hj => ?_, HO5.out, HG5.out⟩
                · rw [HADD2.out, List.take_add_one, List.take_set_of_le (Nat.le_refl _), List.getElem?_set, if_pos rfl, if_pos (by omega)]
                  rfl
                · rw [List.getElem?_set, if_neg (by omega)]
                  exact HRS.out j (by omega)
              case measure => simp [intOf]; omega
            · have HADD2 := Lib.hid (show MrgP.compactP (l.take (k + 2 + (t + 1))) = cur.take (m + 1) by
                rw [HCT.out]
                have := HADD2.out
                rw [if_pos rfl, List.append_nil, show k + 1 + t + 2 = k + 2 + (t + 1) by omega, show k + 1 + t + 1 = k + 2 + t by omega] at this
                exact this)
              go_upto_region 11 with fail
              have hqq := And.intro p1 (And.intro p2 (And.intro i5 (And.intro i6 j0)))
              clear p1 p2
              refine wp_region_x [] (by kernel_rfl) (by kernel_rfl) (by kernel_rfl) ?_
              simp only [blank, List.foldl_nil]
              repeat (first | (refine wpX_value (v := ?_) rfl (by intros; simp) rfl rfl (fun x => ?_) ?_; rotate_left; (focus (simp [go_sem, hqq, ↓IntWalk.iteOmega]; (try go_ints); first | done | (with_reducible rfl))); (simp only [Act.put, List.setIfInBounds_toArray, List.set_cons_succ, List.set_cons_zero])) | (refine wpX_call (.bool true) _ _ rfl (by intros; simp) rfl rfl (fun x => ?_) (fun W _ => HR.out W) ?_; (focus (simp [go_sem]; done)); (simp only [Act.put, List.setIfInBounds_toArray, List.set_cons_succ, List.set_cons_zero])))
              (refine wpX_nil ?_; intro xb wx hxg xl; obtain ⟨xf, xe⟩ := LikeAll.end_ xl; clear xl; subst xe; simp only [fill, List.foldl_nil, Act.put])
              clear hqq
              go_wp2_with fail
              go_roundw
              case rel => exact ⟨t + 1, m, cur, by omega, by go_num, by go_num, by omega, HADD2.out.symm, fun j hj => HRS.out j (by omega), HO3.out.below_all hxg, HG3.out.trans (grown_of_grew hxg _)⟩
              case measure => simp [intOf]; omega
          · have hE : l.take (k + 2 + t) = l := List.take_of_length_le (by omega)
            have HE := Lib.hid hE
            have hmn : m + 1 < n := by omega
            have i5 : ¬ (t : Int) + 1 < (N2 : Int) := by omega
            have i7 : (m : Int) + 1 < (n : Int) := by omega
            have hs2 : ∀ W, (Instr.slice 23 (.slice (some ⟨g, o, none⟩) n c) (some (.int .i64 ((m : Int) + 1))) none none).run Try.prog W = .ok (.slice (some ⟨g, o + (m + 1) * 4, none⟩) (n - (m + 1)) (c - (m + 1))) W := fun W => by
              have := run_fromI (some ⟨g, o, none⟩) n c (m + 1) (by omega) (by omega) (by unfold maxLen; omega) ((m : Int) + 1) (by omega) W
              unfold cutI at this
              rw [if_neg (by omega)] at this
              rw [this, Option.map_some, add_off]
            have hs3 : ∀ W, (Instr.slice 23 (.slice (some ⟨g, o, none⟩) n c) none (some (.int .i64 ((m : Int) + 1))) none).run Try.prog W = .ok (.slice (some ⟨g, o, none⟩) (m + 1) c) W := fun W => run_toI (some ⟨g, o, none⟩) n c (m + 1) (by omega) (by omega) (by unfold maxLen; omega) ((m : Int) + 1) (by omega) W
            clear hE hNN
            go_wp2_with (refine wpList_clearI rfl (.tmp 61) rfl HO3.out hmn (c - (m + 1)) rfl ?_; intro w6 hO6 hg6; have HO6 := Lib.hid hO6; have HG6 := Lib.hid hg6; clear hO6 hg6)
            go_ret
            exact ⟨m + 1, rfl, by have := HO6.out; rwa [HCT.out, HE.out] at this, HG3.out.trans HG6.out⟩
    · obtain rfl : n = k + 1 := by omega
      have HT := Lib.hid (show l.take (k + 1) = l from List.take_of_length_le (by omega))
      have i2 : ¬ (k : Int) + 1 < ((k + 1 : Nat) : Int) := by omega
      go_wp2_with fail
      go_ret
      exact ⟨k + 1, rfl, by have := HC.out; rw [HT.out] at this; rw [this]; exact HO1.out, HG1.out⟩
end Go.Proofs.Ytemckkcbakccnaa
