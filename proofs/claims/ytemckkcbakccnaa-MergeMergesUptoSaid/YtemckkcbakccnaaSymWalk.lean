/- The walk of slices' symmetric merge of items. -/
import Derived.Test.YtemckkcbakccnaaItemSwap
import Derived.Test.YtemckkcbakccnaaSymPlain
import Derived.Test.YtemckkcbakccnaaRefSorted
namespace Go.Proofs.Ytemckkcbakccnaa
open Go.RowKit
set_option linter.unusedVariables false
open SymP
theorem right_ok {Y : List It} {x : It} {t : Nat} (hy : WS Y) (ht' : t ≤ Y.length) (hb : t ≠ 0 → ∀ y, Y[t - 1]? = some y → ItP.ahead y x = true) (hc : ∀ y, Y[t]? = some y → ItP.ahead y x = false) : OkR (Y.take t ++ x :: Y.drop t) ([x] ++ Y) := by
  have hyt : WS (Y.take t ++ Y.drop t) := by rw [List.take_append_drop]; exact hy
  have h1 : WS (Y.take t) := by unfold WS at *; rw [List.pairwise_append] at hyt; exact hyt.1
  have h2 : WS (Y.drop t) := by unfold WS at *; rw [List.pairwise_append] at hyt; exact hyt.2.1
  have k := sym_ok (A1 := []) (A2 := [x]) (B1 := Y.take t) (B2 := Y.drop t) (R1 := Y.take t) (R2 := x :: Y.drop t) (List.pairwise_singleton _ _) hyt (by simp) (high_of h1 (List.pairwise_singleton _ _) (fun b a hb' ha' => by
    simp at ha'
    subst ha'
    by_cases ht : t = 0
    · subst ht; simp at hb'
    · refine hb ht b ?_
      rw [List.getLast?_eq_getElem?, List.length_take] at hb'
      rw [Nat.min_eq_left ht', List.getElem?_take, if_pos (by omega)] at hb'
      exact hb')) (by rw [List.nil_append]; exact okr_self h1) (okr_self (by
    unfold WS
    rw [show x :: Y.drop t = [x] ++ Y.drop t from rfl, List.pairwise_append]
    exact ⟨List.pairwise_singleton _ _, h2, low_of (List.pairwise_singleton _ _) h2 (fun a b ha' hb' => by
      simp at ha'
      subst ha'
      rw [List.head?_drop] at hb'
      exact hc b hb')⟩))
  simpa using k
theorem left_ok {X : List It} {y : It} {t : Nat} (hx : WS X) (ht' : t ≤ X.length) (hb : t ≠ 0 → ∀ z, X[t - 1]? = some z → ItP.ahead y z = false) (hc : ∀ z, X[t]? = some z → ItP.ahead y z = true) : OkR (X.take t ++ y :: X.drop t) (X ++ [y]) := by
  have hxt : WS (X.take t ++ X.drop t) := by rw [List.take_append_drop]; exact hx
  have h1 : WS (X.take t) := by unfold WS at *; rw [List.pairwise_append] at hxt; exact hxt.1
  have h2 : WS (X.drop t) := by unfold WS at *; rw [List.pairwise_append] at hxt; exact hxt.2.1
  have hlow : ∀ a ∈ X.take t, ∀ b ∈ [y], le a b := low_of h1 (List.pairwise_singleton _ _) (fun a b ha' hb' => by
    simp at hb'
    subst hb'
    by_cases ht : t = 0
    · subst ht; simp at ha'
    · refine hb ht a ?_
      rw [List.getLast?_eq_getElem?, List.length_take] at ha'
      rw [Nat.min_eq_left ht', List.getElem?_take, if_pos (by omega)] at ha'
      exact ha')
  have k := sym_ok (A1 := X.take t) (A2 := X.drop t) (B1 := [y]) (B2 := []) (R1 := X.take t ++ [y]) (R2 := X.drop t) hxt (List.pairwise_singleton _ _) (by simp) (high_of (List.pairwise_singleton _ _) h2 (fun b a hb' ha' => by
    simp at hb'
    subst hb'
    rw [List.head?_drop] at ha'
    exact hc a ha')) (okr_self (by
      unfold WS
      rw [List.pairwise_append]
      exact ⟨h1, List.pairwise_singleton _ _, hlow⟩)) (by rw [List.append_nil]; exact okr_self h2)
  simpa using k
theorem exch_at (L N : List It) (u v : It) : ((L ++ u :: v :: N).set L.length v).set (L.length + 1) u = L ++ v :: u :: N := by
  rw [List.set_append_right _ _ (by omega), List.set_append_right _ _ (by omega)]
  simp
set_option maxRecDepth 100000 in
set_option maxHeartbeats 4000000 in
theorem sym_right (A : Option Addr) (n c base : Nat) (za zm zb : Int) (P Y S : List It) (x : It) (w : World) (h : OwnI w base A n c (P ++ [x] ++ Y ++ S)) (hy : WS Y) (hza : za = (P.length : Int)) (hzm : zm = (P.length : Int) + 1) (hzb : zb = (P.length : Int) + 1 + (Y.length : Int)) (hn : n ≤ 1000000) :
    Calls Try.prog 45 #[.slice A n c, .int .i64 za, .int .i64 zm, .int .i64 zb, cmpV] w fun e w' => ∃ R, (∃ v, e = .returned v) ∧ OkR R ([x] ++ Y) ∧ OwnI w' base A n c (P ++ R ++ S) ∧ w.grownBy w' (blk A) := by
  have hl := h.len
  have hm := h.le
  unfold maxLen at hm
  simp only [List.length_append, List.length_cons, List.length_nil] at hl
  obtain ⟨a, ha⟩ : ∃ a, a = P.length := ⟨_, rfl⟩
  obtain ⟨b, hb⟩ : ∃ b, b = P.length + 1 + Y.length := ⟨_, rfl⟩
  obtain rfl : za = (a : Int) := by omega
  obtain rfl : zm = (a : Int) + 1 := by omega
  obtain rfl : zb = (b : Int) := by omega
  have HO := Lib.hid h
  have HY := Lib.hid hy
  have HL := Lib.hid (And.intro ha (And.intro hb hl))
  have hbn : b ≤ n := by omega
  have han : a < n := by omega
  have hab : a + 1 ≤ b := by omega
  have t0 : ((a : Int) + 1 - (a : Int) == 1) = true := by simp; omega
  obtain ⟨D, hD⟩ : ∃ D, D = P ++ [x] ++ Y ++ S := ⟨_, rfl⟩
  have HDx := Lib.hid (show D[a]? = some x by rw [hD, ha, List.append_assoc, List.append_assoc, List.getElem?_append_right (Nat.le_refl _), Nat.sub_self]; rfl)
  have HDy := Lib.hid (show ∀ h, a + 1 ≤ h → h < b → D[h]? = Y[h - (a + 1)]? from fun h h1 h2 => by rw [hD, List.getElem?_append_left (by simp; omega), List.getElem?_append_right (by simp; omega)]; congr 1; simp; omega)
  rw [← hD] at HO
  have HD := Lib.hid hD
  clear h hy hza hzm hzb ha hb hl hD
  go_enter Try.func45, Try.ntmps45
  go_wp2_with fail
  go_loopw [10, 11, 12] (fun iv jv _ wy => ∃ i j : Nat, a + 1 ≤ i ∧ i ≤ j ∧ j ≤ b ∧ iv = .int .i64 (i : Int) ∧ jv = .int .i64 (j : Int) ∧ (i ≠ a + 1 → ∀ y, Y[i - (a + 1) - 1]? = some y → ItP.ahead y x = true) ∧ (∀ y, Y[j - (a + 1)]? = some y → ItP.ahead y x = false) ∧ Grew w wy) (fun i j _ _ => (intOf j).toNat - (intOf i).toNat)
  case atStart => exact ⟨a + 1, b, Nat.le_refl _, hab, Nat.le_refl _, by go_num, rfl, (fun h => absurd rfl h), (fun y hy => by
    have := (List.getElem?_eq_some_iff.1 hy).1
    have := HL.out
    omega), Grew.refl _⟩
  case round =>
    obtain ⟨i, j, hi, hij, hj, rfl, rfl, h1, h2, hG⟩ := hrel
    have H1 := Lib.hid h1
    have H2 := Lib.hid h2
    have HG := Lib.hid hG
    clear h1 h2 hG
    by_cases hlt : i < j
    · have i1 : (i : Int) < (j : Int) := by omega
      go_upto_region 5 with fail
      obtain ⟨h, hh⟩ : ∃ h, h = (i + j) / 2 := ⟨_, rfl⟩
      rw [show ((i : Int) + (j : Int)) / 2 = (h : Int) by omega]
      have hih : i ≤ h := by omega
      have hhj : h < j := by omega
      clear hh
      obtain ⟨y, hy⟩ : ∃ y, D[h]? = some y := ⟨_, List.getElem?_eq_getElem (by have := HO.out.len; omega)⟩
      have hyY : Y[h - (a + 1)]? = some y := by rw [← HDy.out h (by omega) (by omega)]; exact hy
      obtain ⟨g, o, rfl, q1⟩ := is_grew ((HO.out.below_all HG.out).is (Nat.le_refl _)) (Below.refl _ _) hy
      obtain ⟨g2, o2, e2, q2⟩ := is_grew ((HO.out.below_all HG.out).is (Nat.le_refl _)) (Below.refl _ _) HDx.out
      cases e2
      have i2 : (h : Int) < (n : Int) := by omega
      have i3 : (0 : Int) ≤ (h : Int) := by omega
      have i4 : (a : Int) < (n : Int) := by omega
      have i5 : (0 : Int) ≤ (a : Int) := by omega
      obtain ⟨cz, hcz⟩ : ∃ cz, cz = ItP.cmp y x := ⟨_, rfl⟩
      have HR : Hid (∀ W, Calls Try.prog 23 #[iv y, iv x] W fun e w' => e = .returned (.int .i64 cz) ∧ Grew W w') := Lib.hid fun W => by rw [hcz]; exact merge_compare y x W
      have hcn := ItP.cmp_neg y x
      rw [← hcz] at hcn
      have HYY := Lib.hid hyY
      clear hcz hy hyY
      by_cases hah : ItP.ahead y x = true
      · have hz : cz < 0 := hcn.2 hah
        have HAH := Lib.hid hah
        clear hcn hah
        have hqq := And.intro q1 (And.intro q2 (And.intro i2 (And.intro i3 (And.intro i4 (And.intro hz i5)))))
        clear q1 q2
        refine wp_region_x [] (by kernel_rfl) (by kernel_rfl) (by kernel_rfl) ?_
        simp only [blank, List.foldl_nil]
        repeat (first | (refine wpX_value (v := ?_) rfl (by intros; simp) rfl rfl (fun x => ?_) ?_; rotate_left; (focus (simp [go_sem, hqq]; (try go_ints); first | done | (with_reducible rfl))); (simp only [Act.put, List.setIfInBounds_toArray, List.set_cons_succ, List.set_cons_zero])) | (refine wpX_call (.int .i64 cz) _ _ rfl (by intros; simp) rfl rfl (fun x => ?_) (fun W _ => HR.out W) ?_; (focus (simp [go_sem]; done)); (simp only [Act.put, List.setIfInBounds_toArray, List.set_cons_succ, List.set_cons_zero])))
        (refine wpX_nil ?_; intro xb wx hxg xl; obtain ⟨xf, xe⟩ := LikeAll.end_ xl; clear xl; subst xe; simp only [fill, List.foldl_nil, Act.put])
        clear hqq
        go_wp2_with fail
        go_roundw
        case rel => exact ⟨h + 1, j, by omega, by omega, hj, by go_num, rfl, (fun _ z hz' => by
          rw [show h + 1 - (a + 1) - 1 = h - (a + 1) by omega, HYY.out] at hz'
          cases hz'
          exact HAH.out), H2.out, HG.out.trans hxg⟩
        case measure => simp [intOf]; omega
      · have hz : ¬ cz < 0 := fun h => hah (hcn.1 h)
        have HAH := Lib.hid (show ItP.ahead y x = false by simpa using hah)
        clear hcn hah
        have hqq := And.intro q1 (And.intro q2 (And.intro i2 (And.intro i3 (And.intro i4 (And.intro hz i5)))))
        clear q1 q2
        refine wp_region_x [] (by kernel_rfl) (by kernel_rfl) (by kernel_rfl) ?_
        simp only [blank, List.foldl_nil]
        repeat (first | (refine wpX_value (v := ?_) rfl (by intros; simp) rfl rfl (fun x => ?_) ?_; rotate_left; (focus (simp [go_sem, hqq]; (try go_ints); first | done | (with_reducible rfl))); (simp only [Act.put, List.setIfInBounds_toArray, List.set_cons_succ, List.set_cons_zero])) | (refine wpX_call (.int .i64 cz) _ _ rfl (by intros; simp) rfl rfl (fun x => ?_) (fun W _ => HR.out W) ?_; (focus (simp [go_sem]; done)); (simp only [Act.put, List.setIfInBounds_toArray, List.set_cons_succ, List.set_cons_zero])))
        (refine wpX_nil ?_; intro xb wx hxg xl; obtain ⟨xf, xe⟩ := LikeAll.end_ xl; clear xl; subst xe; simp only [fill, List.foldl_nil, Act.put])
        clear hqq
        go_wp2_with fail
        go_roundw
        case rel => exact ⟨i, h, hi, hih, by omega, rfl, by go_num, H1.out, (fun z hz' => by
          rw [HYY.out] at hz'
          cases hz'
          exact HAH.out), HG.out.trans hxg⟩
        case measure => simp [intOf]; omega
    · obtain rfl : i = j := by omega
      have i1 : ¬ (i : Int) < (i : Int) := by omega
      obtain ⟨T, hT⟩ : ∃ T, i = a + 1 + T := ⟨i - (a + 1), by omega⟩
      have HOK := Lib.hid (right_ok (x := x) (t := T) HY.out (by have := HL.out; omega) (fun h y hy => H1.out (by omega) y (by rw [show i - (a + 1) - 1 = T - 1 by omega]; exact hy)) (fun y hy => H2.out y (by rw [show i - (a + 1) = T by omega]; exact hy)))
      have HO0 := Lib.hid (show OwnI wr base A n c (P ++ (Y.take 0 ++ x :: Y.drop 0) ++ S) by have := HO.out.below_all HG.out; rw [HD.out] at this; simpa using this)
      have hTb : T + a + 1 ≤ b := by omega
      subst hT
      clear H1 H2 HO
      go_wp2_with fail
      go_loopw [13] (fun kv wy => ∃ t : Nat, t ≤ T ∧ kv = .int .i64 ((a : Int) + (t : Int)) ∧ OwnI wy base A n c (P ++ (Y.take t ++ x :: Y.drop t) ++ S) ∧ w.grownBy wy (blk A)) (fun k _ => T + a - (intOf k).toNat)
      case atStart => exact ⟨0, Nat.zero_le _, by go_num, HO0.out, grown_of_grew HG.out _⟩
      case round =>
        obtain ⟨t, ht, rfl, hO, hG⟩ := hrel
        have HO1 := Lib.hid hO
        have HG1 := Lib.hid hG
        clear hO hG HO0
        by_cases hlt2 : t < T
        · have j1 : (a : Int) + (t : Int) < ((a + 1 + T : Nat) : Int) - 1 := by omega
          have j1' : (a : Int) + (t : Int) < (a : Int) + (T : Int) := by omega
          have j1'' : (a : Int) + (t : Int) < (a : Int) + 1 + (T : Int) - 1 := by omega
          obtain ⟨v, hv⟩ : ∃ v, Y[t]? = some v := ⟨_, List.getElem?_eq_getElem (by have := HL.out; omega)⟩
          have hdr : Y.drop t = v :: Y.drop (t + 1) := by
            have hi := List.getElem?_eq_some_iff.1 hv
            obtain ⟨h1, h2⟩ := hi
            rw [List.drop_eq_getElem_cons h1, h2]
          have hcur : P ++ (Y.take t ++ x :: Y.drop t) ++ S = (P ++ Y.take t) ++ x :: v :: (Y.drop (t + 1) ++ S) := by rw [hdr]; simp
          have hnx : (P ++ Y.take t) ++ v :: x :: (Y.drop (t + 1) ++ S) = P ++ (Y.take (t + 1) ++ x :: Y.drop (t + 1)) ++ S := by rw [List.take_add_one, hv]; simp
          have hLl : (P ++ Y.take t).length = a + t := by have := HL.out; rw [List.length_append, List.length_take]; omega
          have hsw := exch_at (P ++ Y.take t) (Y.drop (t + 1) ++ S) x v
          have hat := SrtP.at_mid (P ++ Y.take t) (Y.drop (t + 1) ++ S) x v
          rw [hLl] at hsw hat
          rw [hnx] at hsw
          rw [hcur] at HO1
          have HSW := Lib.hid hsw
          have HA1 := Lib.hid hat.1
          have HA2 := Lib.hid hat.2
          obtain ⟨g, o, rfl, _, _⟩ := (HO1.out.is (Nat.le_refl _)).at HA1.out
          have hk1 : a + t + 1 < n := by omega
          have HQQ := And.intro (show a + t < n by omega) (And.intro (show a + t + 1 < n by omega) (And.intro (show (a : Int) + (t : Int) < (n : Int) by omega) (And.intro (show (a : Int) + (t : Int) + 1 < (n : Int) by omega) (And.intro (show (0 : Int) ≤ (a : Int) + (t : Int) by omega) (show (0 : Int) ≤ (a : Int) + (t : Int) + 1 by omega)))))
          clear hv hdr hcur hnx hLl hsw hat
          go_upto_region 11 with fail
          refine wp_region_c (fun W => True) (by kernel_rfl) trivial ?_
          have HC := Lib.hid trivial
          have hqq := HQQ
          (refine wpAnyC_free 0 (oi := ⟨some 61, _, _, _, _, _⟩) (v := ?_) rfl (by kernel_rfl) (by kernel_rfl) (by kernel_rfl) HC.out rfl (fun x => ?_) ?_; rotate_left; (focus (simp [go_sem]; (try go_ints); first | done | (with_reducible rfl))); (simp only [Act.put, List.setIfInBounds_toArray, List.set_cons_succ, List.set_cons_zero]))
          (refine wpAnyC_free 1 (oi := ⟨some 62, _, _, _, _, _⟩) (v := ?_) rfl (by kernel_rfl) (by kernel_rfl) (by kernel_rfl) HC.out rfl (fun x => ?_) ?_; rotate_left; (focus (simp [go_sem]; (try go_ints); first | done | (with_reducible rfl))); (simp only [Act.put, List.setIfInBounds_toArray, List.set_cons_succ, List.set_cons_zero]))
          (refine wpAnyC_free 2 (oi := ⟨some 63, _, _, _, _, _⟩) (v := ?_) rfl (by kernel_rfl) (by kernel_rfl) (by kernel_rfl) HC.out rfl (fun x => ?_) ?_; rotate_left; (focus (simp [go_sem]; (try go_ints); first | done | (with_reducible rfl))); (simp only [Act.put, List.setIfInBounds_toArray, List.set_cons_succ, List.set_cons_zero]))
          (refine wpAnyC_free 3 (oi := ⟨some 64, _, _, _, _, _⟩) (v := ?_) rfl (by kernel_rfl) (by kernel_rfl) (by kernel_rfl) HC.out rfl (fun x => ?_) ?_; rotate_left; (focus (simp [go_sem]; (try go_ints); first | done | (with_reducible rfl))); (simp only [Act.put, List.setIfInBounds_toArray, List.set_cons_succ, List.set_cons_zero]))
          (refine wpAnyC_free 4 (oi := ⟨some 65, _, _, _, _, _⟩) (v := ?_) rfl (by kernel_rfl) (by kernel_rfl) (by kernel_rfl) HC.out rfl (fun x => ?_) ?_; rotate_left; (focus (simp [go_sem]; (try go_ints); first | done | (with_reducible rfl))); (simp only [Act.put, List.setIfInBounds_toArray, List.set_cons_succ, List.set_cons_zero]))
          (refine wpAnyC_free 5 (oi := ⟨some 66, _, _, _, _, _⟩) (v := ?_) rfl (by kernel_rfl) (by kernel_rfl) (by kernel_rfl) HC.out rfl (fun x => ?_) ?_; rotate_left; (focus (simp [go_sem]; (try go_ints); first | done | (with_reducible rfl))); (simp only [Act.put, List.setIfInBounds_toArray, List.set_cons_succ, List.set_cons_zero]))
          (refine wpAnyC_free 6 (oi := ⟨some 67, _, _, _, _, _⟩) (v := ?_) rfl (by kernel_rfl) (by kernel_rfl) (by kernel_rfl) HC.out rfl (fun x => ?_) ?_; rotate_left; (focus (simp [go_sem]; (try go_ints); first | done | (with_reducible rfl))); (simp only [Act.put, List.setIfInBounds_toArray, List.set_cons_succ, List.set_cons_zero]))
          (refine wpAnyC_free 7 (oi := ⟨some 68, _, _, _, _, _⟩) (v := ?_) rfl (by kernel_rfl) (by kernel_rfl) (by kernel_rfl) HC.out rfl (fun x => ?_) ?_; rotate_left; (focus (simp [go_sem]; (try go_ints); first | done | (with_reducible rfl))); (simp only [Act.put, List.setIfInBounds_toArray, List.set_cons_succ, List.set_cons_zero]))
          (refine wpAnyC_free 8 (oi := ⟨some 69, _, _, _, _, _⟩) (v := ?_) rfl (by kernel_rfl) (by kernel_rfl) (by kernel_rfl) HC.out rfl (fun x => ?_) ?_; rotate_left; (focus (simp [go_sem, hqq]; (try go_ints); first | done | (with_reducible rfl))); (simp only [Act.put, List.setIfInBounds_toArray, List.set_cons_succ, List.set_cons_zero]))
          (refine wpAnyC_free 10 (oi := ⟨some 71, _, _, _, _, _⟩) (v := ?_) rfl (by kernel_rfl) (by kernel_rfl) (by kernel_rfl) HC.out rfl (fun x => ?_) ?_; rotate_left; (focus (simp [go_sem]; (try go_ints); first | done | (with_reducible rfl))); (simp only [Act.put, List.setIfInBounds_toArray, List.set_cons_succ, List.set_cons_zero]))
          (refine wpAnyC_free 11 (oi := ⟨some 72, _, _, _, _, _⟩) (v := ?_) rfl (by kernel_rfl) (by kernel_rfl) (by kernel_rfl) HC.out rfl (fun x => ?_) ?_; rotate_left; (focus (simp [go_sem]; (try go_ints); first | done | (with_reducible rfl))); (simp only [Act.put, List.setIfInBounds_toArray, List.set_cons_succ, List.set_cons_zero]))
          (refine wpAnyC_free 12 (oi := ⟨some 73, _, _, _, _, _⟩) (v := ?_) rfl (by kernel_rfl) (by kernel_rfl) (by kernel_rfl) HC.out rfl (fun x => ?_) ?_; rotate_left; (focus (simp [go_sem, hqq]; (try go_ints); first | done | (with_reducible rfl))); (simp only [Act.put, List.setIfInBounds_toArray, List.set_cons_succ, List.set_cons_zero]))
          change wpAnyC _ _ _ _ _ _ _ _ (World.drewN wr 1)
          obtain ⟨wz, hwz⟩ : ∃ W, W = World.drewN wr 1 := ⟨_, rfl⟩
          have HOz := Lib.hid (show OwnI wz base (some ⟨g, o, none⟩) n c ((P ++ Y.take t) ++ x :: v :: (Y.drop (t + 1) ++ S)) by rw [hwz]; exact HO1.out.drewN 1)
          have HGz := Lib.hid (show w.grownBy wz (blk (some ⟨g, o, none⟩)) by rw [hwz]; exact HG1.out.trans (grown_of_grew (Grew.drewN _ _) _))
          rw [← hwz]
          clear hwz HO1 HG1
          refine wpAnyC_fork 9 13 (oi := ⟨some 70, _, _, _, _, _⟩) (oj := ⟨some 74, _, _, _, _, _⟩) rfl rfl (by kernel_rfl) ?_ ?_
          · refine cOp_list 9 (o := ⟨some 70, _, _, _, _, _⟩) rfl rfl ?_
            refine wpList_value (o := ⟨some 70, _, _, _, _, _⟩) rfl (exec_loadI (.tmp 69) rfl rfl (OwnI.range HOz.out HA2.out)) ?_
            (simp only [Act.put, List.setIfInBounds_toArray, List.set_cons_succ, List.set_cons_zero])
            refine wpList_nil ⟨rfl, trivial, ?_⟩
            refine wpAnyC_step 13 (o := ⟨some 74, _, _, _, _, _⟩) rfl (by kernel_rfl) rfl ?_
            refine wpList_value (o := ⟨some 74, _, _, _, _, _⟩) rfl (exec_loadI (.tmp 73) rfl rfl (OwnI.range HOz.out HA1.out)) ?_
            (simp only [Act.put, List.setIfInBounds_toArray, List.set_cons_succ, List.set_cons_zero])
            refine wpList_nil ⟨rfl, trivial, ?_⟩
            (refine wpAnyC_free 14 (oi := ⟨some 75, _, _, _, _, _⟩) (v := ?_) rfl (by kernel_rfl) (by kernel_rfl) (by kernel_rfl) HC.out rfl (fun x => ?_) ?_; rotate_left; (focus (simp [go_sem, hqq]; (try go_ints); first | done | (with_reducible rfl))); (simp only [Act.put, List.setIfInBounds_toArray, List.set_cons_succ, List.set_cons_zero]))
            refine wpAnyC_step 15 (o := ⟨none, _, _, _, _, _⟩) rfl (by kernel_rfl) rfl ?_
            refine wpList_store_mid rfl 29 (.tmp 75) (.tmp 70) rfl g (o + (a + t) * 4) (itv v).toArray rfl rfl (HOz.out.there (by omega)) size_item (one_itv_all v) ?_
            rw [List.toList_toArray]
            have HO2 := Lib.hid (HOz.out.setI (k := a + t) (by omega) v)
            have HG2 := Lib.hid (grown_setCells g (itv v) (o + (a + t) * 4) wz)
            generalize wz.setCells g (o + (a + t) * 4) (itv v) = w2 at HO2 HG2 ⊢
            (simp only [Act.put])
            refine wpList_nil ⟨rfl, trivial, ?_⟩
            (refine wpAnyC_free 16 (oi := ⟨some 76, _, _, _, _, _⟩) (v := ?_) rfl (by kernel_rfl) (by kernel_rfl) (by kernel_rfl) HC.out rfl (fun x => ?_) ?_; rotate_left; (focus (simp [go_sem, hqq]; (try go_ints); first | done | (with_reducible rfl))); (simp only [Act.put, List.setIfInBounds_toArray, List.set_cons_succ, List.set_cons_zero]))
            refine wpAnyC_step 17 (o := ⟨none, _, _, _, _, _⟩) rfl (by kernel_rfl) rfl ?_
            refine wpList_store_mid rfl 29 (.tmp 76) (.tmp 74) rfl g (o + (a + t + 1) * 4) (itv x).toArray rfl rfl (HO2.out.there (by omega)) size_item (one_itv_all x) ?_
            rw [List.toList_toArray]
            have HO3 := Lib.hid (HO2.out.setI (k := a + t + 1) (by omega) x)
            have HG3 := Lib.hid (HG2.out.trans (grown_setCells g (itv x) (o + (a + t + 1) * 4) w2))
            generalize w2.setCells g (o + (a + t + 1) * 4) (itv x) = w3 at HO3 HG3 ⊢
            (simp only [Act.put])
            refine wpList_nil ⟨rfl, trivial, ?_⟩
            refine wpAnyC_done (by kernel_rfl) (fun _ => ?_) _
            clear hqq
            go_wp2_with fail
            go_roundw
            case rel => exact ⟨t + 1, hlt2, by go_num, by have := HO3.out; rw [HSW.out] at this; exact this, HGz.out.trans HG3.out⟩
            case measure => first | (simp [intOf]; done) | (simp [intOf]; omega)
          · refine cOp_list 13 (o := ⟨some 74, _, _, _, _, _⟩) rfl rfl ?_
            refine wpList_value (o := ⟨some 74, _, _, _, _, _⟩) rfl (exec_loadI (.tmp 73) rfl rfl (OwnI.range HOz.out HA1.out)) ?_
            (simp only [Act.put, List.setIfInBounds_toArray, List.set_cons_succ, List.set_cons_zero])
            refine wpList_nil ⟨rfl, trivial, ?_⟩
            refine wpAnyC_step 9 (o := ⟨some 70, _, _, _, _, _⟩) rfl (by kernel_rfl) rfl ?_
            refine wpList_value (o := ⟨some 70, _, _, _, _, _⟩) rfl (exec_loadI (.tmp 69) rfl rfl (OwnI.range HOz.out HA2.out)) ?_
            (simp only [Act.put, List.setIfInBounds_toArray, List.set_cons_succ, List.set_cons_zero])
            refine wpList_nil ⟨rfl, trivial, ?_⟩
            (refine wpAnyC_free 14 (oi := ⟨some 75, _, _, _, _, _⟩) (v := ?_) rfl (by kernel_rfl) (by kernel_rfl) (by kernel_rfl) HC.out rfl (fun x => ?_) ?_; rotate_left; (focus (simp [go_sem, hqq]; (try go_ints); first | done | (with_reducible rfl))); (simp only [Act.put, List.setIfInBounds_toArray, List.set_cons_succ, List.set_cons_zero]))
            refine wpAnyC_step 15 (o := ⟨none, _, _, _, _, _⟩) rfl (by kernel_rfl) rfl ?_
            refine wpList_store_mid rfl 29 (.tmp 75) (.tmp 70) rfl g (o + (a + t) * 4) (itv v).toArray rfl rfl (HOz.out.there (by omega)) size_item (one_itv_all v) ?_
            rw [List.toList_toArray]
            have HO2 := Lib.hid (HOz.out.setI (k := a + t) (by omega) v)
            have HG2 := Lib.hid (grown_setCells g (itv v) (o + (a + t) * 4) wz)
            generalize wz.setCells g (o + (a + t) * 4) (itv v) = w2 at HO2 HG2 ⊢
            (simp only [Act.put])
            refine wpList_nil ⟨rfl, trivial, ?_⟩
            (refine wpAnyC_free 16 (oi := ⟨some 76, _, _, _, _, _⟩) (v := ?_) rfl (by kernel_rfl) (by kernel_rfl) (by kernel_rfl) HC.out rfl (fun x => ?_) ?_; rotate_left; (focus (simp [go_sem, hqq]; (try go_ints); first | done | (with_reducible rfl))); (simp only [Act.put, List.setIfInBounds_toArray, List.set_cons_succ, List.set_cons_zero]))
            refine wpAnyC_step 17 (o := ⟨none, _, _, _, _, _⟩) rfl (by kernel_rfl) rfl ?_
            refine wpList_store_mid rfl 29 (.tmp 76) (.tmp 74) rfl g (o + (a + t + 1) * 4) (itv x).toArray rfl rfl (HO2.out.there (by omega)) size_item (one_itv_all x) ?_
            rw [List.toList_toArray]
            have HO3 := Lib.hid (HO2.out.setI (k := a + t + 1) (by omega) x)
            have HG3 := Lib.hid (HG2.out.trans (grown_setCells g (itv x) (o + (a + t + 1) * 4) w2))
            generalize w2.setCells g (o + (a + t + 1) * 4) (itv x) = w3 at HO3 HG3 ⊢
            (simp only [Act.put])
            refine wpList_nil ⟨rfl, trivial, ?_⟩
            refine wpAnyC_done (by kernel_rfl) (fun _ => ?_) _
            clear hqq
            go_wp2_with fail
            go_roundw
            case rel => exact ⟨t + 1, hlt2, by go_num, by have := HO3.out; rw [HSW.out] at this; exact this, HGz.out.trans HG3.out⟩
            case measure => first | (simp [intOf]; done) | (simp [intOf]; omega)
        · obtain rfl : t = T := by omega
          have j1 : ¬ (a : Int) + (t : Int) < ((a + 1 + t : Nat) : Int) - 1 := by omega
          have j1' : ¬ (a : Int) + (t : Int) < (a : Int) + (t : Int) := by omega
          have j1'' : ¬ (a : Int) + (t : Int) < (a : Int) + 1 + (t : Int) - 1 := by omega
          go_wp2_with fail
          refine bodyPost_ret (results_none rfl _ _ _) rfl ?_
          exact ⟨⟨_, rfl⟩, Y.take t ++ x :: Y.drop t, HOK.out, by simpa using HO1.out, HG1.out⟩
set_option maxRecDepth 100000 in
set_option maxHeartbeats 4000000 in
theorem sym_left (A : Option Addr) (n c base : Nat) (za zm zb : Int) (P X S : List It) (y : It) (w : World) (h : OwnI w base A n c (P ++ X ++ [y] ++ S)) (hx : WS X) (hx2 : 2 ≤ X.length) (hza : za = (P.length : Int)) (hzm : zm = (P.length : Int) + (X.length : Int)) (hzb : zb = (P.length : Int) + (X.length : Int) + 1) (hn : n ≤ 1000000) :
    Calls Try.prog 45 #[.slice A n c, .int .i64 za, .int .i64 zm, .int .i64 zb, cmpV] w fun e w' => ∃ R, (∃ v, e = .returned v) ∧ OkR R (X ++ [y]) ∧ OwnI w' base A n c (P ++ R ++ S) ∧ w.grownBy w' (blk A) := by
  have hl := h.len
  have hmm := h.le
  unfold maxLen at hmm
  simp only [List.length_append, List.length_cons, List.length_nil] at hl
  obtain ⟨a, ha⟩ : ∃ a, a = P.length := ⟨_, rfl⟩
  obtain ⟨m, hm⟩ : ∃ m, m = P.length + X.length := ⟨_, rfl⟩
  obtain rfl : za = (a : Int) := by omega
  obtain rfl : zm = (m : Int) := by omega
  obtain rfl : zb = (m : Int) + 1 := by omega
  have HO := Lib.hid h
  have HX := Lib.hid hx
  have HL := Lib.hid (And.intro ha (And.intro hm hl))
  have hmn : m < n := by omega
  have ham : a + 2 ≤ m := by omega
  have t0 : ((m : Int) - (a : Int) == 1) = false := by simp; omega
  have t1 : ((m : Int) + 1 - (m : Int) == 1) = true := by simp; omega
  obtain ⟨D, hD⟩ : ∃ D, D = P ++ X ++ [y] ++ S := ⟨_, rfl⟩
  have HDy := Lib.hid (show D[m]? = some y by rw [hD, List.append_assoc, List.getElem?_append_right (by simp; omega)]; simp [hm])
  have HDx := Lib.hid (show ∀ h, a ≤ h → h < m → D[h]? = X[h - a]? from fun h h1 h2 => by rw [hD, List.append_assoc, List.getElem?_append_left (by simp; omega), List.getElem?_append_right (by omega), ha])
  rw [← hD] at HO
  have HD := Lib.hid hD
  clear h hx hx2 hza hzm hzb ha hm hl hD
  go_enter Try.func45, Try.ntmps45
  go_wp2_with fail
  go_loopw [14, 15, 16] (fun iv jv _ wy => ∃ i j : Nat, a ≤ i ∧ i ≤ j ∧ j ≤ m ∧ iv = .int .i64 (i : Int) ∧ jv = .int .i64 (j : Int) ∧ (i ≠ a → ∀ z, X[i - a - 1]? = some z → ItP.ahead y z = false) ∧ (∀ z, X[j - a]? = some z → ItP.ahead y z = true) ∧ Grew w wy) (fun i j _ _ => (intOf j).toNat - (intOf i).toNat)
  case atStart => exact ⟨a, m, Nat.le_refl _, by omega, Nat.le_refl _, rfl, rfl, (fun h => absurd rfl h), (fun z hz => by
    have := (List.getElem?_eq_some_iff.1 hz).1
    have := HL.out
    omega), Grew.refl _⟩
  case round =>
    obtain ⟨i, j, hi, hij, hj, rfl, rfl, h1, h2, hG⟩ := hrel
    have H1 := Lib.hid h1
    have H2 := Lib.hid h2
    have HG := Lib.hid hG
    clear h1 h2 hG
    by_cases hlt : i < j
    · have i1 : (i : Int) < (j : Int) := by omega
      go_upto_region 17 with fail
      obtain ⟨h, hh⟩ : ∃ h, h = (i + j) / 2 := ⟨_, rfl⟩
      rw [show ((i : Int) + (j : Int)) / 2 = (h : Int) by omega]
      have hih : i ≤ h := by omega
      have hhj : h < j := by omega
      clear hh
      obtain ⟨z, hz⟩ : ∃ z, D[h]? = some z := ⟨_, List.getElem?_eq_getElem (by have := HO.out.len; omega)⟩
      have hzX : X[h - a]? = some z := by rw [← HDx.out h (by omega) (by omega)]; exact hz
      obtain ⟨g, o, rfl, q1⟩ := is_grew ((HO.out.below_all HG.out).is (Nat.le_refl _)) (Below.refl _ _) hz
      obtain ⟨g2, o2, e2, q2⟩ := is_grew ((HO.out.below_all HG.out).is (Nat.le_refl _)) (Below.refl _ _) HDy.out
      cases e2
      have i2 : (h : Int) < (n : Int) := by omega
      have i3 : (0 : Int) ≤ (h : Int) := by omega
      have i4 : (m : Int) < (n : Int) := by omega
      have i5 : (0 : Int) ≤ (m : Int) := by omega
      obtain ⟨cz, hcz⟩ : ∃ cz, cz = ItP.cmp y z := ⟨_, rfl⟩
      have HR : Hid (∀ W, Calls Try.prog 23 #[iv y, iv z] W fun e w' => e = .returned (.int .i64 cz) ∧ Grew W w') := Lib.hid fun W => by rw [hcz]; exact merge_compare y z W
      have hcn := ItP.cmp_neg y z
      rw [← hcz] at hcn
      have HYY := Lib.hid hzX
      clear hcz hz hzX
      by_cases hah : ItP.ahead y z = true
      · have hz : cz < 0 := hcn.2 hah
        have HAH := Lib.hid hah
        clear hcn hah
        have hqq := And.intro q1 (And.intro q2 (And.intro i2 (And.intro i3 (And.intro i4 (And.intro hz i5)))))
        clear q1 q2
        refine wp_region_x [] (by kernel_rfl) (by kernel_rfl) (by kernel_rfl) ?_
        simp only [blank, List.foldl_nil]
        repeat (first | (refine wpX_value (v := ?_) rfl (by intros; simp) rfl rfl (fun x => ?_) ?_; rotate_left; (focus (simp [go_sem, hqq]; (try go_ints); first | done | (with_reducible rfl))); (simp only [Act.put, List.setIfInBounds_toArray, List.set_cons_succ, List.set_cons_zero])) | (refine wpX_call (.int .i64 cz) _ _ rfl (by intros; simp) rfl rfl (fun x => ?_) (fun W _ => HR.out W) ?_; (focus (simp [go_sem]; done)); (simp only [Act.put, List.setIfInBounds_toArray, List.set_cons_succ, List.set_cons_zero])))
        (refine wpX_nil ?_; intro xb wx hxg xl; obtain ⟨xf, xe⟩ := LikeAll.end_ xl; clear xl; subst xe; simp only [fill, List.foldl_nil, Act.put])
        clear hqq
        go_wp2_with fail
        go_roundw
        case rel => exact ⟨i, h, hi, hih, by omega, rfl, by go_num, H1.out, (fun u hu => by
          rw [HYY.out] at hu
          cases hu
          exact HAH.out), HG.out.trans hxg⟩
        case measure => simp [intOf]; omega
      · have hz : ¬ cz < 0 := fun h => hah (hcn.1 h)
        have HAH := Lib.hid (show ItP.ahead y z = false by simpa using hah)
        clear hcn hah
        have hqq := And.intro q1 (And.intro q2 (And.intro i2 (And.intro i3 (And.intro i4 (And.intro hz i5)))))
        clear q1 q2
        refine wp_region_x [] (by kernel_rfl) (by kernel_rfl) (by kernel_rfl) ?_
        simp only [blank, List.foldl_nil]
        repeat (first | (refine wpX_value (v := ?_) rfl (by intros; simp) rfl rfl (fun x => ?_) ?_; rotate_left; (focus (simp [go_sem, hqq]; (try go_ints); first | done | (with_reducible rfl))); (simp only [Act.put, List.setIfInBounds_toArray, List.set_cons_succ, List.set_cons_zero])) | (refine wpX_call (.int .i64 cz) _ _ rfl (by intros; simp) rfl rfl (fun x => ?_) (fun W _ => HR.out W) ?_; (focus (simp [go_sem]; done)); (simp only [Act.put, List.setIfInBounds_toArray, List.set_cons_succ, List.set_cons_zero])))
        (refine wpX_nil ?_; intro xb wx hxg xl; obtain ⟨xf, xe⟩ := LikeAll.end_ xl; clear xl; subst xe; simp only [fill, List.foldl_nil, Act.put])
        clear hqq
        go_wp2_with fail
        go_roundw
        case rel => exact ⟨h + 1, j, by omega, by omega, hj, by go_num, rfl, (fun _ u hu => by
          rw [show h + 1 - a - 1 = h - a by omega, HYY.out] at hu
          cases hu
          exact HAH.out), H2.out, HG.out.trans hxg⟩
        case measure => simp [intOf]; omega
    · obtain rfl : i = j := by omega
      have i1 : ¬ (i : Int) < (i : Int) := by omega
      obtain ⟨T, hT⟩ : ∃ T, i = a + T := ⟨i - a, by omega⟩
      have HOK := Lib.hid (left_ok (y := y) (t := T) HX.out (by have := HL.out; omega) (fun h z hz => H1.out (by omega) z (by rw [show i - a - 1 = T - 1 by omega]; exact hz)) (fun z hz => H2.out z (by rw [show i - a = T by omega]; exact hz)))
      obtain ⟨N, hN⟩ : ∃ N, m = a + N := ⟨m - a, by omega⟩
      have hNX : X.length = N := by have := HL.out; omega
      have HO0 := Lib.hid (show OwnI wr base A n c (P ++ (X.take N ++ y :: X.drop N) ++ S) by have := HO.out.below_all HG.out; rw [HD.out] at this; rw [List.take_of_length_le (by omega), List.drop_of_length_le (by omega)]; simpa using this)
      have hTb : T ≤ N := by omega
      subst hT hN
      have HNX := Lib.hid hNX
      clear H1 H2 HO hNX
      go_wp2_with fail
      go_loopw [17] (fun kv wy => ∃ t : Nat, T ≤ t ∧ t ≤ N ∧ kv = .int .i64 ((a : Int) + (t : Int)) ∧ OwnI wy base A n c (P ++ (X.take t ++ y :: X.drop t) ++ S) ∧ w.grownBy wy (blk A)) (fun k _ => (intOf k).toNat)
      case atStart => exact ⟨N, hTb, Nat.le_refl _, by go_num, HO0.out, grown_of_grew HG.out _⟩
      case round =>
        obtain ⟨t, ht, htN, rfl, hO, hG⟩ := hrel
        have HO1 := Lib.hid hO
        have HG1 := Lib.hid hG
        clear hO hG HO0
        by_cases hlt2 : T < t
        · obtain ⟨t, rfl⟩ : ∃ s, t = s + 1 := ⟨t - 1, by omega⟩
          rw [show ((a : Int) + ((t + 1 : Nat) : Int)) = (a : Int) + (t : Int) + 1 by omega]
          have j1 : (a : Int) + (T : Int) < (a : Int) + (t : Int) + 1 := by omega
          obtain ⟨v, hv⟩ : ∃ v, X[t]? = some v := ⟨_, List.getElem?_eq_getElem (by have := HNX.out; omega)⟩
          have hdr : X.drop t = v :: X.drop (t + 1) := by
            have hi := List.getElem?_eq_some_iff.1 hv
            obtain ⟨h1, h2⟩ := hi
            rw [List.drop_eq_getElem_cons h1, h2]
          have hcur : P ++ (X.take (t + 1) ++ y :: X.drop (t + 1)) ++ S = (P ++ X.take t) ++ v :: y :: (X.drop (t + 1) ++ S) := by rw [List.take_add_one, hv]; simp
          have hnx : (P ++ X.take t) ++ y :: v :: (X.drop (t + 1) ++ S) = P ++ (X.take t ++ y :: X.drop t) ++ S := by rw [hdr]; simp
          have hLl : (P ++ X.take t).length = a + t := by have := HL.out; have := HNX.out; rw [List.length_append, List.length_take]; omega
          have hsw := SrtP.swap_at (P ++ X.take t) (X.drop (t + 1) ++ S) v y
          have hat := SrtP.at_mid (P ++ X.take t) (X.drop (t + 1) ++ S) v y
          rw [hLl] at hsw hat
          rw [hnx] at hsw
          rw [hcur] at HO1
          have HSW := Lib.hid hsw
          have HA1 := Lib.hid hat.1
          have HA2 := Lib.hid hat.2
          obtain ⟨g, o, rfl, _, _⟩ := (HO1.out.is (Nat.le_refl _)).at HA1.out
          have hk1 : a + t + 1 < n := by omega
          have HQQ := And.intro (show a + t < n by omega) (And.intro (show a + t + 1 < n by omega) (And.intro (show (a : Int) + (t : Int) < (n : Int) by omega) (And.intro (show (a : Int) + (t : Int) + 1 < (n : Int) by omega) (And.intro (show (0 : Int) ≤ (a : Int) + (t : Int) by omega) (show (0 : Int) ≤ (a : Int) + (t : Int) + 1 by omega)))))
          clear hv hdr hcur hnx hLl hsw hat
          go_upto_region 23 with fail
          refine wp_region_c (fun W => True) (by kernel_rfl) trivial ?_
          have HC := Lib.hid trivial
          have hqq := HQQ
          (refine wpAnyC_free 0 (oi := ⟨some 113, _, _, _, _, _⟩) (v := ?_) rfl (by kernel_rfl) (by kernel_rfl) (by kernel_rfl) HC.out rfl (fun x => ?_) ?_; rotate_left; (focus (simp [go_sem]; (try go_ints); first | done | (with_reducible rfl))); (simp only [Act.put, List.setIfInBounds_toArray, List.set_cons_succ, List.set_cons_zero]))
          (refine wpAnyC_free 1 (oi := ⟨some 114, _, _, _, _, _⟩) (v := ?_) rfl (by kernel_rfl) (by kernel_rfl) (by kernel_rfl) HC.out rfl (fun x => ?_) ?_; rotate_left; (focus (simp [go_sem]; (try go_ints); first | done | (with_reducible rfl))); (simp only [Act.put, List.setIfInBounds_toArray, List.set_cons_succ, List.set_cons_zero]))
          (refine wpAnyC_free 2 (oi := ⟨some 115, _, _, _, _, _⟩) (v := ?_) rfl (by kernel_rfl) (by kernel_rfl) (by kernel_rfl) HC.out rfl (fun x => ?_) ?_; rotate_left; (focus (simp [go_sem]; (try go_ints); first | done | (with_reducible rfl))); (simp only [Act.put, List.setIfInBounds_toArray, List.set_cons_succ, List.set_cons_zero]))
          (refine wpAnyC_free 3 (oi := ⟨some 116, _, _, _, _, _⟩) (v := ?_) rfl (by kernel_rfl) (by kernel_rfl) (by kernel_rfl) HC.out rfl (fun x => ?_) ?_; rotate_left; (focus (simp [go_sem]; (try go_ints); first | done | (with_reducible rfl))); (simp only [Act.put, List.setIfInBounds_toArray, List.set_cons_succ, List.set_cons_zero]))
          (refine wpAnyC_free 4 (oi := ⟨some 117, _, _, _, _, _⟩) (v := ?_) rfl (by kernel_rfl) (by kernel_rfl) (by kernel_rfl) HC.out rfl (fun x => ?_) ?_; rotate_left; (focus (simp [go_sem]; (try go_ints); first | done | (with_reducible rfl))); (simp only [Act.put, List.setIfInBounds_toArray, List.set_cons_succ, List.set_cons_zero]))
          (refine wpAnyC_free 5 (oi := ⟨some 118, _, _, _, _, _⟩) (v := ?_) rfl (by kernel_rfl) (by kernel_rfl) (by kernel_rfl) HC.out rfl (fun x => ?_) ?_; rotate_left; (focus (simp [go_sem]; (try go_ints); first | done | (with_reducible rfl))); (simp only [Act.put, List.setIfInBounds_toArray, List.set_cons_succ, List.set_cons_zero]))
          (refine wpAnyC_free 6 (oi := ⟨some 119, _, _, _, _, _⟩) (v := ?_) rfl (by kernel_rfl) (by kernel_rfl) (by kernel_rfl) HC.out rfl (fun x => ?_) ?_; rotate_left; (focus (simp [go_sem]; (try go_ints); first | done | (with_reducible rfl))); (simp only [Act.put, List.setIfInBounds_toArray, List.set_cons_succ, List.set_cons_zero]))
          (refine wpAnyC_free 7 (oi := ⟨some 120, _, _, _, _, _⟩) (v := ?_) rfl (by kernel_rfl) (by kernel_rfl) (by kernel_rfl) HC.out rfl (fun x => ?_) ?_; rotate_left; (focus (simp [go_sem]; (try go_ints); first | done | (with_reducible rfl))); (simp only [Act.put, List.setIfInBounds_toArray, List.set_cons_succ, List.set_cons_zero]))
          (refine wpAnyC_free 8 (oi := ⟨some 121, _, _, _, _, _⟩) (v := ?_) rfl (by kernel_rfl) (by kernel_rfl) (by kernel_rfl) HC.out rfl (fun x => ?_) ?_; rotate_left; (focus (simp [go_sem, hqq]; (try go_ints); first | done | (with_reducible rfl))); (simp only [Act.put, List.setIfInBounds_toArray, List.set_cons_succ, List.set_cons_zero]))
          (refine wpAnyC_free 10 (oi := ⟨some 123, _, _, _, _, _⟩) (v := ?_) rfl (by kernel_rfl) (by kernel_rfl) (by kernel_rfl) HC.out rfl (fun x => ?_) ?_; rotate_left; (focus (simp [go_sem]; (try go_ints); first | done | (with_reducible rfl))); (simp only [Act.put, List.setIfInBounds_toArray, List.set_cons_succ, List.set_cons_zero]))
          (refine wpAnyC_free 11 (oi := ⟨some 124, _, _, _, _, _⟩) (v := ?_) rfl (by kernel_rfl) (by kernel_rfl) (by kernel_rfl) HC.out rfl (fun x => ?_) ?_; rotate_left; (focus (simp [go_sem]; (try go_ints); first | done | (with_reducible rfl))); (simp only [Act.put, List.setIfInBounds_toArray, List.set_cons_succ, List.set_cons_zero]))
          (refine wpAnyC_free 12 (oi := ⟨some 125, _, _, _, _, _⟩) (v := ?_) rfl (by kernel_rfl) (by kernel_rfl) (by kernel_rfl) HC.out rfl (fun x => ?_) ?_; rotate_left; (focus (simp [go_sem, hqq]; (try go_ints); first | done | (with_reducible rfl))); (simp only [Act.put, List.setIfInBounds_toArray, List.set_cons_succ, List.set_cons_zero]))
          change wpAnyC _ _ _ _ _ _ _ _ (World.drewN wr 1)
          obtain ⟨wz, hwz⟩ : ∃ W, W = World.drewN wr 1 := ⟨_, rfl⟩
          have HOz := Lib.hid (show OwnI wz base (some ⟨g, o, none⟩) n c ((P ++ X.take t) ++ v :: y :: (X.drop (t + 1) ++ S)) by rw [hwz]; exact HO1.out.drewN 1)
          have HGz := Lib.hid (show w.grownBy wz (blk (some ⟨g, o, none⟩)) by rw [hwz]; exact HG1.out.trans (grown_of_grew (Grew.drewN _ _) _))
          rw [← hwz]
          clear hwz HO1 HG1
          refine wpAnyC_fork 9 13 (oi := ⟨some 122, _, _, _, _, _⟩) (oj := ⟨some 126, _, _, _, _, _⟩) rfl rfl (by kernel_rfl) ?_ ?_
          · refine cOp_list 9 (o := ⟨some 122, _, _, _, _, _⟩) rfl rfl ?_
            refine wpList_value (o := ⟨some 122, _, _, _, _, _⟩) rfl (exec_loadI (.tmp 121) rfl rfl (OwnI.range HOz.out HA1.out)) ?_
            (simp only [Act.put, List.setIfInBounds_toArray, List.set_cons_succ, List.set_cons_zero])
            refine wpList_nil ⟨rfl, trivial, ?_⟩
            refine wpAnyC_step 13 (o := ⟨some 126, _, _, _, _, _⟩) rfl (by kernel_rfl) rfl ?_
            refine wpList_value (o := ⟨some 126, _, _, _, _, _⟩) rfl (exec_loadI (.tmp 125) rfl rfl (OwnI.range HOz.out HA2.out)) ?_
            (simp only [Act.put, List.setIfInBounds_toArray, List.set_cons_succ, List.set_cons_zero])
            refine wpList_nil ⟨rfl, trivial, ?_⟩
            (refine wpAnyC_free 14 (oi := ⟨some 127, _, _, _, _, _⟩) (v := ?_) rfl (by kernel_rfl) (by kernel_rfl) (by kernel_rfl) HC.out rfl (fun x => ?_) ?_; rotate_left; (focus (simp [go_sem, hqq]; (try go_ints); first | done | (with_reducible rfl))); (simp only [Act.put, List.setIfInBounds_toArray, List.set_cons_succ, List.set_cons_zero]))
            refine wpAnyC_step 15 (o := ⟨none, _, _, _, _, _⟩) rfl (by kernel_rfl) rfl ?_
            refine wpList_store_mid rfl 29 (.tmp 127) (.tmp 122) rfl g (o + (a + t + 1) * 4) (itv v).toArray rfl rfl (HOz.out.there (by omega)) size_item (one_itv_all v) ?_
            rw [List.toList_toArray]
            have HO2 := Lib.hid (HOz.out.setI (k := a + t + 1) (by omega) v)
            have HG2 := Lib.hid (grown_setCells g (itv v) (o + (a + t + 1) * 4) wz)
            generalize wz.setCells g (o + (a + t + 1) * 4) (itv v) = w2 at HO2 HG2 ⊢
            (simp only [Act.put])
            refine wpList_nil ⟨rfl, trivial, ?_⟩
            (refine wpAnyC_free 16 (oi := ⟨some 128, _, _, _, _, _⟩) (v := ?_) rfl (by kernel_rfl) (by kernel_rfl) (by kernel_rfl) HC.out rfl (fun x => ?_) ?_; rotate_left; (focus (simp [go_sem, hqq]; (try go_ints); first | done | (with_reducible rfl))); (simp only [Act.put, List.setIfInBounds_toArray, List.set_cons_succ, List.set_cons_zero]))
            refine wpAnyC_step 17 (o := ⟨none, _, _, _, _, _⟩) rfl (by kernel_rfl) rfl ?_
            refine wpList_store_mid rfl 29 (.tmp 128) (.tmp 126) rfl g (o + (a + t) * 4) (itv y).toArray rfl rfl (HO2.out.there (by omega)) size_item (one_itv_all y) ?_
            rw [List.toList_toArray]
            have HO3 := Lib.hid (HO2.out.setI (k := a + t) (by omega) y)
            have HG3 := Lib.hid (HG2.out.trans (grown_setCells g (itv y) (o + (a + t) * 4) w2))
            generalize w2.setCells g (o + (a + t) * 4) (itv y) = w3 at HO3 HG3 ⊢
            (simp only [Act.put])
            refine wpList_nil ⟨rfl, trivial, ?_⟩
            refine wpAnyC_done (by kernel_rfl) (fun _ => ?_) _
            clear hqq
            go_wp2_with fail
            go_roundw
            case rel => exact ⟨t, by omega, by omega, by go_num, by have := HO3.out; rw [HSW.out] at this; exact this, HGz.out.trans HG3.out⟩
            case measure => first | (simp [intOf]; done) | (simp [intOf]; omega)
          · refine cOp_list 13 (o := ⟨some 126, _, _, _, _, _⟩) rfl rfl ?_
            refine wpList_value (o := ⟨some 126, _, _, _, _, _⟩) rfl (exec_loadI (.tmp 125) rfl rfl (OwnI.range HOz.out HA2.out)) ?_
            (simp only [Act.put, List.setIfInBounds_toArray, List.set_cons_succ, List.set_cons_zero])
            refine wpList_nil ⟨rfl, trivial, ?_⟩
            refine wpAnyC_step 9 (o := ⟨some 122, _, _, _, _, _⟩) rfl (by kernel_rfl) rfl ?_
            refine wpList_value (o := ⟨some 122, _, _, _, _, _⟩) rfl (exec_loadI (.tmp 121) rfl rfl (OwnI.range HOz.out HA1.out)) ?_
            (simp only [Act.put, List.setIfInBounds_toArray, List.set_cons_succ, List.set_cons_zero])
            refine wpList_nil ⟨rfl, trivial, ?_⟩
            (refine wpAnyC_free 14 (oi := ⟨some 127, _, _, _, _, _⟩) (v := ?_) rfl (by kernel_rfl) (by kernel_rfl) (by kernel_rfl) HC.out rfl (fun x => ?_) ?_; rotate_left; (focus (simp [go_sem, hqq]; (try go_ints); first | done | (with_reducible rfl))); (simp only [Act.put, List.setIfInBounds_toArray, List.set_cons_succ, List.set_cons_zero]))
            refine wpAnyC_step 15 (o := ⟨none, _, _, _, _, _⟩) rfl (by kernel_rfl) rfl ?_
            refine wpList_store_mid rfl 29 (.tmp 127) (.tmp 122) rfl g (o + (a + t + 1) * 4) (itv v).toArray rfl rfl (HOz.out.there (by omega)) size_item (one_itv_all v) ?_
            rw [List.toList_toArray]
            have HO2 := Lib.hid (HOz.out.setI (k := a + t + 1) (by omega) v)
            have HG2 := Lib.hid (grown_setCells g (itv v) (o + (a + t + 1) * 4) wz)
            generalize wz.setCells g (o + (a + t + 1) * 4) (itv v) = w2 at HO2 HG2 ⊢
            (simp only [Act.put])
            refine wpList_nil ⟨rfl, trivial, ?_⟩
            (refine wpAnyC_free 16 (oi := ⟨some 128, _, _, _, _, _⟩) (v := ?_) rfl (by kernel_rfl) (by kernel_rfl) (by kernel_rfl) HC.out rfl (fun x => ?_) ?_; rotate_left; (focus (simp [go_sem, hqq]; (try go_ints); first | done | (with_reducible rfl))); (simp only [Act.put, List.setIfInBounds_toArray, List.set_cons_succ, List.set_cons_zero]))
            refine wpAnyC_step 17 (o := ⟨none, _, _, _, _, _⟩) rfl (by kernel_rfl) rfl ?_
            refine wpList_store_mid rfl 29 (.tmp 128) (.tmp 126) rfl g (o + (a + t) * 4) (itv y).toArray rfl rfl (HO2.out.there (by omega)) size_item (one_itv_all y) ?_
            rw [List.toList_toArray]
            have HO3 := Lib.hid (HO2.out.setI (k := a + t) (by omega) y)
            have HG3 := Lib.hid (HG2.out.trans (grown_setCells g (itv y) (o + (a + t) * 4) w2))
            generalize w2.setCells g (o + (a + t) * 4) (itv y) = w3 at HO3 HG3 ⊢
            (simp only [Act.put])
            refine wpList_nil ⟨rfl, trivial, ?_⟩
            refine wpAnyC_done (by kernel_rfl) (fun _ => ?_) _
            clear hqq
            go_wp2_with fail
            go_roundw
            case rel => exact ⟨t, by omega, by omega, by go_num, by have := HO3.out; rw [HSW.out] at this; exact this, HGz.out.trans HG3.out⟩
            case measure => first | (simp [intOf]; done) | (simp [intOf]; omega)
        · obtain rfl : t = T := by omega
          have j1 : ¬ (a : Int) + (t : Int) < (a : Int) + (t : Int) := by omega
          go_wp2_with fail
          refine bodyPost_ret (results_none rfl _ _ _) rfl ?_
          exact ⟨⟨_, rfl⟩, X.take t ++ y :: X.drop t, HOK.out, by simpa using HO1.out, HG1.out⟩
end Go.Proofs.Ytemckkcbakccnaa
