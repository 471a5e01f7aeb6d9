/- slices' symmetric merge of items, whole. -/
import Derived.Test.YtemckkcbakccnaaSymWalk
namespace Go.Proofs.Ytemckkcbakccnaa
open Go.RowKit
set_option linter.unusedVariables false
open SymP
theorem ws_split {A B : List It} (h : WS (A ++ B)) : WS A ∧ WS B := by
  unfold WS at *
  rw [List.pairwise_append] at h
  exact ⟨h.1, h.2.1⟩
/-- where the two halves part -/
structure Cut (a m b p lo hi : Nat) : Prop where
  le : lo ≤ hi
  left : ∀ c, lo ≤ c → c < hi → a ≤ c ∧ c < m ∧ c ≤ p ∧ m ≤ p - c ∧ p - c < b
  rng : a ≤ lo ∧ hi ≤ m
  sum : p + 1 ≤ b + lo ∧ m + hi ≤ p + 1
  atLo : lo = a ∨ b + lo = p + 1
  atHi : hi = m ∨ m + hi = p + 1
set_option maxRecDepth 100000 in
set_option maxHeartbeats 4000000 in
theorem sym_merge : ∀ (N : Nat) (A : Option Addr) (n c base : Nat) (za zm zb : Int) (P X Y S : List It) (w : World), X.length + Y.length ≤ N → OwnI w base A n c (P ++ X ++ Y ++ S) → X ≠ [] → Y ≠ [] → WS X → WS Y → za = (P.length : Int) → zm = (P.length : Int) + (X.length : Int) → zb = (P.length : Int) + (X.length : Int) + (Y.length : Int) → n ≤ 1000000 →
    Calls Try.prog 45 #[.slice A n c, .int .i64 za, .int .i64 zm, .int .i64 zb, cmpV] w fun e w' => ∃ R, (∃ v, e = .returned v) ∧ OkR R (X ++ Y) ∧ OwnI w' base A n c (P ++ R ++ S) ∧ w.grownBy w' (blk A) := by
  intro N
  induction N with
  | zero =>
    intro A n c base za zm zb P X Y S w hN h hx0 hy0 hx hy hza hzm hzb hn
    have := List.length_pos_iff.2 hx0
    omega
  | succ N IH =>
    intro A n c base za zm zb P X Y S w hN h hx0 hy0 hx hy hza hzm hzb hn
    have hxp := List.length_pos_iff.2 hx0
    have hyp := List.length_pos_iff.2 hy0
    by_cases hx1 : X.length = 1
    · obtain ⟨x, rfl⟩ := List.length_eq_one_iff.1 hx1
      exact sym_right A n c base za zm zb P Y S x w h hy hza (by simpa using hzm) (by simpa using hzb) hn
    by_cases hy1 : Y.length = 1
    · obtain ⟨y, rfl⟩ := List.length_eq_one_iff.1 hy1
      exact sym_left A n c base za zm zb P X S y w h hx (by omega) hza hzm (by simpa using hzb) hn
    have hl := h.len
    have hcap := h.le
    unfold maxLen at hcap
    simp only [List.length_append] at hl
    obtain ⟨a, ha⟩ : ∃ a, a = P.length := ⟨_, rfl⟩
    obtain ⟨m, hm⟩ : ∃ m, m = P.length + X.length := ⟨_, rfl⟩
    obtain ⟨b, hb⟩ : ∃ b, b = P.length + X.length + Y.length := ⟨_, rfl⟩
    obtain rfl : za = (a : Int) := by omega
    obtain rfl : zm = (m : Int) := by omega
    obtain rfl : zb = (b : Int) := by omega
    have ham : a + 2 ≤ m := by omega
    have hmb : m + 2 ≤ b := by omega
    have hbn : b ≤ n := by omega
    obtain ⟨mid, hmid⟩ : ∃ mid, mid = (a + b) / 2 := ⟨_, rfl⟩
    obtain ⟨p, hp⟩ : ∃ p, mid + m = p + 1 := ⟨mid + m - 1, by omega⟩
    have hmm1 : a ≤ mid ∧ mid ≤ b ∧ 2 * mid ≤ a + b ∧ a + b ≤ 2 * mid + 1 := by omega
    have HIH := Lib.hid IH
    have HO := Lib.hid h
    have HXS := Lib.hid hx
    have HYS := Lib.hid hy
    have HLX := Lib.hid (show X.length = m - a by omega)
    have HLY := Lib.hid (show Y.length = b - m by omega)
    have HLP := Lib.hid (show P.length = a by omega)
    have HNN := Lib.hid (show b - a ≤ N + 1 by omega)
    have HMID := Lib.hid hmm1
    have HP := Lib.hid hp
    have t0 : ((m : Int) - (a : Int) == 1) = false := by simp; omega
    have t1 : ((b : Int) - (m : Int) == 1) = false := by simp; omega
    obtain ⟨D, hD⟩ : ∃ D, D = P ++ X ++ Y ++ S := ⟨_, rfl⟩
    have HDx := Lib.hid (show ∀ h, a ≤ h → h < m → D[h]? = X[h - a]? from fun h h1 h2 => by rw [hD, List.append_assoc, List.getElem?_append_left (by simp; omega), List.getElem?_append_right (by omega), ha])
    have HDy := Lib.hid (show ∀ h, m ≤ h → h < b → D[h]? = Y[h - m]? from fun h h1 h2 => by rw [hD, List.getElem?_append_left (by simp; omega), List.getElem?_append_right (by simp; omega)]; congr 1; simp; omega)
    rw [← hD] at HO
    have HD := Lib.hid hD
    have hDl : D.length = n := HO.out.len
    have i1 : (mid : Int) + (m : Int) = (p : Int) + 1 := by omega
    have I1 := Lib.hid i1
    clear h hx hy hza hzm hzb ha hm hb hl hD IH hx0 hy0 hx1 hy1 hN hxp hyp i1
    go_enter Try.func45, Try.ntmps45
    go_upto_region 26 with fail
    rw [show ((a : Int) + (b : Int)) / 2 + (m : Int) = (p : Int) + 1 by omega, show ((a : Int) + (b : Int)) / 2 = (mid : Int) by omega]
    have hmid2 : mid = (a + b) / 2 := hmid
    have HM2 := Lib.hid hmid2
    clear hmid hmid2 hp hmm1
    go_upto_if 140 with fail
    go_cut [20, 21] from 140 to 147 (fun sv rv wy => ∃ lo hi : Nat, sv = .int .i64 (lo : Int) ∧ rv = .int .i64 (hi : Int) ∧ Cut a m b p lo hi ∧ wy = w)
    case first =>
      by_cases hgt : mid < m
      · have i2 : (mid : Int) < (m : Int) := by omega
        obtain ⟨q0, hq0⟩ : ∃ q0, p + 1 = b + q0 := ⟨p + 1 - b, by have := HMID.out; have := HP.out; omega⟩
        have hpu : p ≤ 3000000 := by have := HMID.out; have := HP.out; omega
        go_wp2_with fail
        go_meet
        case rel => exact ⟨q0, mid, by go_num, rfl, ⟨by have := HMID.out; have := HP.out; omega, fun c h1 h2 => by have := HMID.out; have := HP.out; omega, by have := HMID.out; have := HP.out; omega, by have := HMID.out; have := HP.out; omega, by have := HMID.out; have := HP.out; omega, by have := HMID.out; have := HP.out; omega⟩, rfl⟩
      · have i2 : ¬ (mid : Int) < (m : Int) := by omega
        go_wp2_with fail
        go_meet
        case rel => exact ⟨a, m, rfl, rfl, ⟨by omega, fun c h1 h2 => by have := HMID.out; have := HP.out; omega, by omega, by have := HMID.out; have := HP.out; omega, by omega, by omega⟩, rfl⟩
    case rest =>
    obtain ⟨lo, hi, rfl, rfl, hcutt, rfl⟩ := hcut
    have HCUT := Lib.hid hcutt
    clear hcutt
    have hc1 : lo ≤ hi := HCUT.out.le
    have hc2 : hi ≤ m := HCUT.out.rng.2
    have hpu : p ≤ 3000000 := by have := HMID.out; have := HP.out; omega
    go_upto_region 33 with fail
    go_loopw [20, 21, 23] (fun sv rv _ wy => ∃ st r : Nat, lo ≤ st ∧ st ≤ r ∧ r ≤ hi ∧ sv = .int .i64 (st : Int) ∧ rv = .int .i64 (r : Int) ∧ (st ≠ lo → ∀ x y, D[st - 1]? = some x → D[p + 1 - st]? = some y → ItP.ahead y x = false) ∧ (r ≠ hi → ∀ x y, D[r]? = some x → D[p - r]? = some y → ItP.ahead y x = true) ∧ Grew wc wy) (fun i j _ _ => (intOf j).toNat - (intOf i).toNat)
    case atStart => exact ⟨lo, hi, Nat.le_refl _, hc1, Nat.le_refl _, rfl, rfl, (fun h => absurd rfl h), (fun h => absurd rfl h), Grew.refl _⟩
    case round =>
      obtain ⟨st, r, hlo, hsr, hhi, rfl, rfl, h1, h2, hG⟩ := hrel
      have H1 := Lib.hid h1
      have H2 := Lib.hid h2
      have HG := Lib.hid hG
      clear h1 h2 hG
      by_cases hlt : st < r
      · have i1 : (st : Int) < (r : Int) := by omega
        go_upto_region 35 with fail
        obtain ⟨h, hh⟩ : ∃ h, h = (st + r) / 2 := ⟨_, rfl⟩
        rw [show ((st : Int) + (r : Int)) / 2 = (h : Int) by omega]
        have hih : st ≤ h := by omega
        have hhj : h < r := by omega
        clear hh
        have hcl := HCUT.out.left h (by omega) (by omega)
        obtain ⟨d, hd⟩ : ∃ d, p = d + h := ⟨p - h, by omega⟩
        have hdn : d < n := by omega
        obtain ⟨x, hx⟩ : ∃ x, D[h]? = some x := ⟨_, List.getElem?_eq_getElem (by omega)⟩
        obtain ⟨y, hy⟩ : ∃ y, D[d]? = some y := ⟨_, List.getElem?_eq_getElem (by omega)⟩
        obtain ⟨g, o, rfl, q1⟩ := is_grew ((HO.out.below_all HG.out).is (Nat.le_refl _)) (Below.refl _ _) hx
        obtain ⟨g2, o2, e2, q2⟩ := is_grew ((HO.out.below_all HG.out).is (Nat.le_refl _)) (Below.refl _ _) hy
        cases e2
        have i2 : (h : Int) < (n : Int) := by omega
        have i3 : (0 : Int) ≤ (h : Int) := by omega
        have i4 : (d : Int) < (n : Int) := by omega
        have i5 : (0 : Int) ≤ (d : Int) := by omega
        have i6 : (p : Int) - (h : Int) = (d : Int) := by omega
        obtain ⟨cz, hcz⟩ : ∃ cz, cz = ItP.cmp y x := ⟨_, rfl⟩
        have HR : Hid (∀ W, Calls Try.prog 23 #[iv y, iv x] W fun e w' => e = .returned (.int .i64 cz) ∧ Grew W w') := Lib.hid fun W => by rw [hcz]; exact merge_compare y x W
        have hcn := ItP.cmp_neg y x
        rw [← hcz] at hcn
        have HHX := Lib.hid hx
        have HHY := Lib.hid hy
        have HDH := Lib.hid hd
        clear hcz hx hy hd
        by_cases hah : ItP.ahead y x = true
        · have hz : cz < 0 := hcn.2 hah
          have HAH := Lib.hid hah
          clear hcn hah
          have hqq := And.intro q1 (And.intro q2 (And.intro i2 (And.intro i3 (And.intro i4 (And.intro hz (And.intro i6 i5))))))
          clear q1 q2 i6
          refine wp_region_x [] (by kernel_rfl) (by kernel_rfl) (by kernel_rfl) ?_
          simp only [blank, List.foldl_nil]
          repeat (first | (refine wpX_value (v := ?_) rfl (by intros; simp) rfl rfl (fun x => ?_) ?_; rotate_left; (focus (simp [go_sem, hqq]; (try go_ints); first | done | (with_reducible rfl))); (simp only [Act.put, List.setIfInBounds_toArray, List.set_cons_succ, List.set_cons_zero])) | (refine wpX_call (.int .i64 cz) _ _ rfl (by intros; simp) rfl rfl (fun x => ?_) (fun W _ => HR.out W) ?_; (focus (simp [go_sem]; done)); (simp only [Act.put, List.setIfInBounds_toArray, List.set_cons_succ, List.set_cons_zero])))
          (refine wpX_nil ?_; intro xb wx hxg xl; obtain ⟨xf, xe⟩ := LikeAll.end_ xl; clear xl; subst xe; simp only [fill, List.foldl_nil, Act.put])
          clear hqq
          go_wp2_with fail
          go_roundw
          case rel => exact ⟨st, h, hlo, hih, by omega, rfl, by go_num, H1.out, (fun _ u v hu hv => by
            rw [show p - h = d by have := HDH.out; omega, HHY.out] at hv
            rw [HHX.out] at hu
            cases hu
            cases hv
            exact HAH.out), HG.out.trans hxg⟩
          case measure => simp [intOf]; omega
        · have hz : ¬ cz < 0 := fun h => hah (hcn.1 h)
          have HAH := Lib.hid (show ItP.ahead y x = false by simpa using hah)
          clear hcn hah
          have hqq := And.intro q1 (And.intro q2 (And.intro i2 (And.intro i3 (And.intro i4 (And.intro hz (And.intro i6 i5))))))
          clear q1 q2 i6
          refine wp_region_x [] (by kernel_rfl) (by kernel_rfl) (by kernel_rfl) ?_
          simp only [blank, List.foldl_nil]
          repeat (first | (refine wpX_value (v := ?_) rfl (by intros; simp) rfl rfl (fun x => ?_) ?_; rotate_left; (focus (simp [go_sem, hqq]; (try go_ints); first | done | (with_reducible rfl))); (simp only [Act.put, List.setIfInBounds_toArray, List.set_cons_succ, List.set_cons_zero])) | (refine wpX_call (.int .i64 cz) _ _ rfl (by intros; simp) rfl rfl (fun x => ?_) (fun W _ => HR.out W) ?_; (focus (simp [go_sem]; done)); (simp only [Act.put, List.setIfInBounds_toArray, List.set_cons_succ, List.set_cons_zero])))
          (refine wpX_nil ?_; intro xb wx hxg xl; obtain ⟨xf, xe⟩ := LikeAll.end_ xl; clear xl; subst xe; simp only [fill, List.foldl_nil, Act.put])
          clear hqq
          go_wp2_with fail
          go_roundw
          case rel => exact ⟨h + 1, r, by omega, by omega, hhi, by go_num, rfl, (fun _ u v hu hv => by
            rw [show p + 1 - (h + 1) = d by have := HDH.out; omega, HHY.out] at hv
            rw [show h + 1 - 1 = h by omega, HHX.out] at hu
            cases hu
            cases hv
            exact HAH.out), H2.out, HG.out.trans hxg⟩
          case measure => simp [intOf]; omega
      · obtain rfl : st = r := by omega
        have i1 : ¬ (st : Int) < (st : Int) := by omega
        obtain ⟨en, hen⟩ : ∃ en, en + st = p + 1 := ⟨p + 1 - st, by have := HCUT.out.sum; omega⟩
        have hcr := HCUT.out.rng
        have hcs := HCUT.out.sum
        have hmen : m ≤ en := by omega
        have henb : en ≤ b := by omega
        have hast : a ≤ st := by omega
        have hstm : st ≤ m := by omega
        obtain ⟨A1, hA1⟩ : ∃ A1, A1 = X.take (st - a) := ⟨_, rfl⟩
        obtain ⟨A2, hA2⟩ : ∃ A2, A2 = X.drop (st - a) := ⟨_, rfl⟩
        obtain ⟨B1, hB1⟩ : ∃ B1, B1 = Y.take (en - m) := ⟨_, rfl⟩
        obtain ⟨B2, hB2⟩ : ∃ B2, B2 = Y.drop (en - m) := ⟨_, rfl⟩
        have HXE := Lib.hid (show X = A1 ++ A2 by rw [hA1, hA2, List.take_append_drop])
        have HYE := Lib.hid (show Y = B1 ++ B2 by rw [hB1, hB2, List.take_append_drop])
        have l1 : A1.length = st - a := by rw [hA1, List.length_take]; have := HLX.out; omega
        have l2 : A2.length = m - st := by rw [hA2, List.length_drop]; have := HLX.out; omega
        have l3 : B1.length = en - m := by rw [hB1, List.length_take]; have := HLY.out; omega
        have l4 : B2.length = b - en := by rw [hB2, List.length_drop]; have := HLY.out; omega
        have HWA := ws_split (by rw [← HXE.out]; exact HXS.out)
        have HWB := ws_split (by rw [← HYE.out]; exact HYS.out)
        have HLOW := Lib.hid (show ∀ x ∈ A1, ∀ y ∈ B2, le x y from low_of HWA.1 HWB.2 (fun x y hx hy => by
          have hx9 := List.getElem?_eq_some_iff.1 (by rw [List.getLast?_eq_getElem?] at hx; exact hx)
          have hy9 := List.getElem?_eq_some_iff.1 (by rw [List.head?_eq_getElem?] at hy; exact hy)
          obtain ⟨z1, _⟩ := hx9
          obtain ⟨z2, _⟩ := hy9
          refine H1.out (by have := HCUT.out.atLo; omega) x y ?_ ?_
          · rw [HDx.out _ (by omega) (by omega)]
            rw [List.getLast?_eq_getElem?, hA1, List.getElem?_take, if_pos (by rw [← hA1]; omega)] at hx
            rw [← hx, ← hA1, l1]
            congr 1
            omega
          · rw [HDy.out _ (by omega) (by omega)]
            rw [List.head?_eq_getElem?, hB2, List.getElem?_drop] at hy
            rw [← hy]
            congr 1
            omega))
        have HHIGH := Lib.hid (show ∀ y ∈ B1, ∀ x ∈ A2, ItP.ahead y x = true from high_of HWB.1 HWA.2 (fun y x hy hx => by
          have hy9 := List.getElem?_eq_some_iff.1 (by rw [List.getLast?_eq_getElem?] at hy; exact hy)
          have hx9 := List.getElem?_eq_some_iff.1 (by rw [List.head?_eq_getElem?] at hx; exact hx)
          obtain ⟨z1, _⟩ := hx9
          obtain ⟨z2, _⟩ := hy9
          refine H2.out (by have := HCUT.out.atHi; omega) x y ?_ ?_
          · rw [HDx.out _ (by omega) (by omega)]
            rw [List.head?_eq_getElem?, hA2, List.getElem?_drop] at hx
            rw [← hx]
            congr 1
          · rw [HDy.out _ (by omega) (by omega)]
            rw [List.getLast?_eq_getElem?, hB1, List.getElem?_take, if_pos (by rw [← hB1]; omega)] at hy
            rw [← hy, ← hB1, l3]
            congr 1
            omega))
        have HW := Lib.hid (And.intro HWA HWB)
        have HO1 := Lib.hid (show OwnI wr base A n c (P ++ A1 ++ A2 ++ B1 ++ B2 ++ S) by have := HO.out.below_all HG.out; rw [HD.out, HXE.out, HYE.out] at this; simpa using this)
        have HG1 := Lib.hid (show wc.grownBy wr (blk A) from grown_of_grew HG.out _)
        have HL1 := Lib.hid (And.intro l1 (And.intro l2 (And.intro l3 l4)))
        have HEN := Lib.hid hen
        have HMM := Lib.hid (show mid + m = st + en by have := HP.out; omega)
        have hmidb := HMID.out
        clear H1 H2 HO hA1 hA2 hB1 hB2 l1 l2 l3 l4 hen HWA HWB hcr hcs HDx HDy
        have i7 : (p : Int) + 1 - (st : Int) = (en : Int) := by have := HEN.out; omega
        --TAIL
        have HROT := Lib.hid (fun (W : World) (h : OwnI W base A n c (P ++ A1 ++ A2 ++ B1 ++ B2 ++ S)) (h1 : A2 ≠ []) (h2 : B1 ≠ []) => rotate_items A n c base (st : Int) (m : Int) (en : Int) (P ++ A1) A2 B1 (B2 ++ S) W (by simpa using h) (by have := HLP.out; have := HL1.out; simp; omega) (by have := HLP.out; have := HL1.out; simp; omega) (by have := HLP.out; have := HL1.out; simp; omega) h1 h2 hn)
        have HS1 := Lib.hid (fun (W : World) (h : OwnI W base A n c (P ++ A1 ++ B1 ++ A2 ++ B2 ++ S)) (h1 : A1 ≠ []) (h2 : B1 ≠ []) => HIH.out A n c base (a : Int) (st : Int) (mid : Int) P A1 B1 (A2 ++ B2 ++ S) W (by have := HL1.out; have := HNN.out; have := HMID.out; have := HMM.out; omega) (by simpa using h) h1 h2 HW.out.1.1 HW.out.2.1 (by have := HLP.out; omega) (by have := HLP.out; have := HL1.out; omega) (by have := HLP.out; have := HL1.out; have := HMM.out; omega) hn)
        have HS2 := Lib.hid (fun (W : World) (R1 : List It) (hR : R1.length = A1.length + B1.length) (h : OwnI W base A n c (P ++ R1 ++ A2 ++ B2 ++ S)) (h1 : A2 ≠ []) (h2 : B2 ≠ []) => HIH.out A n c base (mid : Int) (en : Int) (b : Int) (P ++ R1) A2 B2 S W (by have := HL1.out; have := HNN.out; have := HMID.out; have := HMM.out; omega) (by simpa using h) h1 h2 HW.out.1.2 HW.out.2.2 (by have := HLP.out; have := HL1.out; have := HMM.out; simp; omega) (by have := HLP.out; have := HL1.out; have := HMM.out; simp; omega) (by have := HLP.out; have := HL1.out; have := HMM.out; simp; omega) hn)
        have HOK := Lib.hid (fun (R1 R2 : List It) (k1 : OkR R1 (A1 ++ B1)) (k2 : OkR R2 (A2 ++ B2)) => (show OkR (R1 ++ R2) (X ++ Y) by rw [HXE.out, HYE.out]; exact sym_ok (by rw [← HXE.out]; exact HXS.out) (by rw [← HYE.out]; exact HYS.out) HLOW.out HHIGH.out k1 k2))
        have f1 : A1 = [] ↔ ¬ a < st := by have := HL1.out; rw [← List.length_eq_zero_iff]; omega
        have f2 : A2 = [] ↔ ¬ st < m := by have := HL1.out; rw [← List.length_eq_zero_iff]; omega
        have f3 : B1 = [] ↔ ¬ m < en := by have := HL1.out; rw [← List.length_eq_zero_iff]; omega
        have f4 : B2 = [] ↔ ¬ en < b := by have := HL1.out; rw [← List.length_eq_zero_iff]; omega
        have HF := Lib.hid (And.intro f1 (And.intro f2 (And.intro f3 f4)))
        have hmm9 : mid + m = st + en := HMM.out
        clear f1 f2 f3 f4
        by_cases h8 : st < m
        · skip
          by_cases h10 : m < en
          · skip
            by_cases h12 : a < st
            · skip
              by_cases h14 : en < b
              · skip
                have j1 : (a : Int) < (st : Int) := by omega
                have j2 : (st : Int) < (m : Int) := by omega
                have j3 : (m : Int) < (en : Int) := by omega
                have j4 : (st : Int) < (mid : Int) := by omega
                have j5 : (mid : Int) < (en : Int) := by omega
                have j6 : (en : Int) < (b : Int) := by omega
                go_wp2_with (first | (go_at_call 48; (with_reducible refine (HROT.out _ HO1.out (fun e => absurd (HF.out.2.1.1 e) (by omega)) (fun e => absurd (HF.out.2.2.1.1 e) (by omega))).mono ?_); rintro e w2 ⟨⟨v, rfl⟩, hO, hG⟩; have HOr := Lib.hid (show OwnI w2 base A n c (P ++ A1 ++ B1 ++ A2 ++ B2 ++ S) by simpa using hO); have HGr := Lib.hid (HG1.out.trans hG); clear hO hG) | (go_at_call 45; (with_reducible refine (HS1.out _ HOr.out (fun e => absurd (HF.out.1.1 e) (by omega)) (fun e => absurd (HF.out.2.2.1.1 e) (by omega))).mono ?_); rintro e w3 ⟨R1, ⟨v3, rfl⟩, hK, hO, hG⟩; have HK1 := Lib.hid hK; have HOs := Lib.hid (show OwnI w3 base A n c (P ++ R1 ++ A2 ++ B2 ++ S) by simpa using hO); have HGs := Lib.hid (HGr.out.trans hG); clear hO hG hK) | (go_at_call 45; (with_reducible refine (HS2.out _ R1 (by have := eqc_len HK1.out; simpa using this) HOs.out (fun e => absurd (HF.out.2.1.1 e) (by omega)) (fun e => absurd (HF.out.2.2.2.1 e) (by omega))).mono ?_); rintro e w4 ⟨R2, ⟨v4, rfl⟩, hK, hO, hG⟩; have HK2 := Lib.hid hK; have HOt := Lib.hid (show OwnI w4 base A n c (P ++ R1 ++ R2 ++ S) by simpa using hO); have HGt := Lib.hid (HGs.out.trans hG); clear hO hG hK))
                go_end0
                exact ⟨R1 ++ R2, ⟨_, rfl⟩, HOK.out _ _ HK1.out HK2.out, by simpa using HOt.out, HGt.out⟩
              · skip
                have j1 : (a : Int) < (st : Int) := by omega
                have j2 : (st : Int) < (m : Int) := by omega
                have j3 : (m : Int) < (en : Int) := by omega
                have j4 : (st : Int) < (mid : Int) := by omega
                have j5 : (mid : Int) < (en : Int) := by omega
                have j6 : ¬ (en : Int) < (b : Int) := by omega
                go_wp2_with (first | (go_at_call 48; (with_reducible refine (HROT.out _ HO1.out (fun e => absurd (HF.out.2.1.1 e) (by omega)) (fun e => absurd (HF.out.2.2.1.1 e) (by omega))).mono ?_); rintro e w2 ⟨⟨v, rfl⟩, hO, hG⟩; have HOr := Lib.hid (show OwnI w2 base A n c (P ++ A1 ++ B1 ++ A2 ++ B2 ++ S) by simpa using hO); have HGr := Lib.hid (HG1.out.trans hG); clear hO hG) | (go_at_call 45; (with_reducible refine (HS1.out _ HOr.out (fun e => absurd (HF.out.1.1 e) (by omega)) (fun e => absurd (HF.out.2.2.1.1 e) (by omega))).mono ?_); rintro e w3 ⟨R1, ⟨v3, rfl⟩, hK, hO, hG⟩; have HK1 := Lib.hid hK; have HOs := Lib.hid (show OwnI w3 base A n c (P ++ R1 ++ A2 ++ B2 ++ S) by simpa using hO); have HGs := Lib.hid (HGr.out.trans hG); clear hO hG hK; have HK2 := Lib.hid (okr_self (L := A2 ++ B2) (by simpa [(HF.out.2.2.2.2 (by omega))] using HW.out.1.2)); have HOt := Lib.hid (show OwnI w3 base A n c (P ++ R1 ++ (A2 ++ B2) ++ S) by simpa using HOs.out); have HGt := HGs))
                go_end0
                exact ⟨R1 ++ (A2 ++ B2), ⟨_, rfl⟩, HOK.out _ _ HK1.out HK2.out, by simpa using HOt.out, HGt.out⟩
            · skip
              by_cases h14 : en < b
              · skip
                have j1 : ¬ (a : Int) < (st : Int) := by omega
                have j2 : (st : Int) < (m : Int) := by omega
                have j3 : (m : Int) < (en : Int) := by omega
                have j4 : (st : Int) < (mid : Int) := by omega
                have j5 : (mid : Int) < (en : Int) := by omega
                have j6 : (en : Int) < (b : Int) := by omega
                go_wp2_with (first | (go_at_call 48; (with_reducible refine (HROT.out _ HO1.out (fun e => absurd (HF.out.2.1.1 e) (by omega)) (fun e => absurd (HF.out.2.2.1.1 e) (by omega))).mono ?_); rintro e w2 ⟨⟨v, rfl⟩, hO, hG⟩; have HOr := Lib.hid (show OwnI w2 base A n c (P ++ A1 ++ B1 ++ A2 ++ B2 ++ S) by simpa using hO); have HGr := Lib.hid (HG1.out.trans hG); clear hO hG; have HK1 := Lib.hid (okr_self (L := A1 ++ B1) (by simpa [(HF.out.1.2 (by omega))] using HW.out.2.1)); have HOs := Lib.hid (show OwnI w2 base A n c (P ++ (A1 ++ B1) ++ A2 ++ B2 ++ S) by simpa using HOr.out); have HGs := HGr) | (go_at_call 45; (with_reducible refine (HS2.out _ (A1 ++ B1) (by simp) HOs.out (fun e => absurd (HF.out.2.1.1 e) (by omega)) (fun e => absurd (HF.out.2.2.2.1 e) (by omega))).mono ?_); rintro e w4 ⟨R2, ⟨v4, rfl⟩, hK, hO, hG⟩; have HK2 := Lib.hid hK; have HOt := Lib.hid (show OwnI w4 base A n c (P ++ (A1 ++ B1) ++ R2 ++ S) by simpa using hO); have HGt := Lib.hid (HGs.out.trans hG); clear hO hG hK))
                go_end0
                exact ⟨(A1 ++ B1) ++ R2, ⟨_, rfl⟩, HOK.out _ _ HK1.out HK2.out, by simpa using HOt.out, HGt.out⟩
              · skip
                have j1 : ¬ (a : Int) < (st : Int) := by omega
                have j2 : (st : Int) < (m : Int) := by omega
                have j3 : (m : Int) < (en : Int) := by omega
                have j4 : (st : Int) < (mid : Int) := by omega
                have j5 : (mid : Int) < (en : Int) := by omega
                have j6 : ¬ (en : Int) < (b : Int) := by omega
                go_wp2_with (go_at_call 48; (with_reducible refine (HROT.out _ HO1.out (fun e => absurd (HF.out.2.1.1 e) (by omega)) (fun e => absurd (HF.out.2.2.1.1 e) (by omega))).mono ?_); rintro e w2 ⟨⟨v, rfl⟩, hO, hG⟩; have HOr := Lib.hid (show OwnI w2 base A n c (P ++ A1 ++ B1 ++ A2 ++ B2 ++ S) by simpa using hO); have HGr := Lib.hid (HG1.out.trans hG); clear hO hG; have HK1 := Lib.hid (okr_self (L := A1 ++ B1) (by simpa [(HF.out.1.2 (by omega))] using HW.out.2.1)); have HOs := Lib.hid (show OwnI w2 base A n c (P ++ (A1 ++ B1) ++ A2 ++ B2 ++ S) by simpa using HOr.out); have HGs := HGr; have HK2 := Lib.hid (okr_self (L := A2 ++ B2) (by simpa [(HF.out.2.2.2.2 (by omega))] using HW.out.1.2)); have HOt := Lib.hid (show OwnI w2 base A n c (P ++ (A1 ++ B1) ++ (A2 ++ B2) ++ S) by simpa using HOs.out); have HGt := HGs)
                go_end0
                exact ⟨(A1 ++ B1) ++ (A2 ++ B2), ⟨_, rfl⟩, HOK.out _ _ HK1.out HK2.out, by simpa using HOt.out, HGt.out⟩
          · skip
            by_cases h12 : a < st
            · skip
              by_cases h14 : en < b
              · skip
                have j1 : (a : Int) < (st : Int) := by omega
                have j2 : (st : Int) < (m : Int) := by omega
                have j3 : ¬ (m : Int) < (en : Int) := by omega
                have j4 : ¬ (st : Int) < (mid : Int) := by omega
                have j5 : (mid : Int) < (en : Int) := by omega
                have j6 : (en : Int) < (b : Int) := by omega
                have HOr := Lib.hid (show OwnI wr base A n c (P ++ A1 ++ B1 ++ A2 ++ B2 ++ S) by have := HO1.out; rw [(HF.out.2.2.1.2 (by omega))]; rw [(HF.out.2.2.1.2 (by omega))] at this; simpa using this)
                have HGr := HG1
                have HK1 := Lib.hid (okr_self (L := A1 ++ B1) (by simpa [(HF.out.2.2.1.2 (by omega))] using HW.out.1.1))
                have HOs := Lib.hid (show OwnI wr base A n c (P ++ (A1 ++ B1) ++ A2 ++ B2 ++ S) by simpa using HOr.out)
                have HGs := HGr
                go_wp2_with (go_at_call 45; (with_reducible refine (HS2.out _ (A1 ++ B1) (by simp) HOs.out (fun e => absurd (HF.out.2.1.1 e) (by omega)) (fun e => absurd (HF.out.2.2.2.1 e) (by omega))).mono ?_); rintro e w4 ⟨R2, ⟨v4, rfl⟩, hK, hO, hG⟩; have HK2 := Lib.hid hK; have HOt := Lib.hid (show OwnI w4 base A n c (P ++ (A1 ++ B1) ++ R2 ++ S) by simpa using hO); have HGt := Lib.hid (HGs.out.trans hG); clear hO hG hK)
                go_end0
                exact ⟨(A1 ++ B1) ++ R2, ⟨_, rfl⟩, HOK.out _ _ HK1.out HK2.out, by simpa using HOt.out, HGt.out⟩
              · skip
                have j1 : (a : Int) < (st : Int) := by omega
                have j2 : (st : Int) < (m : Int) := by omega
                have j3 : ¬ (m : Int) < (en : Int) := by omega
                have j4 : ¬ (st : Int) < (mid : Int) := by omega
                have j5 : (mid : Int) < (en : Int) := by omega
                have j6 : ¬ (en : Int) < (b : Int) := by omega
                have HOr := Lib.hid (show OwnI wr base A n c (P ++ A1 ++ B1 ++ A2 ++ B2 ++ S) by have := HO1.out; rw [(HF.out.2.2.1.2 (by omega))]; rw [(HF.out.2.2.1.2 (by omega))] at this; simpa using this)
                have HGr := HG1
                have HK1 := Lib.hid (okr_self (L := A1 ++ B1) (by simpa [(HF.out.2.2.1.2 (by omega))] using HW.out.1.1))
                have HOs := Lib.hid (show OwnI wr base A n c (P ++ (A1 ++ B1) ++ A2 ++ B2 ++ S) by simpa using HOr.out)
                have HGs := HGr
                have HK2 := Lib.hid (okr_self (L := A2 ++ B2) (by simpa [(HF.out.2.2.2.2 (by omega))] using HW.out.1.2))
                have HOt := Lib.hid (show OwnI wr base A n c (P ++ (A1 ++ B1) ++ (A2 ++ B2) ++ S) by simpa using HOs.out)
                have HGt := HGs
                go_wp2_with fail
                go_end0
                exact ⟨⟨_, rfl⟩, (A1 ++ B1) ++ (A2 ++ B2), HOK.out _ _ HK1.out HK2.out, by simpa using HOt.out, HGt.out⟩
            · skip
              by_cases h14 : en < b
              · skip
                have j1 : ¬ (a : Int) < (st : Int) := by omega
                have j2 : (st : Int) < (m : Int) := by omega
                have j3 : ¬ (m : Int) < (en : Int) := by omega
                have j4 : ¬ (st : Int) < (mid : Int) := by omega
                have j5 : (mid : Int) < (en : Int) := by omega
                have j6 : (en : Int) < (b : Int) := by omega
                have HOr := Lib.hid (show OwnI wr base A n c (P ++ A1 ++ B1 ++ A2 ++ B2 ++ S) by have := HO1.out; rw [(HF.out.2.2.1.2 (by omega))]; rw [(HF.out.2.2.1.2 (by omega))] at this; simpa using this)
                have HGr := HG1
                have HK1 := Lib.hid (okr_self (L := A1 ++ B1) (by simpa [(HF.out.1.2 (by omega))] using HW.out.2.1))
                have HOs := Lib.hid (show OwnI wr base A n c (P ++ (A1 ++ B1) ++ A2 ++ B2 ++ S) by simpa using HOr.out)
                have HGs := HGr
                go_wp2_with (go_at_call 45; (with_reducible refine (HS2.out _ (A1 ++ B1) (by simp) HOs.out (fun e => absurd (HF.out.2.1.1 e) (by omega)) (fun e => absurd (HF.out.2.2.2.1 e) (by omega))).mono ?_); rintro e w4 ⟨R2, ⟨v4, rfl⟩, hK, hO, hG⟩; have HK2 := Lib.hid hK; have HOt := Lib.hid (show OwnI w4 base A n c (P ++ (A1 ++ B1) ++ R2 ++ S) by simpa using hO); have HGt := Lib.hid (HGs.out.trans hG); clear hO hG hK)
                go_end0
                exact ⟨(A1 ++ B1) ++ R2, ⟨_, rfl⟩, HOK.out _ _ HK1.out HK2.out, by simpa using HOt.out, HGt.out⟩
              · skip
                have j1 : ¬ (a : Int) < (st : Int) := by omega
                have j2 : (st : Int) < (m : Int) := by omega
                have j3 : ¬ (m : Int) < (en : Int) := by omega
                have j4 : ¬ (st : Int) < (mid : Int) := by omega
                have j5 : (mid : Int) < (en : Int) := by omega
                have j6 : ¬ (en : Int) < (b : Int) := by omega
                have HOr := Lib.hid (show OwnI wr base A n c (P ++ A1 ++ B1 ++ A2 ++ B2 ++ S) by have := HO1.out; rw [(HF.out.2.2.1.2 (by omega))]; rw [(HF.out.2.2.1.2 (by omega))] at this; simpa using this)
                have HGr := HG1
                have HK1 := Lib.hid (okr_self (L := A1 ++ B1) (by simpa [(HF.out.1.2 (by omega))] using HW.out.2.1))
                have HOs := Lib.hid (show OwnI wr base A n c (P ++ (A1 ++ B1) ++ A2 ++ B2 ++ S) by simpa using HOr.out)
                have HGs := HGr
                have HK2 := Lib.hid (okr_self (L := A2 ++ B2) (by simpa [(HF.out.2.2.2.2 (by omega))] using HW.out.1.2))
                have HOt := Lib.hid (show OwnI wr base A n c (P ++ (A1 ++ B1) ++ (A2 ++ B2) ++ S) by simpa using HOs.out)
                have HGt := HGs
                go_wp2_with fail
                go_end0
                exact ⟨⟨_, rfl⟩, (A1 ++ B1) ++ (A2 ++ B2), HOK.out _ _ HK1.out HK2.out, by simpa using HOt.out, HGt.out⟩
        · skip
          by_cases h10 : a < st
          · skip
            by_cases h12 : m < en
            · skip
              have j1 : (a : Int) < (st : Int) := by omega
              have j2 : ¬ (st : Int) < (m : Int) := by omega
              have j3 : (m : Int) < (en : Int) := by omega
              have j4 : (st : Int) < (mid : Int) := by omega
              have j5 : ¬ (mid : Int) < (en : Int) := by omega
              have HOr := Lib.hid (show OwnI wr base A n c (P ++ A1 ++ B1 ++ A2 ++ B2 ++ S) by have := HO1.out; rw [(HF.out.2.1.2 (by omega))]; rw [(HF.out.2.1.2 (by omega))] at this; simpa using this)
              have HGr := HG1
              go_wp2_with (go_at_call 45; (with_reducible refine (HS1.out _ HOr.out (fun e => absurd (HF.out.1.1 e) (by omega)) (fun e => absurd (HF.out.2.2.1.1 e) (by omega))).mono ?_); rintro e w3 ⟨R1, ⟨v3, rfl⟩, hK, hO, hG⟩; have HK1 := Lib.hid hK; have HOs := Lib.hid (show OwnI w3 base A n c (P ++ R1 ++ A2 ++ B2 ++ S) by simpa using hO); have HGs := Lib.hid (HGr.out.trans hG); clear hO hG hK; have HK2 := Lib.hid (okr_self (L := A2 ++ B2) (by simpa [(HF.out.2.1.2 (by omega))] using HW.out.2.2)); have HOt := Lib.hid (show OwnI w3 base A n c (P ++ R1 ++ (A2 ++ B2) ++ S) by simpa using HOs.out); have HGt := HGs)
              go_end0
              exact ⟨R1 ++ (A2 ++ B2), ⟨_, rfl⟩, HOK.out _ _ HK1.out HK2.out, by simpa using HOt.out, HGt.out⟩
            · skip
              have j1 : (a : Int) < (st : Int) := by omega
              have j2 : ¬ (st : Int) < (m : Int) := by omega
              have j3 : ¬ (m : Int) < (en : Int) := by omega
              have j4 : ¬ (st : Int) < (mid : Int) := by omega
              have j5 : ¬ (mid : Int) < (en : Int) := by omega
              have HOr := Lib.hid (show OwnI wr base A n c (P ++ A1 ++ B1 ++ A2 ++ B2 ++ S) by have := HO1.out; rw [(HF.out.2.1.2 (by omega))]; rw [(HF.out.2.1.2 (by omega))] at this; simpa using this)
              have HGr := HG1
              have HK1 := Lib.hid (okr_self (L := A1 ++ B1) (by simpa [(HF.out.2.2.1.2 (by omega))] using HW.out.1.1))
              have HOs := Lib.hid (show OwnI wr base A n c (P ++ (A1 ++ B1) ++ A2 ++ B2 ++ S) by simpa using HOr.out)
              have HGs := HGr
              have HK2 := Lib.hid (okr_self (L := A2 ++ B2) (by simpa [(HF.out.2.1.2 (by omega))] using HW.out.2.2))
              have HOt := Lib.hid (show OwnI wr base A n c (P ++ (A1 ++ B1) ++ (A2 ++ B2) ++ S) by simpa using HOs.out)
              have HGt := HGs
              go_wp2_with fail
              go_end0
              exact ⟨⟨_, rfl⟩, (A1 ++ B1) ++ (A2 ++ B2), HOK.out _ _ HK1.out HK2.out, by simpa using HOt.out, HGt.out⟩
          · skip
            have j1 : ¬ (a : Int) < (st : Int) := by omega
            have j2 : ¬ (st : Int) < (m : Int) := by omega
            have j5 : ¬ (mid : Int) < (en : Int) := by omega
            have HOr := Lib.hid (show OwnI wr base A n c (P ++ A1 ++ B1 ++ A2 ++ B2 ++ S) by have := HO1.out; rw [(HF.out.2.1.2 (by omega))]; rw [(HF.out.2.1.2 (by omega))] at this; simpa using this)
            have HGr := HG1
            have HK1 := Lib.hid (okr_self (L := A1 ++ B1) (by simpa [(HF.out.1.2 (by omega))] using HW.out.2.1))
            have HOs := Lib.hid (show OwnI wr base A n c (P ++ (A1 ++ B1) ++ A2 ++ B2 ++ S) by simpa using HOr.out)
            have HGs := HGr
            have HK2 := Lib.hid (okr_self (L := A2 ++ B2) (by simpa [(HF.out.2.1.2 (by omega))] using HW.out.2.2))
            have HOt := Lib.hid (show OwnI wr base A n c (P ++ (A1 ++ B1) ++ (A2 ++ B2) ++ S) by simpa using HOs.out)
            have HGt := HGs
            go_wp2_with fail
            go_end0
            exact ⟨⟨_, rfl⟩, (A1 ++ B1) ++ (A2 ++ B2), HOK.out _ _ HK1.out HK2.out, by simpa using HOt.out, HGt.out⟩
end Go.Proofs.Ytemckkcbakccnaa
