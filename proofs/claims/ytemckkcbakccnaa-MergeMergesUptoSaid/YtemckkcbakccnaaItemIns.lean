/- slices' insertion sort of items by merge's compare. -/
import Derived.Test.YtemckkcbakccnaaItemRev
import Derived.Test.YtemckkcbakccnaaMrgCmp
namespace Go.Proofs.Ytemckkcbakccnaa
open Go.RowKit
set_option linter.unusedVariables false
namespace SrtP
open ItP
/-- x goes in from the right end on -/
def insF : List It → It → List It
  | [], x => [x]
  | p :: r, x => if ItP.ahead x p = true then p :: insF r x else x :: p :: r
def insR (P : List It) (x : It) : List It := (insF P.reverse x).reverse
theorem insR_nil (x : It) : insR [] x = [x] := rfl
theorem insR_snoc (Q : List It) (p x : It) : insR (Q ++ [p]) x = if ItP.ahead x p = true then insR Q x ++ [p] else Q ++ [p] ++ [x] := by
  unfold insR
  rw [List.reverse_append, List.reverse_singleton, List.singleton_append, insF]
  split
  · rw [List.reverse_cons]
  · simp
theorem insF_len (x : It) : ∀ P : List It, (insF P x).length = P.length + 1
  | [] => rfl
  | p :: r => by
    rw [insF]
    split
    · rw [List.length_cons, insF_len x r, List.length_cons]
    · rfl
def isort (l : List It) : List It := l.foldl insR []
theorem isort_add {l : List It} {k : Nat} {x : It} (hx : l[k]? = some x) : isort (l.take (k + 1)) = insR (isort (l.take k)) x := by
  unfold isort
  rw [List.take_add_one, hx, List.foldl_append]
  rfl
theorem isort_len : ∀ (l P : List It), (l.foldl insR P).length = P.length + l.length
  | [], P => rfl
  | x :: r, P => by
    rw [List.foldl_cons, isort_len r]
    unfold insR
    rw [List.length_reverse, insF_len, List.length_reverse, List.length_cons]
    omega
theorem swap_at (S T : List It) (p x : It) : ((S ++ p :: x :: T).set (S.length + 1) p).set S.length x = S ++ x :: p :: T := by
  rw [List.set_append_right _ _ (by omega), List.set_append_right _ _ (by omega)]
  simp
theorem at_mid (S T : List It) (p x : It) : (S ++ p :: x :: T)[S.length]? = some p ∧ (S ++ p :: x :: T)[S.length + 1]? = some x := by
  constructor
  · rw [List.getElem?_append_right (by omega)]; simp
  · rw [List.getElem?_append_right (by omega)]; simp
end SrtP
open SrtP
abbrev cmpV : Value := .func (.func 23) #[] #[]
theorem grown_of_grew {w w' : World} (h : Grew w w') (r : Option Nat) : w.grownBy w' r := ⟨h.os, h.tape, h.output, h.size, fun k hk _ => h.block k hk⟩
set_option maxRecDepth 100000 in
set_option maxHeartbeats 2000000 in
theorem ins_sort (A : Option Addr) (n c base a b : Nat) (pre mid post : List It) (w : World) (h : OwnI w base A n c (pre ++ mid ++ post)) (ha : pre.length = a) (hb : a + mid.length = b) (hn : n ≤ 1000000) :
    Calls Try.prog 44 #[.slice A n c, .int .i64 (a : Int), .int .i64 (b : Int), cmpV] w fun e w' => (∃ v, e = .returned v) ∧ OwnI w' base A n c (pre ++ isort mid ++ post) ∧ w.grownBy w' (blk A) := by
  have hl := h.len
  have hm := h.le
  unfold maxLen at hm
  simp only [List.length_append] at hl
  have HO := Lib.hid h
  have HB := Lib.hid hb
  clear h
  have hbn : b ≤ n := by omega
  go_enter Try.func44, Try.ntmps44
  go_wp2_with fail
  go_loopw [8] (fun iv wy => ∃ t : Nat, (a + t + 1 ≤ b ∨ t = 0) ∧ iv = .int .i64 ((a : Int) + (t : Int) + 1) ∧ OwnI wy base A n c (pre ++ isort (mid.take (t + 1)) ++ (mid.drop (t + 1) ++ post)) ∧ w.grownBy wy (blk A)) (fun i _ => b - (intOf i).toNat)
  case atStart =>
    refine ⟨0, .inr rfl, by simp, ?_, grown_of_grew (Grew.refl _) _⟩
    have : isort (mid.take (0 + 1)) ++ mid.drop (0 + 1) = mid := by
      rcases mid with _ | ⟨x, r⟩
      · rfl
      · rfl
    rw [List.append_assoc, ← List.append_assoc (isort _), this, ← List.append_assoc]
    exact HO.out
  case round =>
    obtain ⟨t, ht, rfl, hO, hG⟩ := hrel
    have HO1 := Lib.hid hO
    have HG1 := Lib.hid hG
    clear hO hG HO
    have i0 : (0 : Int) ≤ (t : Int) := by omega
    by_cases hlt : a + t + 1 < b
    · obtain ⟨x, hx⟩ : ∃ x, mid[t + 1]? = some x := ⟨_, List.getElem?_eq_getElem (by omega)⟩
      have HIS := Lib.hid (isort_add hx)
      have hdr : mid.drop (t + 1) = x :: mid.drop (t + 2) := by
        have hi := List.getElem?_eq_some_iff.1 hx
        obtain ⟨h1, h2⟩ := hi
        rw [List.drop_eq_getElem_cons h1, h2]
      obtain ⟨P, hP⟩ : ∃ P, P = isort (mid.take (t + 1)) := ⟨_, rfl⟩
      have hPl : P.length = t + 1 := by rw [hP]; unfold isort; rw [isort_len, List.length_take]; simp; omega
      obtain ⟨rest, hrest⟩ : ∃ rest, rest = mid.drop (t + 2) ++ post := ⟨_, rfl⟩
      have HO2 := Lib.hid (show OwnI wr base A n c (pre ++ P ++ x :: ([] ++ rest)) by have := HO1.out; rw [hdr, List.cons_append, ← hP, ← hrest] at this; exact this)
      rw [← hP] at HIS
      have HRE := Lib.hid hrest
      have HPL := Lib.hid hPl
      have i1 : (a : Int) + (t : Int) + 1 < (b : Int) := by omega
      clear hx hdr hP hrest hPl HO1
      go_wp2_with fail
      go_loopw [9] (fun jv wy => ∃ (Q R : List It) (m : Nat), jv = .int .i64 (m : Int) ∧ m = a + Q.length ∧ OwnI wy base A n c (pre ++ Q ++ x :: (R ++ rest)) ∧ insR P x = insR Q x ++ R ∧ w.grownBy wy (blk A)) (fun j _ => (intOf j).toNat)
      case atStart => exact ⟨P, [], a + t + 1, by go_num, by rw [HPL.out]; omega, HO2.out, by simp, HG1.out⟩
      case round =>
        obtain ⟨Q, R, m0, rfl, hm0, hO, hIn, hG⟩ := hrel
        have HOi := Lib.hid hO
        have HIi := Lib.hid hIn
        have HGi := Lib.hid hG
        have hOl := hO.len
        simp only [List.length_append, List.length_cons] at hOl
        clear hO hIn hG HO2 HG1
        rcases List.eq_nil_or_concat Q with rfl | ⟨Q, p, rfl⟩
        · have hma : m0 = a := by simpa using hm0
          have i2 : ¬ (a : Int) < (m0 : Int) := by omega
          clear hOl
          go_upto_region 4 with fail
          have hqq := i2
          refine wp_region_x [] (by kernel_rfl) (by kernel_rfl) (by kernel_rfl) ?_
          simp only [blank, List.foldl_nil]
          repeat (first | (refine wpX_value (v := ?_) rfl (by intros; simp) rfl rfl (fun x => ?_) ?_; rotate_left; (focus (simp [go_sem, hqq]; (try go_ints); first | done | (with_reducible rfl))); (simp only [Act.put, List.setIfInBounds_toArray, List.set_cons_succ, List.set_cons_zero])) | (refine wpX_skip rfl ?_; (simp only [Act.put, List.setIfInBounds_toArray, List.set_cons_succ, List.set_cons_zero])))
          (refine wpX_nil ?_; intro xb wx hxg xl; obtain ⟨xf, xe⟩ := LikeAll.end_ xl; clear xl; subst xe; simp only [fill, List.foldl_nil, Act.put])
          clear hqq
          go_wp2_with fail
          go_roundw
          case rel =>
            refine ⟨t + 1, by omega, by go_num, ?_, HGi.out.trans (grown_of_grew hxg _)⟩
            have h1 := HOi.out.below_all hxg
            rw [HIS.out, HIi.out, insR_nil, ← HRE.out]
            simpa using h1
          case measure => simp [intOf]; omega
        · rw [List.concat_eq_append] at *
          obtain ⟨m, rfl⟩ : ∃ m, m0 = m + 1 := ⟨m0 - 1, by simp at hm0; omega⟩
          have hml : (pre ++ Q).length = m := by simp at hm0; simp; omega
          have hcur : pre ++ (Q ++ [p]) ++ x :: (R ++ rest) = (pre ++ Q) ++ p :: x :: (R ++ rest) := by simp
          rw [hcur] at HOi
          have HAT := Lib.hid (at_mid (pre ++ Q) (R ++ rest) p x)
          have HSW := Lib.hid (show (((pre ++ Q) ++ p :: x :: (R ++ rest)).set (m + 1) p).set m x = pre ++ Q ++ x :: (p :: R ++ rest) by rw [← hml, swap_at]; simp)
          rw [hml] at HAT
          have HP := Lib.hid HAT.out.1
          have HX := Lib.hid HAT.out.2
          have HQL := Lib.hid (show m = a + Q.length by simp at hm0; omega)
          have hmn : m + 1 < n := by simp at hOl hml; omega
          have HSN := Lib.hid (insR_snoc Q p x)
          obtain ⟨g, o, rfl, hgb, hrp⟩ := (HOi.out.is (Nat.le_refl _)).at HP.out
          have q1 : ∀ y : GrewOf wr, y.1.cell? ⟨g, o + m * 4, none⟩ = some (sv p.key) ∧ y.1.cell? ⟨g, o + m * 4 + 1, none⟩ = some (.int .u64 (p.seq : Int)) ∧ y.1.cell? ⟨g, o + m * 4 + 2, none⟩ = some (.bool p.gone) ∧ y.1.cell? ⟨g, o + m * 4 + 3, none⟩ = some (sv p.val) := fun y => range_cells (range_below hrp y.2 hgb)
          have q2 : ∀ y : GrewOf wr, y.1.cell? ⟨g, o + (m + 1) * 4, none⟩ = some (sv x.key) ∧ y.1.cell? ⟨g, o + (m + 1) * 4 + 1, none⟩ = some (.int .u64 (x.seq : Int)) ∧ y.1.cell? ⟨g, o + (m + 1) * 4 + 2, none⟩ = some (.bool x.gone) ∧ y.1.cell? ⟨g, o + (m + 1) * 4 + 3, none⟩ = some (sv x.val) := fun y => range_cells (range_below (OwnI.range HOi.out HX.out) y.2 hgb)
          rw [show ((m + 1 : Nat) : Int) = (m : Int) + 1 from by omega]
          have i2 : (a : Int) < (m : Int) + 1 := by have := HQL.out; omega
          have i3 : (m : Int) + 1 < (n : Int) := by omega
          have i4 : (m : Int) < (n : Int) := by omega
          have i5 : (0 : Int) ≤ (m : Int) := by omega
          obtain ⟨cz, hcz⟩ : ∃ cz, cz = ItP.cmp x p := ⟨_, rfl⟩
          have HR : Hid (∀ W, Calls Try.prog 23 #[iv x, iv p] W fun e w' => e = .returned (.int .i64 cz) ∧ Grew W w') := Lib.hid fun W => by rw [hcz]; exact merge_compare x p W
          have hcn := ItP.cmp_neg x p
          rw [← hcz] at hcn
          clear hcz hrp hgb hcur hm0 hOl hml
          by_cases hah : ItP.ahead x p = true
          · have hz : cz < 0 := hcn.2 hah
            have HIN := Lib.hid (show insR P x = insR Q x ++ p :: R by rw [HIi.out, HSN.out, if_pos hah]; simp)
            clear hcn hah
            go_upto_region 4 with fail
            have hqq := And.intro q1 (And.intro q2 (And.intro i2 (And.intro i3 (And.intro i4 (And.intro hz i5)))))
            clear q1 q2
            refine wp_region_x [] (by kernel_rfl) (by kernel_rfl) (by kernel_rfl) ?_
            simp only [blank, List.foldl_nil]
            repeat (first | (refine wpX_value (v := ?_) rfl (by intros; simp) rfl rfl (fun x => ?_) ?_; rotate_left; (focus (simp [go_sem, hqq, ↓IntWalk.iteOmega]; (try go_ints); first | done | (with_reducible rfl))); (simp only [Act.put, List.setIfInBounds_toArray, List.set_cons_succ, List.set_cons_zero])) | (refine wpX_call (.int .i64 cz) _ _ rfl (by intros; simp) rfl rfl (fun x => ?_) (fun W _ => HR.out W) ?_; (focus (simp [go_sem]; done)); (simp only [Act.put, List.setIfInBounds_toArray, List.set_cons_succ, List.set_cons_zero])))
            (refine wpX_nil ?_; intro xb wx hxg xl; obtain ⟨xf, xe⟩ := LikeAll.end_ xl; clear xl; subst xe; simp only [fill, List.foldl_nil, Act.put])
            clear hqq
            go_upto_region 6 with fail
            refine wp_region_c (fun W => True) (by kernel_rfl) trivial ?_
            have HC := Lib.hid trivial
            have hqq := And.intro (show m < n by omega) (And.intro (show (m : Int) + 1 < (n : Int) by omega) (show (0 : Int) ≤ (m : Int) + 1 by omega))
            (refine wpAnyC_free 0 (oi := ⟨some 37, _, _, _, _, _⟩) (v := ?_) rfl (by kernel_rfl) (by kernel_rfl) (by kernel_rfl) HC.out rfl (fun x => ?_) ?_; rotate_left; (focus (simp [go_sem]; (try go_ints); first | done | (with_reducible rfl))); (simp only [Act.put, List.setIfInBounds_toArray, List.set_cons_succ, List.set_cons_zero]))
            (refine wpAnyC_free 1 (oi := ⟨some 38, _, _, _, _, _⟩) (v := ?_) rfl (by kernel_rfl) (by kernel_rfl) (by kernel_rfl) HC.out rfl (fun x => ?_) ?_; rotate_left; (focus (simp [go_sem]; (try go_ints); first | done | (with_reducible rfl))); (simp only [Act.put, List.setIfInBounds_toArray, List.set_cons_succ, List.set_cons_zero]))
            (refine wpAnyC_free 2 (oi := ⟨some 39, _, _, _, _, _⟩) (v := ?_) rfl (by kernel_rfl) (by kernel_rfl) (by kernel_rfl) HC.out rfl (fun x => ?_) ?_; rotate_left; (focus (simp [go_sem]; (try go_ints); first | done | (with_reducible rfl))); (simp only [Act.put, List.setIfInBounds_toArray, List.set_cons_succ, List.set_cons_zero]))
            (refine wpAnyC_free 3 (oi := ⟨some 40, _, _, _, _, _⟩) (v := ?_) rfl (by kernel_rfl) (by kernel_rfl) (by kernel_rfl) HC.out rfl (fun x => ?_) ?_; rotate_left; (focus (simp [go_sem]; (try go_ints); first | done | (with_reducible rfl))); (simp only [Act.put, List.setIfInBounds_toArray, List.set_cons_succ, List.set_cons_zero]))
            (refine wpAnyC_free 4 (oi := ⟨some 41, _, _, _, _, _⟩) (v := ?_) rfl (by kernel_rfl) (by kernel_rfl) (by kernel_rfl) HC.out rfl (fun x => ?_) ?_; rotate_left; (focus (simp [go_sem]; (try go_ints); first | done | (with_reducible rfl))); (simp only [Act.put, List.setIfInBounds_toArray, List.set_cons_succ, List.set_cons_zero]))
            (refine wpAnyC_free 5 (oi := ⟨some 42, _, _, _, _, _⟩) (v := ?_) rfl (by kernel_rfl) (by kernel_rfl) (by kernel_rfl) HC.out rfl (fun x => ?_) ?_; rotate_left; (focus (simp [go_sem]; (try go_ints); first | done | (with_reducible rfl))); (simp only [Act.put, List.setIfInBounds_toArray, List.set_cons_succ, List.set_cons_zero]))
            (refine wpAnyC_free 6 (oi := ⟨some 43, _, _, _, _, _⟩) (v := ?_) rfl (by kernel_rfl) (by kernel_rfl) (by kernel_rfl) HC.out rfl (fun x => ?_) ?_; rotate_left; (focus (simp [go_sem]; (try go_ints); first | done | (with_reducible rfl))); (simp only [Act.put, List.setIfInBounds_toArray, List.set_cons_succ, List.set_cons_zero]))
            (refine wpAnyC_free 7 (oi := ⟨some 44, _, _, _, _, _⟩) (v := ?_) rfl (by kernel_rfl) (by kernel_rfl) (by kernel_rfl) HC.out rfl (fun x => ?_) ?_; rotate_left; (focus (simp [go_sem]; (try go_ints); first | done | (with_reducible rfl))); (simp only [Act.put, List.setIfInBounds_toArray, List.set_cons_succ, List.set_cons_zero]))
            (refine wpAnyC_free 8 (oi := ⟨some 45, _, _, _, _, _⟩) (v := ?_) rfl (by kernel_rfl) (by kernel_rfl) (by kernel_rfl) HC.out rfl (fun x => ?_) ?_; rotate_left; (focus (simp [go_sem, hqq]; (try go_ints); first | done | (with_reducible rfl))); (simp only [Act.put, List.setIfInBounds_toArray, List.set_cons_succ, List.set_cons_zero]))
            (refine wpAnyC_free 10 (oi := ⟨some 47, _, _, _, _, _⟩) (v := ?_) rfl (by kernel_rfl) (by kernel_rfl) (by kernel_rfl) HC.out rfl (fun x => ?_) ?_; rotate_left; (focus (simp [go_sem]; (try go_ints); first | done | (with_reducible rfl))); (simp only [Act.put, List.setIfInBounds_toArray, List.set_cons_succ, List.set_cons_zero]))
            (refine wpAnyC_free 11 (oi := ⟨some 48, _, _, _, _, _⟩) (v := ?_) rfl (by kernel_rfl) (by kernel_rfl) (by kernel_rfl) HC.out rfl (fun x => ?_) ?_; rotate_left; (focus (simp [go_sem]; (try go_ints); first | done | (with_reducible rfl))); (simp only [Act.put, List.setIfInBounds_toArray, List.set_cons_succ, List.set_cons_zero]))
            (refine wpAnyC_free 12 (oi := ⟨some 49, _, _, _, _, _⟩) (v := ?_) rfl (by kernel_rfl) (by kernel_rfl) (by kernel_rfl) HC.out rfl (fun x => ?_) ?_; rotate_left; (focus (simp [go_sem, hqq]; (try go_ints); first | done | (with_reducible rfl))); (simp only [Act.put, List.setIfInBounds_toArray, List.set_cons_succ, List.set_cons_zero]))
            change wpAnyC _ _ _ _ _ _ _ _ (World.drewN wx 1)
            obtain ⟨wz, hwz⟩ : ∃ W, W = World.drewN wx 1 := ⟨_, rfl⟩
            have HOz := Lib.hid (show OwnI wz base (some ⟨g, o, none⟩) n c ((pre ++ Q) ++ p :: x :: (R ++ rest)) by rw [hwz]; exact (HOi.out.below_all hxg).drewN 1)
            have HGz := Lib.hid (show w.grownBy wz (blk (some ⟨g, o, none⟩)) by rw [hwz]; exact (HGi.out.trans (grown_of_grew hxg _)).trans (grown_of_grew (Grew.drewN _ _) _))
            rw [← hwz]
            clear hwz HOi HGi
            refine wpAnyC_fork 9 13 (oi := ⟨some 46, _, _, _, _, _⟩) (oj := ⟨some 50, _, _, _, _, _⟩) rfl rfl (by kernel_rfl) ?_ ?_
            · refine cOp_list 9 (o := ⟨some 46, _, _, _, _, _⟩) rfl rfl ?_
              refine wpList_value (o := ⟨some 46, _, _, _, _, _⟩) rfl (exec_loadI (.tmp 45) rfl rfl (OwnI.range HOz.out HP.out)) ?_
              (simp only [Act.put, List.setIfInBounds_toArray, List.set_cons_succ, List.set_cons_zero])
              refine wpList_nil ⟨rfl, trivial, ?_⟩
              refine wpAnyC_step 13 (o := ⟨some 50, _, _, _, _, _⟩) rfl (by kernel_rfl) rfl ?_
              refine wpList_value (o := ⟨some 50, _, _, _, _, _⟩) rfl (exec_loadI (.tmp 49) rfl rfl (OwnI.range HOz.out HX.out)) ?_
              (simp only [Act.put, List.setIfInBounds_toArray, List.set_cons_succ, List.set_cons_zero])
              refine wpList_nil ⟨rfl, trivial, ?_⟩
              (refine wpAnyC_free 14 (oi := ⟨some 51, _, _, _, _, _⟩) (v := ?_) rfl (by kernel_rfl) (by kernel_rfl) (by kernel_rfl) HC.out rfl (fun x => ?_) ?_; rotate_left; (focus (simp [go_sem, hqq]; (try go_ints); first | done | (with_reducible rfl))); (simp only [Act.put, List.setIfInBounds_toArray, List.set_cons_succ, List.set_cons_zero]))
              refine wpAnyC_step 15 (o := ⟨none, _, _, _, _, _⟩) rfl (by kernel_rfl) rfl ?_
              refine wpList_store_mid rfl 29 (.tmp 51) (.tmp 46) rfl g (o + (m + 1) * 4) (itv p).toArray rfl rfl (HOz.out.there (by omega)) size_item (one_itv_all p) ?_
              rw [List.toList_toArray]
              have HO2 := Lib.hid (HOz.out.setI (k := m + 1) (by omega) p)
              have HG2 := Lib.hid (grown_setCells g (itv p) (o + (m + 1) * 4) wz)
              generalize wz.setCells g (o + (m + 1) * 4) (itv p) = w2 at HO2 HG2 ⊢
              (simp only [Act.put])
              refine wpList_nil ⟨rfl, trivial, ?_⟩
              (refine wpAnyC_free 16 (oi := ⟨some 52, _, _, _, _, _⟩) (v := ?_) rfl (by kernel_rfl) (by kernel_rfl) (by kernel_rfl) HC.out rfl (fun x => ?_) ?_; rotate_left; (focus (simp [go_sem, hqq]; (try go_ints); first | done | (with_reducible rfl))); (simp only [Act.put, List.setIfInBounds_toArray, List.set_cons_succ, List.set_cons_zero]))
              refine wpAnyC_step 17 (o := ⟨none, _, _, _, _, _⟩) rfl (by kernel_rfl) rfl ?_
              refine wpList_store_mid rfl 29 (.tmp 52) (.tmp 50) rfl g (o + m * 4) (itv x).toArray rfl rfl (HO2.out.there (by omega)) size_item (one_itv_all x) ?_
              rw [List.toList_toArray]
              have HO3 := Lib.hid (HO2.out.setI (k := m) (by omega) x)
              have HG3 := Lib.hid (HG2.out.trans (grown_setCells g (itv x) (o + m * 4) w2))
              generalize w2.setCells g (o + m * 4) (itv x) = w3 at HO3 HG3 ⊢
              (simp only [Act.put])
              refine wpList_nil ⟨rfl, trivial, ?_⟩
              refine wpAnyC_done (by kernel_rfl) (fun _ => ?_) _
              clear hqq
              go_wp2_with fail
              go_roundw
              case rel => exact ⟨Q, p :: R, m, by go_num, HQL.out, by rw [HSW.out] at HO3; exact HO3.out, HIN.out, HGz.out.trans HG3.out⟩
              case measure => first | (simp [intOf]; done) | (simp [intOf]; omega)
            · refine cOp_list 13 (o := ⟨some 50, _, _, _, _, _⟩) rfl rfl ?_
              refine wpList_value (o := ⟨some 50, _, _, _, _, _⟩) rfl (exec_loadI (.tmp 49) rfl rfl (OwnI.range HOz.out HX.out)) ?_
              (simp only [Act.put, List.setIfInBounds_toArray, List.set_cons_succ, List.set_cons_zero])
              refine wpList_nil ⟨rfl, trivial, ?_⟩
              refine wpAnyC_step 9 (o := ⟨some 46, _, _, _, _, _⟩) rfl (by kernel_rfl) rfl ?_
              refine wpList_value (o := ⟨some 46, _, _, _, _, _⟩) rfl (exec_loadI (.tmp 45) rfl rfl (OwnI.range HOz.out HP.out)) ?_
              (simp only [Act.put, List.setIfInBounds_toArray, List.set_cons_succ, List.set_cons_zero])
              refine wpList_nil ⟨rfl, trivial, ?_⟩
              (refine wpAnyC_free 14 (oi := ⟨some 51, _, _, _, _, _⟩) (v := ?_) rfl (by kernel_rfl) (by kernel_rfl) (by kernel_rfl) HC.out rfl (fun x => ?_) ?_; rotate_left; (focus (simp [go_sem, hqq]; (try go_ints); first | done | (with_reducible rfl))); (simp only [Act.put, List.setIfInBounds_toArray, List.set_cons_succ, List.set_cons_zero]))
              refine wpAnyC_step 15 (o := ⟨none, _, _, _, _, _⟩) rfl (by kernel_rfl) rfl ?_
              refine wpList_store_mid rfl 29 (.tmp 51) (.tmp 46) rfl g (o + (m + 1) * 4) (itv p).toArray rfl rfl (HOz.out.there (by omega)) size_item (one_itv_all p) ?_
              rw [List.toList_toArray]
              have HO2 := Lib.hid (HOz.out.setI (k := m + 1) (by omega) p)
              have HG2 := Lib.hid (grown_setCells g (itv p) (o + (m + 1) * 4) wz)
              generalize wz.setCells g (o + (m + 1) * 4) (itv p) = w2 at HO2 HG2 ⊢
              (simp only [Act.put])
              refine wpList_nil ⟨rfl, trivial, ?_⟩
              (refine wpAnyC_free 16 (oi := ⟨some 52, _, _, _, _, _⟩) (v := ?_) rfl (by kernel_rfl) (by kernel_rfl) (by kernel_rfl) HC.out rfl (fun x => ?_) ?_; rotate_left; (focus (simp [go_sem, hqq]; (try go_ints); first | done | (with_reducible rfl))); (simp only [Act.put, List.setIfInBounds_toArray, List.set_cons_succ, List.set_cons_zero]))
              refine wpAnyC_step 17 (o := ⟨none, _, _, _, _, _⟩) rfl (by kernel_rfl) rfl ?_
              refine wpList_store_mid rfl 29 (.tmp 52) (.tmp 50) rfl g (o + m * 4) (itv x).toArray rfl rfl (HO2.out.there (by omega)) size_item (one_itv_all x) ?_
              rw [List.toList_toArray]
              have HO3 := Lib.hid (HO2.out.setI (k := m) (by omega) x)
              have HG3 := Lib.hid (HG2.out.trans (grown_setCells g (itv x) (o + m * 4) w2))
              generalize w2.setCells g (o + m * 4) (itv x) = w3 at HO3 HG3 ⊢
              (simp only [Act.put])
              refine wpList_nil ⟨rfl, trivial, ?_⟩
              refine wpAnyC_done (by kernel_rfl) (fun _ => ?_) _
              clear hqq
              go_wp2_with fail
              go_roundw
              case rel => exact ⟨Q, p :: R, m, by go_num, HQL.out, by rw [HSW.out] at HO3; exact HO3.out, HIN.out, HGz.out.trans HG3.out⟩
              case measure => first | (simp [intOf]; done) | (simp [intOf]; omega)
          · have hz : ¬ cz < 0 := fun h => hah (hcn.1 h)
            have HIN := Lib.hid (show insR P x = Q ++ [p] ++ [x] ++ R by rw [HIi.out, HSN.out, if_neg hah])
            clear hcn hah
            go_upto_region 4 with fail
            have hqq := And.intro q1 (And.intro q2 (And.intro i2 (And.intro i3 (And.intro i4 (And.intro hz i5)))))
            clear q1 q2
            refine wp_region_x [] (by kernel_rfl) (by kernel_rfl) (by kernel_rfl) ?_
            simp only [blank, List.foldl_nil]
            repeat (first | (refine wpX_value (v := ?_) rfl (by intros; simp) rfl rfl (fun x => ?_) ?_; rotate_left; (focus (simp [go_sem, hqq, ↓IntWalk.iteOmega]; (try go_ints); first | done | (with_reducible rfl))); (simp only [Act.put, List.setIfInBounds_toArray, List.set_cons_succ, List.set_cons_zero])) | (refine wpX_call (.int .i64 cz) _ _ rfl (by intros; simp) rfl rfl (fun x => ?_) (fun W _ => HR.out W) ?_; (focus (simp [go_sem]; done)); (simp only [Act.put, List.setIfInBounds_toArray, List.set_cons_succ, List.set_cons_zero])))
            (refine wpX_nil ?_; intro xb wx hxg xl; obtain ⟨xf, xe⟩ := LikeAll.end_ xl; clear xl; subst xe; simp only [fill, List.foldl_nil, Act.put])
            clear hqq
            go_wp2_with fail
            go_roundw
            case rel =>
              refine ⟨t + 1, by omega, by go_num, ?_, HGi.out.trans (grown_of_grew hxg _)⟩
              have h1 := HOi.out.below_all hxg
              rw [HIS.out, HIN.out, ← HRE.out]
              simpa using h1
            case measure => simp [intOf]; omega
    · have hE : mid.take (t + 1) = mid ∧ mid.drop (t + 1) = [] := ⟨List.take_of_length_le (by omega), List.drop_of_length_le (by omega)⟩
      have HE := Lib.hid hE
      have i1 : ¬ (a : Int) + (t : Int) + 1 < (b : Int) := by omega
      clear hE
      go_wp2_with fail
      go_end0
      exact ⟨⟨_, rfl⟩, by have := HO1.out; rw [HE.out.1, HE.out.2, List.nil_append] at this; simpa using this, HG1.out⟩
end Go.Proofs.Ytemckkcbakccnaa
