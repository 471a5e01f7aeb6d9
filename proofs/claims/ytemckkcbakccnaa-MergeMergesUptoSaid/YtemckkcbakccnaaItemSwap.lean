/- slices' exchange and turning of parts of a row of items. -/
import Derived.Test.YtemckkcbakccnaaItemIns
namespace Go.Proofs.Ytemckkcbakccnaa
open Go.RowKit
set_option linter.unusedVariables false
theorem swap2 (L M N : List It) (u v : It) : ((L ++ u :: (M ++ v :: N)).set L.length v).set (L.length + 1 + M.length) u = L ++ v :: (M ++ u :: N) := by
  rw [List.set_append_right _ _ (Nat.le_refl _), Nat.sub_self, List.set_cons_zero, List.set_append_right _ _ (by omega), show L.length + 1 + M.length - L.length = M.length + 1 by omega, List.set_cons_succ, List.set_append_right _ _ (Nat.le_refl _), Nat.sub_self, List.set_cons_zero]
theorem at2 (L M N : List It) (u v : It) : (L ++ u :: (M ++ v :: N))[L.length]? = some u ∧ (L ++ u :: (M ++ v :: N))[L.length + 1 + M.length]? = some v := by
  constructor
  · rw [List.getElem?_append_right (Nat.le_refl _), Nat.sub_self]; rfl
  · rw [List.getElem?_append_right (by omega), show L.length + 1 + M.length - L.length = M.length + 1 by omega, List.getElem?_cons_succ, List.getElem?_append_right (Nat.le_refl _), Nat.sub_self]; rfl
def swp (P U Q V S : List It) (k : Nat) : List It := P ++ (V.take k ++ U.drop k) ++ Q ++ (U.take k ++ V.drop k) ++ S
theorem swp_at (P U Q V S : List It) {k : Nat} {u v : It} (hu : U[k]? = some u) (hv : V[k]? = some v) :
    swp P U Q V S k = (P ++ V.take k) ++ u :: ((U.drop (k + 1) ++ Q ++ U.take k) ++ v :: (V.drop (k + 1) ++ S)) ∧ swp P U Q V S (k + 1) = (P ++ V.take k) ++ v :: ((U.drop (k + 1) ++ Q ++ U.take k) ++ u :: (V.drop (k + 1) ++ S)) := by
  have d : ∀ {L : List It} {x : It}, L[k]? = some x → L.drop k = x :: L.drop (k + 1) := fun {L x} h => by
    have hi := List.getElem?_eq_some_iff.1 h
    obtain ⟨h1, h2⟩ := hi
    rw [List.drop_eq_getElem_cons h1, h2]
  unfold swp
  constructor
  · rw [d hu, d hv]; simp
  · rw [List.take_add_one, List.take_add_one, hu, hv]; simp
set_option maxRecDepth 100000 in
set_option maxHeartbeats 2000000 in
theorem swap_range (A : Option Addr) (n c base : Nat) (za zb zm : Int) (P U Q V S : List It) (w : World) (h : OwnI w base A n c (P ++ U ++ Q ++ V ++ S)) (hza : za = (P.length : Int)) (hzm : zm = (U.length : Int)) (hv : V.length = U.length) (hzb : zb = (P.length : Int) + (U.length : Int) + (Q.length : Int)) (hn : n ≤ 1000000) :
    Calls Try.prog 49 #[.slice A n c, .int .i64 za, .int .i64 zb, .int .i64 zm, cmpV] w fun e w' => (∃ v, e = .returned v) ∧ OwnI w' base A n c (P ++ V ++ Q ++ U ++ S) ∧ w.grownBy w' (blk A) := by
  have hl := h.len
  have hm := h.le
  unfold maxLen at hm
  simp only [List.length_append] at hl
  obtain ⟨a, ha⟩ : ∃ a, a = P.length := ⟨_, rfl⟩
  obtain ⟨m, hmm⟩ : ∃ m, m = U.length := ⟨_, rfl⟩
  obtain ⟨b, hb⟩ : ∃ b, b = P.length + U.length + Q.length := ⟨_, rfl⟩
  obtain rfl : za = (a : Int) := by omega
  obtain rfl : zm = (m : Int) := by omega
  obtain rfl : zb = (b : Int) := by omega
  have HO := Lib.hid (show OwnI w base A n c (swp P U Q V S 0) by simpa [swp] using h)
  have HL := Lib.hid (And.intro ha (And.intro hmm (And.intro hb (And.intro hv hl))))
  have hbn : b + m ≤ n := by omega
  have han : a + m ≤ n := by omega
  clear h hza hzm hzb ha hmm hb hv hl
  go_enter Try.func49, Try.ntmps49
  go_wp2_with fail
  go_loopw [10] (fun iv wy => ∃ k : Nat, k ≤ m ∧ iv = .int .i64 (k : Int) ∧ OwnI wy base A n c (swp P U Q V S k) ∧ w.grownBy wy (blk A)) (fun i _ => m - (intOf i).toNat)
  case atStart => exact ⟨0, Nat.zero_le _, rfl, HO.out, grown_of_grew (Grew.refl _) _⟩
  case round =>
    obtain ⟨k, hk, rfl, hO, hG⟩ := hrel
    have HO1 := Lib.hid hO
    have HG1 := Lib.hid hG
    clear hO hG HO
    have i0 : (0 : Int) ≤ (k : Int) := by omega
    by_cases hlt : k < m
    · obtain ⟨u, hu⟩ : ∃ u, U[k]? = some u := ⟨_, List.getElem?_eq_getElem (by have := HL.out.2.1; omega)⟩
      obtain ⟨v, hv⟩ : ∃ v, V[k]? = some v := ⟨_, List.getElem?_eq_getElem (by have := HL.out.2.1; have := HL.out.2.2.2.1; omega)⟩
      have hsw := swp_at P U Q V S hu hv
      have e1 : (P ++ V.take k).length = a + k := by have := HL.out; rw [List.length_append, List.length_take]; omega
      have e2 : (P ++ V.take k).length + 1 + (U.drop (k + 1) ++ Q ++ U.take k).length = b + k := by have := HL.out; simp only [List.length_append, List.length_take, List.length_drop]; omega
      have hat := at2 (P ++ V.take k) (U.drop (k + 1) ++ Q ++ U.take k) (V.drop (k + 1) ++ S) u v
      have hss := swap2 (P ++ V.take k) (U.drop (k + 1) ++ Q ++ U.take k) (V.drop (k + 1) ++ S) u v
      rw [e2, e1, ← hsw.1, ← hsw.2] at hss
      rw [e2, e1, ← hsw.1] at hat
      have HSW := Lib.hid hss
      have HU := Lib.hid hat.1
      have HV := Lib.hid hat.2
      obtain ⟨g, o, rfl, _, _⟩ := (HO1.out.is (Nat.le_refl _)).at HU.out
      have i1 : (k : Int) < (m : Int) := by omega
      clear hu hv hsw e1 e2 hat hss
      go_upto_region 3 with fail
      refine wp_region_c (fun W => True) (by kernel_rfl) trivial ?_
      have HC := Lib.hid trivial
      have hqq := And.intro (show a + k < n by omega) (And.intro (show b + k < n by omega) (And.intro (show (a : Int) + (k : Int) < (n : Int) by omega) (And.intro (show (b : Int) + (k : Int) < (n : Int) by omega) (And.intro (show (0 : Int) ≤ (a : Int) + (k : Int) by omega) (show (0 : Int) ≤ (b : Int) + (k : Int) by omega)))))
      (refine wpAnyC_free 0 (oi := ⟨some 16, _, _, _, _, _⟩) (v := ?_) rfl (by kernel_rfl) (by kernel_rfl) (by kernel_rfl) HC.out rfl (fun x => ?_) ?_; rotate_left; (focus (simp [go_sem]; (try go_ints); first | done | (with_reducible rfl))); (simp only [Act.put, List.setIfInBounds_toArray, List.set_cons_succ, List.set_cons_zero]))
      (refine wpAnyC_free 1 (oi := ⟨some 17, _, _, _, _, _⟩) (v := ?_) rfl (by kernel_rfl) (by kernel_rfl) (by kernel_rfl) HC.out rfl (fun x => ?_) ?_; rotate_left; (focus (simp [go_sem]; (try go_ints); first | done | (with_reducible rfl))); (simp only [Act.put, List.setIfInBounds_toArray, List.set_cons_succ, List.set_cons_zero]))
      (refine wpAnyC_free 2 (oi := ⟨some 18, _, _, _, _, _⟩) (v := ?_) rfl (by kernel_rfl) (by kernel_rfl) (by kernel_rfl) HC.out rfl (fun x => ?_) ?_; rotate_left; (focus (simp [go_sem]; (try go_ints); first | done | (with_reducible rfl))); (simp only [Act.put, List.setIfInBounds_toArray, List.set_cons_succ, List.set_cons_zero]))
      (refine wpAnyC_free 3 (oi := ⟨some 19, _, _, _, _, _⟩) (v := ?_) rfl (by kernel_rfl) (by kernel_rfl) (by kernel_rfl) HC.out rfl (fun x => ?_) ?_; rotate_left; (focus (simp [go_sem]; (try go_ints); first | done | (with_reducible rfl))); (simp only [Act.put, List.setIfInBounds_toArray, List.set_cons_succ, List.set_cons_zero]))
      (refine wpAnyC_free 4 (oi := ⟨some 20, _, _, _, _, _⟩) (v := ?_) rfl (by kernel_rfl) (by kernel_rfl) (by kernel_rfl) HC.out rfl (fun x => ?_) ?_; rotate_left; (focus (simp [go_sem]; (try go_ints); first | done | (with_reducible rfl))); (simp only [Act.put, List.setIfInBounds_toArray, List.set_cons_succ, List.set_cons_zero]))
      (refine wpAnyC_free 5 (oi := ⟨some 21, _, _, _, _, _⟩) (v := ?_) rfl (by kernel_rfl) (by kernel_rfl) (by kernel_rfl) HC.out rfl (fun x => ?_) ?_; rotate_left; (focus (simp [go_sem]; (try go_ints); first | done | (with_reducible rfl))); (simp only [Act.put, List.setIfInBounds_toArray, List.set_cons_succ, List.set_cons_zero]))
      (refine wpAnyC_free 6 (oi := ⟨some 22, _, _, _, _, _⟩) (v := ?_) rfl (by kernel_rfl) (by kernel_rfl) (by kernel_rfl) HC.out rfl (fun x => ?_) ?_; rotate_left; (focus (simp [go_sem]; (try go_ints); first | done | (with_reducible rfl))); (simp only [Act.put, List.setIfInBounds_toArray, List.set_cons_succ, List.set_cons_zero]))
      (refine wpAnyC_free 7 (oi := ⟨some 23, _, _, _, _, _⟩) (v := ?_) rfl (by kernel_rfl) (by kernel_rfl) (by kernel_rfl) HC.out rfl (fun x => ?_) ?_; rotate_left; (focus (simp [go_sem]; (try go_ints); first | done | (with_reducible rfl))); (simp only [Act.put, List.setIfInBounds_toArray, List.set_cons_succ, List.set_cons_zero]))
      (refine wpAnyC_free 8 (oi := ⟨some 24, _, _, _, _, _⟩) (v := ?_) rfl (by kernel_rfl) (by kernel_rfl) (by kernel_rfl) HC.out rfl (fun x => ?_) ?_; rotate_left; (focus (simp [go_sem]; (try go_ints); first | done | (with_reducible rfl))); (simp only [Act.put, List.setIfInBounds_toArray, List.set_cons_succ, List.set_cons_zero]))
      (refine wpAnyC_free 9 (oi := ⟨some 25, _, _, _, _, _⟩) (v := ?_) rfl (by kernel_rfl) (by kernel_rfl) (by kernel_rfl) HC.out rfl (fun x => ?_) ?_; rotate_left; (focus (simp [go_sem]; (try go_ints); first | done | (with_reducible rfl))); (simp only [Act.put, List.setIfInBounds_toArray, List.set_cons_succ, List.set_cons_zero]))
      (refine wpAnyC_free 10 (oi := ⟨some 26, _, _, _, _, _⟩) (v := ?_) rfl (by kernel_rfl) (by kernel_rfl) (by kernel_rfl) HC.out rfl (fun x => ?_) ?_; rotate_left; (focus (simp [go_sem]; (try go_ints); first | done | (with_reducible rfl))); (simp only [Act.put, List.setIfInBounds_toArray, List.set_cons_succ, List.set_cons_zero]))
      (refine wpAnyC_free 11 (oi := ⟨some 27, _, _, _, _, _⟩) (v := ?_) rfl (by kernel_rfl) (by kernel_rfl) (by kernel_rfl) HC.out rfl (fun x => ?_) ?_; rotate_left; (focus (simp [go_sem]; (try go_ints); first | done | (with_reducible rfl))); (simp only [Act.put, List.setIfInBounds_toArray, List.set_cons_succ, List.set_cons_zero]))
      (refine wpAnyC_free 12 (oi := ⟨some 28, _, _, _, _, _⟩) (v := ?_) rfl (by kernel_rfl) (by kernel_rfl) (by kernel_rfl) HC.out rfl (fun x => ?_) ?_; rotate_left; (focus (simp [go_sem, hqq]; (try go_ints); first | done | (with_reducible rfl))); (simp only [Act.put, List.setIfInBounds_toArray, List.set_cons_succ, List.set_cons_zero]))
      (refine wpAnyC_free 14 (oi := ⟨some 30, _, _, _, _, _⟩) (v := ?_) rfl (by kernel_rfl) (by kernel_rfl) (by kernel_rfl) HC.out rfl (fun x => ?_) ?_; rotate_left; (focus (simp [go_sem]; (try go_ints); first | done | (with_reducible rfl))); (simp only [Act.put, List.setIfInBounds_toArray, List.set_cons_succ, List.set_cons_zero]))
      (refine wpAnyC_free 15 (oi := ⟨some 31, _, _, _, _, _⟩) (v := ?_) rfl (by kernel_rfl) (by kernel_rfl) (by kernel_rfl) HC.out rfl (fun x => ?_) ?_; rotate_left; (focus (simp [go_sem]; (try go_ints); first | done | (with_reducible rfl))); (simp only [Act.put, List.setIfInBounds_toArray, List.set_cons_succ, List.set_cons_zero]))
      (refine wpAnyC_free 16 (oi := ⟨some 32, _, _, _, _, _⟩) (v := ?_) rfl (by kernel_rfl) (by kernel_rfl) (by kernel_rfl) HC.out rfl (fun x => ?_) ?_; rotate_left; (focus (simp [go_sem]; (try go_ints); first | done | (with_reducible rfl))); (simp only [Act.put, List.setIfInBounds_toArray, List.set_cons_succ, List.set_cons_zero]))
      (refine wpAnyC_free 17 (oi := ⟨some 33, _, _, _, _, _⟩) (v := ?_) rfl (by kernel_rfl) (by kernel_rfl) (by kernel_rfl) HC.out rfl (fun x => ?_) ?_; rotate_left; (focus (simp [go_sem]; (try go_ints); first | done | (with_reducible rfl))); (simp only [Act.put, List.setIfInBounds_toArray, List.set_cons_succ, List.set_cons_zero]))
      (refine wpAnyC_free 18 (oi := ⟨some 34, _, _, _, _, _⟩) (v := ?_) rfl (by kernel_rfl) (by kernel_rfl) (by kernel_rfl) HC.out rfl (fun x => ?_) ?_; rotate_left; (focus (simp [go_sem, hqq]; (try go_ints); first | done | (with_reducible rfl))); (simp only [Act.put, List.setIfInBounds_toArray, List.set_cons_succ, List.set_cons_zero]))
      change wpAnyC _ _ _ _ _ _ _ _ (World.drewN wr 1)
      obtain ⟨wz, hwz⟩ : ∃ W, W = World.drewN wr 1 := ⟨_, rfl⟩
      have HOz := Lib.hid (show OwnI wz base (some ⟨g, o, none⟩) n c (swp P U Q V S k) by rw [hwz]; exact HO1.out.drewN 1)
      have HGz := Lib.hid (show w.grownBy wz (blk (some ⟨g, o, none⟩)) by rw [hwz]; exact HG1.out.trans (grown_of_grew (Grew.drewN _ _) _))
      rw [← hwz]
      clear hwz HO1 HG1
      refine wpAnyC_fork 13 19 (oi := ⟨some 29, _, _, _, _, _⟩) (oj := ⟨some 35, _, _, _, _, _⟩) rfl rfl (by kernel_rfl) ?_ ?_
      · refine cOp_list 13 (o := ⟨some 29, _, _, _, _, _⟩) rfl rfl ?_
        refine wpList_value (o := ⟨some 29, _, _, _, _, _⟩) rfl (exec_loadI (.tmp 28) rfl rfl (OwnI.range HOz.out HV.out)) ?_
        (simp only [Act.put, List.setIfInBounds_toArray, List.set_cons_succ, List.set_cons_zero])
        refine wpList_nil ⟨rfl, trivial, ?_⟩
        refine wpAnyC_step 19 (o := ⟨some 35, _, _, _, _, _⟩) rfl (by kernel_rfl) rfl ?_
        refine wpList_value (o := ⟨some 35, _, _, _, _, _⟩) rfl (exec_loadI (.tmp 34) rfl rfl (OwnI.range HOz.out HU.out)) ?_
        (simp only [Act.put, List.setIfInBounds_toArray, List.set_cons_succ, List.set_cons_zero])
        refine wpList_nil ⟨rfl, trivial, ?_⟩
        (refine wpAnyC_free 20 (oi := ⟨some 36, _, _, _, _, _⟩) (v := ?_) rfl (by kernel_rfl) (by kernel_rfl) (by kernel_rfl) HC.out rfl (fun x => ?_) ?_; rotate_left; (focus (simp [go_sem, hqq]; (try go_ints); first | done | (with_reducible rfl))); (simp only [Act.put, List.setIfInBounds_toArray, List.set_cons_succ, List.set_cons_zero]))
        refine wpAnyC_step 21 (o := ⟨none, _, _, _, _, _⟩) rfl (by kernel_rfl) rfl ?_
        refine wpList_store_mid rfl 29 (.tmp 36) (.tmp 29) rfl g (o + (a + k) * 4) (itv v).toArray rfl rfl (HOz.out.there (by omega)) size_item (one_itv_all v) ?_
        rw [List.toList_toArray]
        have HO2 := Lib.hid (HOz.out.setI (k := a + k) (by omega) v)
        have HG2 := Lib.hid (grown_setCells g (itv v) (o + (a + k) * 4) wz)
        generalize wz.setCells g (o + (a + k) * 4) (itv v) = w2 at HO2 HG2 ⊢
        (simp only [Act.put])
        refine wpList_nil ⟨rfl, trivial, ?_⟩
        (refine wpAnyC_free 22 (oi := ⟨some 37, _, _, _, _, _⟩) (v := ?_) rfl (by kernel_rfl) (by kernel_rfl) (by kernel_rfl) HC.out rfl (fun x => ?_) ?_; rotate_left; (focus (simp [go_sem, hqq]; (try go_ints); first | done | (with_reducible rfl))); (simp only [Act.put, List.setIfInBounds_toArray, List.set_cons_succ, List.set_cons_zero]))
        refine wpAnyC_step 23 (o := ⟨none, _, _, _, _, _⟩) rfl (by kernel_rfl) rfl ?_
        refine wpList_store_mid rfl 29 (.tmp 37) (.tmp 35) rfl g (o + (b + k) * 4) (itv u).toArray rfl rfl (HO2.out.there (by omega)) size_item (one_itv_all u) ?_
        rw [List.toList_toArray]
        have HO3 := Lib.hid (HO2.out.setI (k := b + k) (by omega) u)
        have HG3 := Lib.hid (HG2.out.trans (grown_setCells g (itv u) (o + (b + k) * 4) w2))
        generalize w2.setCells g (o + (b + k) * 4) (itv u) = w3 at HO3 HG3 ⊢
        (simp only [Act.put])
        refine wpList_nil ⟨rfl, trivial, ?_⟩
        refine wpAnyC_done (by kernel_rfl) (fun _ => ?_) _
        clear hqq
        go_wp2_with fail
        go_roundw
        case rel => exact ⟨k + 1, hlt, by go_num, by have := HO3.out; rw [HSW.out] at this; exact this, HGz.out.trans HG3.out⟩
        case measure => simp [intOf]; omega
      · refine cOp_list 19 (o := ⟨some 35, _, _, _, _, _⟩) rfl rfl ?_
        refine wpList_value (o := ⟨some 35, _, _, _, _, _⟩) rfl (exec_loadI (.tmp 34) rfl rfl (OwnI.range HOz.out HU.out)) ?_
        (simp only [Act.put, List.setIfInBounds_toArray, List.set_cons_succ, List.set_cons_zero])
        refine wpList_nil ⟨rfl, trivial, ?_⟩
        refine wpAnyC_step 13 (o := ⟨some 29, _, _, _, _, _⟩) rfl (by kernel_rfl) rfl ?_
        refine wpList_value (o := ⟨some 29, _, _, _, _, _⟩) rfl (exec_loadI (.tmp 28) rfl rfl (OwnI.range HOz.out HV.out)) ?_
        (simp only [Act.put, List.setIfInBounds_toArray, List.set_cons_succ, List.set_cons_zero])
        refine wpList_nil ⟨rfl, trivial, ?_⟩
        (refine wpAnyC_free 20 (oi := ⟨some 36, _, _, _, _, _⟩) (v := ?_) rfl (by kernel_rfl) (by kernel_rfl) (by kernel_rfl) HC.out rfl (fun x => ?_) ?_; rotate_left; (focus (simp [go_sem, hqq]; (try go_ints); first | done | (with_reducible rfl))); (simp only [Act.put, List.setIfInBounds_toArray, List.set_cons_succ, List.set_cons_zero]))
        refine wpAnyC_step 21 (o := ⟨none, _, _, _, _, _⟩) rfl (by kernel_rfl) rfl ?_
        refine wpList_store_mid rfl 29 (.tmp 36) (.tmp 29) rfl g (o + (a + k) * 4) (itv v).toArray rfl rfl (HOz.out.there (by omega)) size_item (one_itv_all v) ?_
        rw [List.toList_toArray]
        have HO2 := Lib.hid (HOz.out.setI (k := a + k) (by omega) v)
        have HG2 := Lib.hid (grown_setCells g (itv v) (o + (a + k) * 4) wz)
        generalize wz.setCells g (o + (a + k) * 4) (itv v) = w2 at HO2 HG2 ⊢
        (simp only [Act.put])
        refine wpList_nil ⟨rfl, trivial, ?_⟩
        (refine wpAnyC_free 22 (oi := ⟨some 37, _, _, _, _, _⟩) (v := ?_) rfl (by kernel_rfl) (by kernel_rfl) (by kernel_rfl) HC.out rfl (fun x => ?_) ?_; rotate_left; (focus (simp [go_sem, hqq]; (try go_ints); first | done | (with_reducible rfl))); (simp only [Act.put, List.setIfInBounds_toArray, List.set_cons_succ, List.set_cons_zero]))
        refine wpAnyC_step 23 (o := ⟨none, _, _, _, _, _⟩) rfl (by kernel_rfl) rfl ?_
        refine wpList_store_mid rfl 29 (.tmp 37) (.tmp 35) rfl g (o + (b + k) * 4) (itv u).toArray rfl rfl (HO2.out.there (by omega)) size_item (one_itv_all u) ?_
        rw [List.toList_toArray]
        have HO3 := Lib.hid (HO2.out.setI (k := b + k) (by omega) u)
        have HG3 := Lib.hid (HG2.out.trans (grown_setCells g (itv u) (o + (b + k) * 4) w2))
        generalize w2.setCells g (o + (b + k) * 4) (itv u) = w3 at HO3 HG3 ⊢
        (simp only [Act.put])
        refine wpList_nil ⟨rfl, trivial, ?_⟩
        refine wpAnyC_done (by kernel_rfl) (fun _ => ?_) _
        clear hqq
        go_wp2_with fail
        go_roundw
        case rel => exact ⟨k + 1, hlt, by go_num, by have := HO3.out; rw [HSW.out] at this; exact this, HGz.out.trans HG3.out⟩
        case measure => simp [intOf]; omega
    · obtain rfl : k = m := by omega
      have i1 : ¬ (k : Int) < (k : Int) := by omega
      have HE := Lib.hid (show swp P U Q V S k = P ++ V ++ Q ++ U ++ S by
        have := HL.out
        unfold swp
        rw [List.take_of_length_le (by omega), List.take_of_length_le (by omega), List.drop_of_length_le (by omega), List.drop_of_length_le (by omega), List.append_nil, List.append_nil])
      go_wp2_with fail
      go_end0
      exact ⟨⟨_, rfl⟩, by have := HO1.out; rw [HE.out] at this; simpa using this, HG1.out⟩
set_option maxRecDepth 100000 in
set_option maxHeartbeats 2000000 in
theorem rotate_items (A : Option Addr) (n c base : Nat) (za zm zb : Int) (P X Y S : List It) (w : World) (h : OwnI w base A n c (P ++ X ++ Y ++ S)) (hza : za = (P.length : Int)) (hzm : zm = (P.length : Int) + (X.length : Int)) (hzb : zb = (P.length : Int) + (X.length : Int) + (Y.length : Int)) (hx : X ≠ []) (hy : Y ≠ []) (hn : n ≤ 1000000) :
    Calls Try.prog 48 #[.slice A n c, .int .i64 za, .int .i64 zm, .int .i64 zb, cmpV] w fun e w' => (∃ v, e = .returned v) ∧ OwnI w' base A n c (P ++ Y ++ X ++ S) ∧ w.grownBy w' (blk A) := by
  have hl := h.len
  have hm := h.le
  unfold maxLen at hm
  simp only [List.length_append] at hl
  obtain ⟨a, ha⟩ : ∃ a, a = P.length := ⟨_, rfl⟩
  obtain ⟨m, hmm⟩ : ∃ m, m = P.length + X.length := ⟨_, rfl⟩
  obtain ⟨b, hb⟩ : ∃ b, b = P.length + X.length + Y.length := ⟨_, rfl⟩
  obtain rfl : za = (a : Int) := by omega
  obtain rfl : zm = (m : Int) := by omega
  obtain rfl : zb = (b : Int) := by omega
  have HO := Lib.hid h
  have HL := Lib.hid (And.intro ha (And.intro hmm (And.intro hb hl)))
  have HX := Lib.hid (And.intro hx hy)
  have hmn : m ≤ n := by omega
  have hbn : b ≤ n := by omega
  have ham : a ≤ m := by omega
  have hmb : m ≤ b := by omega
  have i0 : (0 : Int) ≤ (m : Int) - (a : Int) := by omega
  clear h hza hzm hzb ha hmm hb hl hx hy
  go_enter Try.func48, Try.ntmps48
  go_wp2_with fail
  go_loopw [10, 11] (fun iv jv wy => ∃ (P' X' Y' S' : List It), X' ≠ [] ∧ Y' ≠ [] ∧ iv = .int .i64 (X'.length : Int) ∧ jv = .int .i64 (Y'.length : Int) ∧ P'.length + X'.length = m ∧ m + Y'.length ≤ n ∧ OwnI wy base A n c (P' ++ X' ++ Y' ++ S') ∧ P' ++ Y' ++ X' ++ S' = P ++ Y ++ X ++ S ∧ w.grownBy wy (blk A)) (fun i j _ => (intOf i).toNat + (intOf j).toNat)
  case atStart => exact ⟨P, X, Y, S, HX.out.1, HX.out.2, by have := HL.out; congr 1; omega, by have := HL.out; congr 1; omega, HL.out.2.1.symm, by have := HL.out; omega, HO.out, rfl, grown_of_grew (Grew.refl _) _⟩
  case round =>
    obtain ⟨P', X', Y', S', hx', hy', rfl, rfl, hPX, hYn, hO, hE, hG⟩ := hrel
    have HO1 := Lib.hid hO
    have HG1 := Lib.hid hG
    have HE := Lib.hid hE
    have hxp : 0 < X'.length := List.length_pos_iff.2 hx'
    have hyp : 0 < Y'.length := List.length_pos_iff.2 hy'
    obtain ⟨i, hi⟩ : ∃ i, i = X'.length := ⟨_, rfl⟩
    obtain ⟨j, hj⟩ : ∃ j, j = Y'.length := ⟨_, rfl⟩
    rw [← hi, ← hj]
    rw [← hi] at hPX hxp
    rw [← hj] at hYn hyp
    have him : i ≤ m := by omega
    have hjn : j ≤ n := by omega
    have HP := Lib.hid hPX
    have HIJ := Lib.hid (And.intro hi hj)
    clear hO hG hE hx' hy' HO hPX hi hj
    by_cases hne : i = j
    · have t0 : ((i : Int) != (j : Int)) = false := by simp [hne]
      have t0' : (i : Int) = (j : Int) := by omega
      subst hne
      have HSw := Lib.hid (swap_range A n c base ((m : Int) - (i : Int)) (m : Int) (i : Int) P' X' [] Y' S' wr (by simpa using HO1.out) (by have := HP.out; omega) (by have := HIJ.out.1; omega) (by have := HIJ.out; omega) (by have := HP.out; have := HIJ.out.1; simp; omega) hn)
      go_wp2_with (go_at_call 49; ((with_reducible refine HSw.out.mono ?_); rintro e w2 ⟨⟨v, rfl⟩, hO, hG⟩; have HO2 := Lib.hid hO; have HG2 := Lib.hid hG; clear hO hG))
      go_end0
      exact ⟨⟨_, rfl⟩, by rw [← HE.out]; simpa using HO2.out, HG1.out.trans HG2.out⟩
    · have t0 : ((i : Int) != (j : Int)) = true := by simp; omega
      have t0' : ¬ (i : Int) = (j : Int) := by omega
      by_cases hgt : j < i
      · have t1 : (j : Int) < (i : Int) := by omega
        have hsp : X' = X'.take j ++ X'.drop j := (List.take_append_drop j X').symm
        have l1 : (X'.take j).length = j := by rw [List.length_take]; have := HIJ.out.1; omega
        have l2 : (X'.drop j).length = i - j := by rw [List.length_drop, ← HIJ.out.1]
        obtain ⟨X1, hX1⟩ : ∃ X1, X1 = X'.take j := ⟨_, rfl⟩
        obtain ⟨X2, hX2⟩ : ∃ X2, X2 = X'.drop j := ⟨_, rfl⟩
        rw [← hX1, ← hX2] at hsp
        rw [← hX1] at l1
        rw [← hX2] at l2
        have HSw := Lib.hid (swap_range A n c base ((m : Int) - (i : Int)) (m : Int) (j : Int) P' X1 X2 Y' S' wr (by have := HO1.out; rw [hsp] at this; simpa using this) (by have := HP.out; omega) (by omega) (by have := HIJ.out; omega) (by have := HP.out; omega) hn)
        have HSP := Lib.hid hsp
        have HL1 := Lib.hid (And.intro l1 l2)
        clear hsp l1 l2 hX1 hX2 HO1
        go_wp2_with (go_at_call 49; ((with_reducible refine HSw.out.mono ?_); rintro e w2 ⟨⟨v, rfl⟩, hO, hG⟩; have HO2 := Lib.hid hO; have HG2 := Lib.hid hG; clear hO hG))
        go_roundw
        case rel => exact ⟨P' ++ Y', X2, X1, S', (fun e => by have := HL1.out.2; rw [e] at this; simp at this; omega), (fun e => by have := HL1.out.1; rw [e] at this; simp at this; omega), by have := HL1.out.2; congr 1; omega, by have := HL1.out.1; congr 1; omega, by have := HP.out; have := HL1.out; have := HIJ.out; rw [List.length_append]; omega, by have := HL1.out; omega, by simpa using HO2.out, by rw [← HE.out, HSP.out]; simp, HG1.out.trans HG2.out⟩
        case measure => simp [intOf]; omega
      · have t1 : ¬ (j : Int) < (i : Int) := by omega
        have hsp : Y' = Y'.take (j - i) ++ Y'.drop (j - i) := (List.take_append_drop _ Y').symm
        have l1 : (Y'.take (j - i)).length = j - i := by rw [List.length_take]; have := HIJ.out.2; omega
        have l2 : (Y'.drop (j - i)).length = i := by rw [List.length_drop, ← HIJ.out.2]; omega
        obtain ⟨Y1, hY1⟩ : ∃ Y1, Y1 = Y'.take (j - i) := ⟨_, rfl⟩
        obtain ⟨Y2, hY2⟩ : ∃ Y2, Y2 = Y'.drop (j - i) := ⟨_, rfl⟩
        rw [← hY1, ← hY2] at hsp
        rw [← hY1] at l1
        rw [← hY2] at l2
        have HSw := Lib.hid (swap_range A n c base ((m : Int) - (i : Int)) ((m : Int) + (j : Int) - (i : Int)) (i : Int) P' X' Y1 Y2 S' wr (by have := HO1.out; rw [hsp] at this; simpa using this) (by have := HP.out; omega) (by have := HIJ.out.1; omega) (by have := HIJ.out; omega) (by have := HP.out; have := HIJ.out; omega) hn)
        have HSP := Lib.hid hsp
        have HL1 := Lib.hid (And.intro l1 l2)
        clear hsp l1 l2 hY1 hY2 HO1
        go_wp2_with (go_at_call 49; ((with_reducible refine HSw.out.mono ?_); rintro e w2 ⟨⟨v, rfl⟩, hO, hG⟩; have HO2 := Lib.hid hO; have HG2 := Lib.hid hG; clear hO hG))
        go_roundw
        case rel => exact ⟨P', Y2, Y1, X' ++ S', (fun e => by have := HL1.out.2; rw [e] at this; simp at this; omega), (fun e => by have := HL1.out.1; rw [e] at this; simp at this; omega), by have := HL1.out.2; congr 1; omega, by have := HL1.out.1; congr 1; omega, by have := HP.out; have := HL1.out; have := HIJ.out; omega, by have := HL1.out; omega, by simpa using HO2.out, by rw [← HE.out, HSP.out]; simp, HG1.out.trans HG2.out⟩
        case measure => simp [intOf]; omega
end Go.Proofs.Ytemckkcbakccnaa
