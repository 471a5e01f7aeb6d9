/- The walk of rolodexref8.Put. -/
import Derived.Test.YtemckkcbakccnaaItemSl
import Derived.Test.YtemckkcbakccnaaClass
namespace Go.Proofs.Ytemckkcbakccnaa
open Go.RowKit
set_option linter.unusedVariables false
set_option maxRecDepth 100000 in
set_option maxHeartbeats 2000000 in
theorem ref_put (A : Option Addr) (n c : Nat) (l : List It) (x : It) (w : World) (h : Is w w.heap.size A n c l) (hn : n ≤ 1000000) :
    Calls Try.prog 33 #[.slice A n c, iv x] w fun e w' => ∃ A' n' c', e = .returned (.tuple #[.slice A' n' c', .bool (ItP.put l x).2]) ∧ Is w' w'.heap.size A' n' c' (ItP.put l x).1 ∧ ((ItP.put l x).2 = true → OwnI w' w.heap.size A' n' c' (ItP.put l x).1) ∧ Below w.heap.size w w' := by
  have hl := h.len
  have hm := h.le
  have hx := h.max
  unfold maxLen at hx
  obtain ⟨w1, hw1⟩ : ∃ w1, w1 = w.alloc (.cells #[.string ⟨x.key.toArray⟩, .int .u64 (x.seq : Int), .bool x.gone, .string ⟨x.val.toArray⟩] 29) := ⟨_, rfl⟩
  have HB1 := Lib.hid (show Below w.heap.size w w1 by rw [hw1]; exact (Below.refl _ _).alloc (Nat.le_refl _) _)
  have HX := Lib.hid (show w1.rangeAt w.heap.size 0 (itv x) by rw [hw1]; exact range_new w x _ _)
  have hs1 : w1.heap.size = w.heap.size + 1 := by rw [hw1]; simp
  have HS1 := Lib.hid hs1
  have HI := Lib.hid (show Is w1 w.heap.size A n c l from h.below HB1.out)
  have HW := Lib.hid hw1
  clear hw1 h hs1
  go_enter Try.func33, Try.ntmps33
  go_wp2_with fail
  rw [← HW.out]
  go_loopw [6] (fun i wy => ∃ k : Nat, k ≤ n ∧ i = .int .i64 (k : Int) ∧ (∀ y ∈ l.take k, ItP.ahead y x = true) ∧ Below w1.heap.size w1 wy) (fun i _ => n - (intOf i).toNat)
  case atStart => exact ⟨0, Nat.zero_le _, rfl, by simp, Below.refl _ _⟩
  case round =>
    obtain ⟨k, hk, rfl, hall, hB⟩ := hrel
    have HA := Lib.hid hall
    have HB := Lib.hid hB
    have HXg := Lib.hid (grew_cells0 HX.out HB.out (by rw [HS1.out]; omega) HB.out.size)
    clear hall hB
    have i0 : (0 : Int) ≤ (k : Int) := by omega
    by_cases hlt : k < n
    · obtain ⟨y, hy⟩ : ∃ y, l[k]? = some y := ⟨_, List.getElem?_eq_getElem (by omega)⟩
      obtain ⟨g1, o1, rfl, hb1, hr1⟩ := HI.out.at hy
      have HYg := Lib.hid (grew_cells hr1 HB.out (by rw [HS1.out]; omega) HB.out.size)
      have HY := Lib.hid hy
      have i1 : (k : Int) < (n : Int) := by omega
      clear hr1 hy
      by_cases ha : ItP.ahead y x = true
      · have HAY := Lib.hid ha
        have HRA : Hid (∀ W, Calls Try.prog 31 #[iv y, iv x] W fun e w'' => e = .returned (.bool true) ∧ Grew W w'') := Lib.hid fun W => by rw [← ha]; exact ref_ahead y x W
        clear ha
        go_upto_region 2 with fail
        have hqq := And.intro i1 (And.intro HXg.out HYg.out)
        refine wp_region_x [] (by kernel_rfl) (by kernel_rfl) (by kernel_rfl) ?_
        simp only [blank, List.foldl_nil]
        repeat (first
          | (refine wpX_value (v := ?_) rfl (by intros; simp) rfl rfl (fun x => ?_) ?_; rotate_left; (focus (simp [go_sem, hqq]; (try go_ints); first | done | (with_reducible rfl))); (simp only [Act.put, List.setIfInBounds_toArray, List.set_cons_succ, List.set_cons_zero]))
          | (refine wpX_call (.bool true) _ _ rfl (by intros; simp) rfl rfl (fun x => ?_) (fun W _ => HRA.out W) ?_; (focus (simp [go_sem]; done)); (simp only [Act.put, List.setIfInBounds_toArray, List.set_cons_succ, List.set_cons_zero])))
        (refine wpX_nil ?_; intro xb wx hxg xl; obtain ⟨xf, xe⟩ := LikeAll.end_ xl; clear xl; subst xe; simp only [fill, List.foldl_nil, Act.put])
        clear hqq
        go_wp2_with fail
        go_roundw
        case rel => exact ⟨k + 1, hlt, by go_num, (fun z hz => by
          rw [List.take_add_one, HY.out] at hz
          simp at hz
          rcases hz with hz | rfl
          · exact HA.out z hz
          · exact HAY.out), HB.out.trans (Below.mono hxg HB.out.size)⟩
        case measure => simp [intOf]; omega
      · have ha : ItP.ahead y x = false := by simpa using ha
        have HRA : Hid (∀ W, Calls Try.prog 31 #[iv y, iv x] W fun e w'' => e = .returned (.bool false) ∧ Grew W w'') := Lib.hid fun W => by rw [← ha]; exact ref_ahead y x W
        have HAT := Lib.hid (show ItP.at_ x l = k from ItP.at_of (by omega) HA.out (fun z hz => by rw [HY.out] at hz; cases hz; exact ha))
        clear ha
        go_upto_region 2 with fail
        have hqq := And.intro i1 (And.intro HXg.out HYg.out)
        refine wp_region_x [] (by kernel_rfl) (by kernel_rfl) (by kernel_rfl) ?_
        simp only [blank, List.foldl_nil]
        repeat (first
          | (refine wpX_value (v := ?_) rfl (by intros; simp) rfl rfl (fun x => ?_) ?_; rotate_left; (focus (simp [go_sem, hqq]; (try go_ints); first | done | (with_reducible rfl))); (simp only [Act.put, List.setIfInBounds_toArray, List.set_cons_succ, List.set_cons_zero]))
          | (refine wpX_call (.bool false) _ _ rfl (by intros; simp) rfl rfl (fun x => ?_) (fun W _ => HRA.out W) ?_; (focus (simp [go_sem]; done)); (simp only [Act.put, List.setIfInBounds_toArray, List.set_cons_succ, List.set_cons_zero])))
        (refine wpX_nil ?_; intro xb wx hxg xl; obtain ⟨xf, xe⟩ := LikeAll.end_ xl; clear xl; subst xe; simp only [fill, List.foldl_nil, Act.put])
        clear hqq
        have HBx := Lib.hid (HB.out.trans (Below.mono hxg HB.out.size))
        have HXg2 := Lib.hid (grew_cells0 HX.out HBx.out (by rw [HS1.out]; omega) HBx.out.size)
        have HYg2 := Lib.hid (grew_cells (HI.out.range HY.out) HBx.out (by rw [HS1.out]; omega) HBx.out.size)
        clear HXg HYg
        by_cases hb : ItP.ahead x y = true
        · have HRB : Hid (∀ W, Calls Try.prog 31 #[iv x, iv y] W fun e w'' => e = .returned (.bool true) ∧ Grew W w'') := Lib.hid fun W => by rw [← hb]; exact ref_ahead x y W
          have HP := Lib.hid (show ItP.put l x = (l.take k ++ x :: l.drop k, true) by
            unfold ItP.put
            rw [HAT.out]
            have hd : l.drop k = y :: l.drop (k + 1) := by rw [List.drop_eq_getElem_cons (by omega)]; congr 1; have := HY.out; rw [List.getElem?_eq_getElem (by omega)] at this; injection this
            rw [hd]
            simp [hb])
          clear hb
          go_upto_region 4 with fail
          have hqq := And.intro i1 (And.intro HXg2.out HYg2.out)
          refine wp_region_x [] (by kernel_rfl) (by kernel_rfl) (by kernel_rfl) ?_
          simp only [blank, List.foldl_nil]
          repeat (first
            | (refine wpX_value (v := ?_) rfl (by intros; simp) rfl rfl (fun x => ?_) ?_; rotate_left; (focus (simp [go_sem, hqq]; (try go_ints); first | done | (with_reducible rfl))); (simp only [Act.put, List.setIfInBounds_toArray, List.set_cons_succ, List.set_cons_zero]))
            | (refine wpX_call (.bool true) _ _ rfl (by intros; simp) rfl rfl (fun x => ?_) (fun W _ => HRB.out W) ?_; (focus (simp [go_sem]; done)); (simp only [Act.put, List.setIfInBounds_toArray, List.set_cons_succ, List.set_cons_zero]))
            | (refine wpX_skip rfl ?_; (simp only [Act.put, List.setIfInBounds_toArray, List.set_cons_succ, List.set_cons_zero])))
          (refine wpX_nil ?_; intro xb wx hxg xl; obtain ⟨xf, xe⟩ := LikeAll.end_ xl; clear xl; subst xe; simp only [fill, List.foldl_nil, Act.put])
          clear hqq
          have HBW := Lib.hid (HB1.out.trans ((HBx.out.trans (Below.mono hxg HBx.out.size)).mono (by rw [HS1.out]; omega)))
          have HB1Z := Lib.hid (HBx.out.trans (Below.mono hxg HBx.out.size))
          have HB1W := Lib.hid (HB1Z.out.mono (by rw [HS1.out]; omega) : Below w.heap.size w1 _)
          go_upto_region 6 with fail
          obtain ⟨wz, hwz⟩ : ∃ v, v = wx := ⟨_, rfl⟩
          rw [← hwz]
          have HBz := Lib.hid (show Below w.heap.size w wz by rw [hwz]; exact HBW.out)
          have hIz := (HI.out.below (show Below w.heap.size w1 wz by rw [hwz]; exact HB1W.out))
          have hszz : w.heap.size ≤ wz.heap.size := HBz.out.size
          have HI1 := Lib.hid ((hIz.to k (by omega)).more hszz)
          have HI2 := Lib.hid ((hIz.from_ k (by omega)).more hszz)
          have HXz := Lib.hid (grew_cells0 HX.out (show Below w1.heap.size w1 wz by rw [hwz]; exact HB1Z.out) (by rw [HS1.out]; omega) (show w1.heap.size ≤ wz.heap.size by rw [hwz]; exact HB1Z.out.size))
          have HXc := Lib.hid (fun x : { x : World // Grew wz x } => HXz.out ⟨x.1, x.2⟩)
          clear hwz hIz hszz HBW HB1W HB1Z
          refine wp_region_c (fun W => Grew wz W) (by kernel_rfl) (Grew.drewN wz 1) ?_
          have HC := Lib.hid (Grew.drewN wz 1)
          have hqq := HXc.out
          (refine wpAnyC_free 1 (oi := ⟨some 36, _, _, _, _, _⟩) (v := ?_) rfl (by kernel_rfl) (by kernel_rfl) (by kernel_rfl) HC.out rfl (fun x => ?_) ?_; rotate_left; (focus (simp [go_sem]; (try go_ints); first | done | (with_reducible rfl))); (simp only [Act.put, List.setIfInBounds_toArray, List.set_cons_succ, List.set_cons_zero]))
          (refine wpAnyC_free 2 (oi := ⟨some 37, _, _, _, _, _⟩) (v := ?_) rfl (by kernel_rfl) (by kernel_rfl) (by kernel_rfl) HC.out rfl (fun x => ?_) ?_; rotate_left; (focus (simp [go_sem]; (try go_ints); first | done | (with_reducible rfl))); (simp only [Act.put, List.setIfInBounds_toArray, List.set_cons_succ, List.set_cons_zero]))
          refine wpAnyC_free 3 (oi := ⟨some 38, _, _, _, _, _⟩) (.slice (some ⟨g1, o1, none⟩) k c) rfl (by kernel_rfl) (by kernel_rfl) (by kernel_rfl) HC.out rfl (fun W => exec_toI (.tmp 36) (.tmp 37) rfl rfl rfl (by omega) (by omega) (by unfold maxLen; omega) W.1) ?_
          (simp only [Act.put, List.setIfInBounds_toArray, List.set_cons_succ, List.set_cons_zero])
          (refine wpAnyC_free 5 (oi := ⟨some 40, _, _, _, _, _⟩) (v := ?_) rfl (by kernel_rfl) (by kernel_rfl) (by kernel_rfl) HC.out rfl (fun x => ?_) ?_; rotate_left; (focus (simp [go_sem, hqq]; (try go_ints); first | done | (with_reducible rfl))); (simp only [Act.put, List.setIfInBounds_toArray, List.set_cons_succ, List.set_cons_zero]))
          (refine wpAnyC_free 8 (oi := ⟨some 43, _, _, _, _, _⟩) (v := ?_) rfl (by kernel_rfl) (by kernel_rfl) (by kernel_rfl) HC.out rfl (fun x => ?_) ?_; rotate_left; (focus (simp [go_sem]; (try go_ints); first | done | (with_reducible rfl))); (simp only [Act.put, List.setIfInBounds_toArray, List.set_cons_succ, List.set_cons_zero]))
          (refine wpAnyC_free 9 (oi := ⟨some 44, _, _, _, _, _⟩) (v := ?_) rfl (by kernel_rfl) (by kernel_rfl) (by kernel_rfl) HC.out rfl (fun x => ?_) ?_; rotate_left; (focus (simp [go_sem]; (try go_ints); first | done | (with_reducible rfl))); (simp only [Act.put, List.setIfInBounds_toArray, List.set_cons_succ, List.set_cons_zero]))
          refine wpAnyC_free 10 (oi := ⟨some 45, _, _, _, _, _⟩) (.slice (cutI (some ⟨g1, o1, none⟩) k c) (n - k) (c - k)) rfl (by kernel_rfl) (by kernel_rfl) (by kernel_rfl) HC.out rfl (fun W => exec_fromI (.tmp 43) (.tmp 44) rfl rfl rfl (by omega) (by omega) (by unfold maxLen; omega) W.1) ?_
          (simp only [Act.put, List.setIfInBounds_toArray, List.set_cons_succ, List.set_cons_zero])
          clear hqq
          change wpAnyC _ _ _ _ _ _ _ _ (World.drewN wz 1)
          refine wpAnyC_fork 0 6 (oi := ⟨some 35, _, _, _, _, _⟩) (oj := ⟨some 41, _, _, _, _, _⟩) rfl rfl (by kernel_rfl) ?_ ?_
          · refine cOp_list 0 (o := ⟨some 35, _, _, _, _, _⟩) rfl rfl ?_
            refine wpList_build0 rfl rfl ?_
            have HOw2 := Lib.hid (OwnI.empty (wz.drewN 1) wz.heap.size HC.out.size)
            obtain ⟨w2, hw2⟩ : ∃ v, v = (wz.drewN 1).alloc (.cells #[] 29) := ⟨_, rfl⟩
            have hsw2 : w2.heap.size = (wz.drewN 1).heap.size + 1 := by rw [hw2]; simp
            have HCw2 := Lib.hid (show Grew wz w2 by rw [hw2]; exact HC.out.trans ((Below.refl _ _).alloc (Nat.le_refl _) _))
            rw [← hw2] at HOw2 ⊢
            (simp only [Act.put, List.setIfInBounds_toArray, List.set_cons_succ, List.set_cons_zero])
            refine wpList_nil ⟨rfl, HCw2.out, ?_⟩
            refine wpAnyC_fork 4 6 (oi := ⟨some 39, _, _, _, _, _⟩) (oj := ⟨some 41, _, _, _, _, _⟩) rfl rfl (by kernel_rfl) ?_ ?_
            · refine cOp_list 4 (o := ⟨some 39, _, _, _, _, _⟩) rfl rfl ?_
              refine wpList_appI rfl (.tmp 35) (.tmp 38) rfl wz.heap.size _ 0 0 [] rfl HOw2.out (some ⟨g1, o1, none⟩) k c wz.heap.size (l.take k) rfl HI1.out.len (Is.below HI1.out HCw2.out).row (by omega) HCw2.out.size ?_
              intro A4 cap4 w3 hO3 hg3 hB3 hor3
              have HC3 := Lib.hid (show Grew wz w3 from Below.trans HCw2.out hB3)
              have hO3' : OwnI w3 wz.heap.size A4 (0 + k) cap4 (l.take k) := by simpa using hO3
              (simp only [Act.put, List.setIfInBounds_toArray, List.set_cons_succ, List.set_cons_zero])
              refine wpList_nil ⟨rfl, HC3.out, ?_⟩
              refine wpAnyC_step 6 (o := ⟨some 41, _, _, _, _, _⟩) rfl (by kernel_rfl) rfl ?_
              refine wpList_build1 (.tmp 40) x rfl rfl rfl ?_
              obtain ⟨gx, hgx⟩ : ∃ v, v = w3.heap.size := ⟨_, rfl⟩
              have HX4 := Lib.hid (IRow.one w3 x 29 (0, 0))
              have HO4 := Lib.hid (hO3'.alloc (.cells #[.string ⟨x.key.toArray⟩, .int .u64 (x.seq : Int), .bool x.gone, .string ⟨x.val.toArray⟩] 29))
              have HC4 := Lib.hid (show Grew wz _ from HC3.out.trans ((Below.refl _ w3).alloc (Nat.le_refl _) (.cells #[.string ⟨x.key.toArray⟩, .int .u64 (x.seq : Int), .bool x.gone, .string ⟨x.val.toArray⟩] 29)))
              rw [← hgx] at HX4 ⊢
              clear hgx hO3 hg3 hB3 hor3 hO3'
              generalize w3.alloc (.cells #[.string ⟨x.key.toArray⟩, .int .u64 (x.seq : Int), .bool x.gone, .string ⟨x.val.toArray⟩] 29) = w4 at HX4 HO4 HC4 ⊢
              (simp only [Act.put, List.setIfInBounds_toArray, List.set_cons_succ, List.set_cons_zero])
              refine wpList_nil ⟨rfl, HC4.out, ?_⟩
              have HC := Lib.hid (show Grew wz w4 from HC4.out)
              refine wpAnyC_step 7 (o := ⟨some 42, _, _, _, _, _⟩) rfl (by kernel_rfl) rfl ?_
              refine wpList_appI rfl (.tmp 39) (.tmp 41) rfl wz.heap.size A4 _ cap4 (l.take k) rfl HO4.out (some ⟨gx, 0, none⟩) 1 1 (gx + 1) [x] rfl rfl HX4.out (by omega) HC4.out.size ?_
              intro A5 cap5 w5 hO5 hg5 hB5 hor5
              have HO5 := Lib.hid hO5
              have HC5 := Lib.hid (show Grew wz w5 from Below.trans HC4.out hB5)
              clear hO5 hg5 hB5 hor5
              (simp only [Act.put, List.setIfInBounds_toArray, List.set_cons_succ, List.set_cons_zero])
              refine wpList_nil ⟨rfl, HC5.out, ?_⟩
              refine wpAnyC_step 11 (o := ⟨some 46, _, _, _, _, _⟩) rfl (by kernel_rfl) rfl ?_
              refine wpList_appI rfl (.tmp 42) (.tmp 45) rfl wz.heap.size A5 _ cap5 (l.take k ++ [x]) rfl HO5.out (cutI (some ⟨g1, o1, none⟩) k c) (n - k) (c - k) wz.heap.size (l.drop k) rfl (by have := HI2.out.len; exact this) (Is.below HI2.out HC5.out).row (by omega) HC5.out.size ?_
              intro A6 cap6 w6 hO6 hg6 hB6 hor6
              have HO6 := Lib.hid hO6
              have HC6 := Lib.hid (show Grew wz w6 from Below.trans HC5.out hB6)
              clear hO6 hg6 hB6 hor6
              (simp only [Act.put, List.setIfInBounds_toArray, List.set_cons_succ, List.set_cons_zero])
              refine wpList_nil ⟨rfl, HC6.out, ?_⟩
              have HC := HC6
              (refine wpAnyC_free 12 (oi := ⟨some 4, _, _, _, _, _⟩) (v := ?_) rfl (by kernel_rfl) (by kernel_rfl) (by kernel_rfl) HC.out rfl (fun x => ?_) ?_; rotate_left; (focus (simp [go_sem]; (try go_ints); first | done | (with_reducible rfl))); (simp only [Act.put, List.setIfInBounds_toArray, List.set_cons_succ, List.set_cons_zero]))
              (refine wpAnyC_free 13 (oi := ⟨some 5, _, _, _, _, _⟩) (v := ?_) rfl (by kernel_rfl) (by kernel_rfl) (by kernel_rfl) HC.out rfl (fun x => ?_) ?_; rotate_left; (focus (simp [go_sem]; (try go_ints); first | done | (with_reducible rfl))); (simp only [Act.put, List.setIfInBounds_toArray, List.set_cons_succ, List.set_cons_zero]))
              refine wpAnyC_done (by kernel_rfl) (fun _ => ?_) _
              go_wp2_with fail
              go_ret2
              exact ⟨A6, _, cap6, by rw [HP.out]; rfl, by rw [HP.out]; have := HO6.out.is (Nat.le_refl _); simpa using this, fun _ => by rw [HP.out]; unfold OwnI; simpa using Own.lower HO6.out HBz.out.size, HBz.out.trans (Below.mono HC6.out HBz.out.size)⟩
            · refine cOp_list 6 (o := ⟨some 41, _, _, _, _, _⟩) rfl rfl ?_
              refine wpList_build1 (.tmp 40) x rfl rfl rfl ?_
              obtain ⟨gx, hgx⟩ : ∃ v, v = w2.heap.size := ⟨_, rfl⟩
              have HX3 := Lib.hid (IRow.one w2 x 29 (0, 0))
              have HO3 := Lib.hid (HOw2.out.alloc (.cells #[.string ⟨x.key.toArray⟩, .int .u64 (x.seq : Int), .bool x.gone, .string ⟨x.val.toArray⟩] 29))
              have HC3 := Lib.hid (show Grew wz _ from HCw2.out.trans ((Below.refl _ w2).alloc (Nat.le_refl _) (.cells #[.string ⟨x.key.toArray⟩, .int .u64 (x.seq : Int), .bool x.gone, .string ⟨x.val.toArray⟩] 29)))
              have hsz3 : (w2.alloc (.cells #[.string ⟨x.key.toArray⟩, .int .u64 (x.seq : Int), .bool x.gone, .string ⟨x.val.toArray⟩] 29)).heap.size = gx + 1 := by rw [hgx]; simp
              rw [← hgx] at HX3 ⊢
              have hne : gx ≠ wz.heap.size := by have := (HOw2.out.lt _ rfl); have h2 := hsw2; simp at h2; omega
              have hgs : gx = wz.heap.size + 1 := by have h2 := hsw2; simp at h2; omega
              generalize w2.alloc (.cells #[.string ⟨x.key.toArray⟩, .int .u64 (x.seq : Int), .bool x.gone, .string ⟨x.val.toArray⟩] 29) = w3 at HX3 HO3 HC3 hsz3 ⊢
              (simp only [Act.put, List.setIfInBounds_toArray, List.set_cons_succ, List.set_cons_zero])
              refine wpList_nil ⟨rfl, HC3.out, ?_⟩
              refine wpAnyC_step 4 (o := ⟨some 39, _, _, _, _, _⟩) rfl (by kernel_rfl) rfl ?_
              refine wpList_appI rfl (.tmp 35) (.tmp 38) rfl wz.heap.size _ 0 0 [] rfl HO3.out (some ⟨g1, o1, none⟩) k c wz.heap.size (l.take k) rfl HI1.out.len (Is.below HI1.out HC3.out).row (by omega) HC3.out.size ?_
              intro A4 cap4 w4 hO4 hg4 hB4 hor4
              have HC4 := Lib.hid (show Grew wz w4 from Below.trans HC3.out hB4)
              have HO4 := Lib.hid (show OwnI w4 wz.heap.size A4 (0 + k) cap4 (l.take k) by simpa using hO4)
              have HX4 := Lib.hid (show IRow w4 (gx + 1) (some ⟨gx, 0, none⟩) [x] from HX3.out.keep1 hg4 (by omega) (by simp [blk]; omega))
              clear hO4 hg4 hB4 hor4
              (simp only [Act.put, List.setIfInBounds_toArray, List.set_cons_succ, List.set_cons_zero])
              refine wpList_nil ⟨rfl, HC4.out, ?_⟩
              have HC := Lib.hid (show Grew wz w4 from HC4.out)
              refine wpAnyC_step 7 (o := ⟨some 42, _, _, _, _, _⟩) rfl (by kernel_rfl) rfl ?_
              refine wpList_appI rfl (.tmp 39) (.tmp 41) rfl wz.heap.size A4 _ cap4 (l.take k) rfl HO4.out (some ⟨gx, 0, none⟩) 1 1 (gx + 1) [x] rfl rfl HX4.out (by omega) HC4.out.size ?_
              intro A5 cap5 w5 hO5 hg5 hB5 hor5
              have HO5 := Lib.hid hO5
              have HC5 := Lib.hid (show Grew wz w5 from Below.trans HC4.out hB5)
              clear hO5 hg5 hB5 hor5
              (simp only [Act.put, List.setIfInBounds_toArray, List.set_cons_succ, List.set_cons_zero])
              refine wpList_nil ⟨rfl, HC5.out, ?_⟩
              refine wpAnyC_step 11 (o := ⟨some 46, _, _, _, _, _⟩) rfl (by kernel_rfl) rfl ?_
              refine wpList_appI rfl (.tmp 42) (.tmp 45) rfl wz.heap.size A5 _ cap5 (l.take k ++ [x]) rfl HO5.out (cutI (some ⟨g1, o1, none⟩) k c) (n - k) (c - k) wz.heap.size (l.drop k) rfl (by have := HI2.out.len; exact this) (Is.below HI2.out HC5.out).row (by omega) HC5.out.size ?_
              intro A6 cap6 w6 hO6 hg6 hB6 hor6
              have HO6 := Lib.hid hO6
              have HC6 := Lib.hid (show Grew wz w6 from Below.trans HC5.out hB6)
              clear hO6 hg6 hB6 hor6
              (simp only [Act.put, List.setIfInBounds_toArray, List.set_cons_succ, List.set_cons_zero])
              refine wpList_nil ⟨rfl, HC6.out, ?_⟩
              have HC := HC6
              (refine wpAnyC_free 12 (oi := ⟨some 4, _, _, _, _, _⟩) (v := ?_) rfl (by kernel_rfl) (by kernel_rfl) (by kernel_rfl) HC.out rfl (fun x => ?_) ?_; rotate_left; (focus (simp [go_sem]; (try go_ints); first | done | (with_reducible rfl))); (simp only [Act.put, List.setIfInBounds_toArray, List.set_cons_succ, List.set_cons_zero]))
              (refine wpAnyC_free 13 (oi := ⟨some 5, _, _, _, _, _⟩) (v := ?_) rfl (by kernel_rfl) (by kernel_rfl) (by kernel_rfl) HC.out rfl (fun x => ?_) ?_; rotate_left; (focus (simp [go_sem]; (try go_ints); first | done | (with_reducible rfl))); (simp only [Act.put, List.setIfInBounds_toArray, List.set_cons_succ, List.set_cons_zero]))
              refine wpAnyC_done (by kernel_rfl) (fun _ => ?_) _
              go_wp2_with fail
              go_ret2
              exact ⟨A6, _, cap6, by rw [HP.out]; rfl, by rw [HP.out]; have := HO6.out.is (Nat.le_refl _); simpa using this, fun _ => by rw [HP.out]; unfold OwnI; simpa using Own.lower HO6.out HBz.out.size, HBz.out.trans (Below.mono HC6.out HBz.out.size)⟩
          · refine cOp_list 6 (o := ⟨some 41, _, _, _, _, _⟩) rfl rfl ?_
            refine wpList_build1 (.tmp 40) x rfl rfl rfl ?_
            obtain ⟨gx, hgx⟩ : ∃ v, v = (wz.drewN 1).heap.size := ⟨_, rfl⟩
            have HX2 := Lib.hid (IRow.one (wz.drewN 1) x 29 (0, 0))
            have HC2 := Lib.hid (show Grew wz _ from HC.out.trans ((Below.refl _ (wz.drewN 1)).alloc (Nat.le_refl _) (.cells #[.string ⟨x.key.toArray⟩, .int .u64 (x.seq : Int), .bool x.gone, .string ⟨x.val.toArray⟩] 29)))
            have hsz2 : ((wz.drewN 1).alloc (.cells #[.string ⟨x.key.toArray⟩, .int .u64 (x.seq : Int), .bool x.gone, .string ⟨x.val.toArray⟩] 29)).heap.size = gx + 1 := by rw [hgx]; simp
            rw [← hgx] at HX2 ⊢
            generalize (wz.drewN 1).alloc (.cells #[.string ⟨x.key.toArray⟩, .int .u64 (x.seq : Int), .bool x.gone, .string ⟨x.val.toArray⟩] 29) = w2 at HX2 HC2 hsz2 ⊢
            (simp only [Act.put, List.setIfInBounds_toArray, List.set_cons_succ, List.set_cons_zero])
            refine wpList_nil ⟨rfl, HC2.out, ?_⟩
            have HC := HC2
            refine wpAnyC_step 0 (o := ⟨some 35, _, _, _, _, _⟩) rfl (by kernel_rfl) rfl ?_
            refine wpList_build0 rfl rfl ?_
            have HOw3 := Lib.hid (OwnI.empty w2 wz.heap.size HC.out.size)
            obtain ⟨w3, hw3⟩ : ∃ v, v = w2.alloc (.cells #[] 29) := ⟨_, rfl⟩
            have hsw3 : w3.heap.size = w2.heap.size + 1 := by rw [hw3]; simp
            have HCw3 := Lib.hid (show Grew wz w3 by rw [hw3]; exact HC.out.trans ((Below.refl _ _).alloc (Nat.le_refl _) _))
            rw [← hw3] at HOw3 ⊢
            have HX3 := Lib.hid (show IRow w3 (gx + 1) (some ⟨gx, 0, none⟩) [x] by rw [hw3]; exact Row.alloc HX2.out (by omega) _)
            (simp only [Act.put, List.setIfInBounds_toArray, List.set_cons_succ, List.set_cons_zero])
            refine wpList_nil ⟨rfl, HCw3.out, ?_⟩
            refine wpAnyC_step 4 (o := ⟨some 39, _, _, _, _, _⟩) rfl (by kernel_rfl) rfl ?_
            refine wpList_appI rfl (.tmp 35) (.tmp 38) rfl wz.heap.size _ 0 0 [] rfl HOw3.out (some ⟨g1, o1, none⟩) k c wz.heap.size (l.take k) rfl HI1.out.len (Is.below HI1.out HCw3.out).row (by omega) HCw3.out.size ?_
            intro A4 cap4 w4 hO4 hg4 hB4 hor4
            have HC4 := Lib.hid (show Grew wz w4 from Below.trans HCw3.out hB4)
            have HO4 := Lib.hid (show OwnI w4 wz.heap.size A4 (0 + k) cap4 (l.take k) by simpa using hO4)
            have HX4 := Lib.hid (show IRow w4 (gx + 1) (some ⟨gx, 0, none⟩) [x] from HX3.out.keep1 hg4 (by omega) (by simp [blk]; omega))
            clear hO4 hg4 hB4 hor4
            (simp only [Act.put, List.setIfInBounds_toArray, List.set_cons_succ, List.set_cons_zero])
            refine wpList_nil ⟨rfl, HC4.out, ?_⟩
            have HC := Lib.hid (show Grew wz w4 from HC4.out)
            refine wpAnyC_step 7 (o := ⟨some 42, _, _, _, _, _⟩) rfl (by kernel_rfl) rfl ?_
            refine wpList_appI rfl (.tmp 39) (.tmp 41) rfl wz.heap.size A4 _ cap4 (l.take k) rfl HO4.out (some ⟨gx, 0, none⟩) 1 1 (gx + 1) [x] rfl rfl HX4.out (by omega) HC4.out.size ?_
            intro A5 cap5 w5 hO5 hg5 hB5 hor5
            have HO5 := Lib.hid hO5
            have HC5 := Lib.hid (show Grew wz w5 from Below.trans HC4.out hB5)
            clear hO5 hg5 hB5 hor5
            (simp only [Act.put, List.setIfInBounds_toArray, List.set_cons_succ, List.set_cons_zero])
            refine wpList_nil ⟨rfl, HC5.out, ?_⟩
            refine wpAnyC_step 11 (o := ⟨some 46, _, _, _, _, _⟩) rfl (by kernel_rfl) rfl ?_
            refine wpList_appI rfl (.tmp 42) (.tmp 45) rfl wz.heap.size A5 _ cap5 (l.take k ++ [x]) rfl HO5.out (cutI (some ⟨g1, o1, none⟩) k c) (n - k) (c - k) wz.heap.size (l.drop k) rfl (by have := HI2.out.len; exact this) (Is.below HI2.out HC5.out).row (by omega) HC5.out.size ?_
            intro A6 cap6 w6 hO6 hg6 hB6 hor6
            have HO6 := Lib.hid hO6
            have HC6 := Lib.hid (show Grew wz w6 from Below.trans HC5.out hB6)
            clear hO6 hg6 hB6 hor6
            (simp only [Act.put, List.setIfInBounds_toArray, List.set_cons_succ, List.set_cons_zero])
            refine wpList_nil ⟨rfl, HC6.out, ?_⟩
            have HC := HC6
            (refine wpAnyC_free 12 (oi := ⟨some 4, _, _, _, _, _⟩) (v := ?_) rfl (by kernel_rfl) (by kernel_rfl) (by kernel_rfl) HC.out rfl (fun x => ?_) ?_; rotate_left; (focus (simp [go_sem]; (try go_ints); first | done | (with_reducible rfl))); (simp only [Act.put, List.setIfInBounds_toArray, List.set_cons_succ, List.set_cons_zero]))
            (refine wpAnyC_free 13 (oi := ⟨some 5, _, _, _, _, _⟩) (v := ?_) rfl (by kernel_rfl) (by kernel_rfl) (by kernel_rfl) HC.out rfl (fun x => ?_) ?_; rotate_left; (focus (simp [go_sem]; (try go_ints); first | done | (with_reducible rfl))); (simp only [Act.put, List.setIfInBounds_toArray, List.set_cons_succ, List.set_cons_zero]))
            refine wpAnyC_done (by kernel_rfl) (fun _ => ?_) _
            go_wp2_with fail
            go_ret2
            exact ⟨A6, _, cap6, by rw [HP.out]; rfl, by rw [HP.out]; have := HO6.out.is (Nat.le_refl _); simpa using this, fun _ => by rw [HP.out]; unfold OwnI; simpa using Own.lower HO6.out HBz.out.size, HBz.out.trans (Below.mono HC6.out HBz.out.size)⟩
        · have hb : ItP.ahead x y = false := by simpa using hb
          have HRB : Hid (∀ W, Calls Try.prog 31 #[iv x, iv y] W fun e w'' => e = .returned (.bool false) ∧ Grew W w'') := Lib.hid fun W => by rw [← hb]; exact ref_ahead x y W
          have HP := Lib.hid (show ItP.put l x = (l, false) by
            unfold ItP.put
            rw [HAT.out]
            have hd : l.drop k = y :: l.drop (k + 1) := by rw [List.drop_eq_getElem_cons (by omega)]; congr 1; have := HY.out; rw [List.getElem?_eq_getElem (by omega)] at this; injection this
            rw [hd]
            simp [hb])
          clear hb
          go_upto_region 4 with fail
          have hqq := And.intro i1 (And.intro HXg2.out HYg2.out)
          refine wp_region_x [] (by kernel_rfl) (by kernel_rfl) (by kernel_rfl) ?_
          simp only [blank, List.foldl_nil]
          repeat (first
            | (refine wpX_value (v := ?_) rfl (by intros; simp) rfl rfl (fun x => ?_) ?_; rotate_left; (focus (simp [go_sem, hqq]; (try go_ints); first | done | (with_reducible rfl))); (simp only [Act.put, List.setIfInBounds_toArray, List.set_cons_succ, List.set_cons_zero]))
            | (refine wpX_call (.bool false) _ _ rfl (by intros; simp) rfl rfl (fun x => ?_) (fun W _ => HRB.out W) ?_; (focus (simp [go_sem]; done)); (simp only [Act.put, List.setIfInBounds_toArray, List.set_cons_succ, List.set_cons_zero]))
            | (refine wpX_skip rfl ?_; (simp only [Act.put, List.setIfInBounds_toArray, List.set_cons_succ, List.set_cons_zero])))
          (refine wpX_nil ?_; intro xb wx hxg xl; obtain ⟨xf, xe⟩ := LikeAll.end_ xl; clear xl; subst xe; simp only [fill, List.foldl_nil, Act.put])
          clear hqq
          have HBW := Lib.hid (HB1.out.trans ((HBx.out.trans (Below.mono hxg HBx.out.size)).mono (by rw [HS1.out]; omega)))
          go_wp2_with fail
          go_ret2
          exact ⟨_, _, _, by rw [HP.out]; rfl, by rw [HP.out]; exact (HI.out.below ((HBx.out.trans (Below.mono hxg HBx.out.size)).mono (by rw [HS1.out]; omega))).more HBW.out.size, fun h => (by rw [HP.out] at h; cases h), HBW.out⟩
    · obtain rfl : k = n := by omega
      have HAT := Lib.hid (show ItP.at_ x l = k from ItP.at_of (by omega) HA.out (fun z hz => by rw [List.getElem?_eq_none (by omega)] at hz; cases hz))
      have HP := Lib.hid (show ItP.put l x = (l.take k ++ x :: l.drop k, true) by
        unfold ItP.put
        rw [HAT.out]
        have hd : l.drop k = [] := List.drop_of_length_le (by omega)
        rw [hd])
      have i1 : ¬ (k : Int) < (k : Int) := by omega
      go_upto_region 2 with fail
      have hqq := i1
      refine wp_region_x [] (by kernel_rfl) (by kernel_rfl) (by kernel_rfl) ?_
      simp only [blank, List.foldl_nil]
      repeat (first
        | (refine wpX_value (v := ?_) rfl (by intros; simp) rfl rfl (fun x => ?_) ?_; rotate_left; (focus (simp [go_sem, hqq]; (try go_ints); first | done | (with_reducible rfl))); (simp only [Act.put, List.setIfInBounds_toArray, List.set_cons_succ, List.set_cons_zero]))
        | (refine wpX_skip rfl ?_; (simp only [Act.put, List.setIfInBounds_toArray, List.set_cons_succ, List.set_cons_zero])))
      (refine wpX_nil ?_; intro xb wx hxg xl; obtain ⟨xf, xe⟩ := LikeAll.end_ xl; clear xl; subst xe; simp only [fill, List.foldl_nil, Act.put])
      clear hqq
      have HBx := Lib.hid (HB.out.trans (Below.mono hxg HB.out.size))
      go_upto_region 4 with fail
      have hqq := i1
      refine wp_region_x [] (by kernel_rfl) (by kernel_rfl) (by kernel_rfl) ?_
      simp only [blank, List.foldl_nil]
      repeat (first
        | (refine wpX_value (v := ?_) rfl (by intros; simp) rfl rfl (fun x => ?_) ?_; rotate_left; (focus (simp [go_sem, hqq]; (try go_ints); first | done | (with_reducible rfl))); (simp only [Act.put, List.setIfInBounds_toArray, List.set_cons_succ, List.set_cons_zero]))
        | (refine wpX_skip rfl ?_; (simp only [Act.put, List.setIfInBounds_toArray, List.set_cons_succ, List.set_cons_zero])))
      (refine wpX_nil ?_; intro xb wx hxg xl; obtain ⟨xf, xe⟩ := LikeAll.end_ xl; clear xl; subst xe; simp only [fill, List.foldl_nil, Act.put])
      clear hqq
      have HB1Z := Lib.hid (HBx.out.trans (Below.mono hxg HBx.out.size))
      have HBW := Lib.hid (HB1.out.trans (HB1Z.out.mono (by rw [HS1.out]; omega)))
      have HB1W := Lib.hid (HB1Z.out.mono (by rw [HS1.out]; omega) : Below w.heap.size w1 _)
      go_upto_region 6 with fail
      obtain ⟨wz, hwz⟩ : ∃ v, v = wx := ⟨_, rfl⟩
      rw [← hwz]
      have HBz := Lib.hid (show Below w.heap.size w wz by rw [hwz]; exact HBW.out)
      have hIz := (HI.out.below (show Below w.heap.size w1 wz by rw [hwz]; exact HB1W.out))
      have hszz : w.heap.size ≤ wz.heap.size := HBz.out.size
      have HI1 := Lib.hid ((hIz.to k (by omega)).more hszz)
      have HI2 := Lib.hid ((hIz.from_ k (by omega)).more hszz)
      have HXz := Lib.hid (grew_cells0 HX.out (show Below w1.heap.size w1 wz by rw [hwz]; exact HB1Z.out) (by rw [HS1.out]; omega) (show w1.heap.size ≤ wz.heap.size by rw [hwz]; exact HB1Z.out.size))
      have HXc := Lib.hid (fun x : { x : World // Grew wz x } => HXz.out ⟨x.1, x.2⟩)
      clear hwz hIz hszz HBW HB1W HB1Z
      refine wp_region_c (fun W => Grew wz W) (by kernel_rfl) (Grew.drewN wz 1) ?_
      have HC := Lib.hid (Grew.drewN wz 1)
      have hqq := HXc.out
      (refine wpAnyC_free 1 (oi := ⟨some 36, _, _, _, _, _⟩) (v := ?_) rfl (by kernel_rfl) (by kernel_rfl) (by kernel_rfl) HC.out rfl (fun x => ?_) ?_; rotate_left; (focus (simp [go_sem]; (try go_ints); first | done | (with_reducible rfl))); (simp only [Act.put, List.setIfInBounds_toArray, List.set_cons_succ, List.set_cons_zero]))
      (refine wpAnyC_free 2 (oi := ⟨some 37, _, _, _, _, _⟩) (v := ?_) rfl (by kernel_rfl) (by kernel_rfl) (by kernel_rfl) HC.out rfl (fun x => ?_) ?_; rotate_left; (focus (simp [go_sem]; (try go_ints); first | done | (with_reducible rfl))); (simp only [Act.put, List.setIfInBounds_toArray, List.set_cons_succ, List.set_cons_zero]))
      refine wpAnyC_free 3 (oi := ⟨some 38, _, _, _, _, _⟩) (.slice A k c) rfl (by kernel_rfl) (by kernel_rfl) (by kernel_rfl) HC.out rfl (fun W => exec_toI (.tmp 36) (.tmp 37) rfl rfl rfl (by omega) (by omega) (by unfold maxLen; omega) W.1) ?_
      (simp only [Act.put, List.setIfInBounds_toArray, List.set_cons_succ, List.set_cons_zero])
      (refine wpAnyC_free 5 (oi := ⟨some 40, _, _, _, _, _⟩) (v := ?_) rfl (by kernel_rfl) (by kernel_rfl) (by kernel_rfl) HC.out rfl (fun x => ?_) ?_; rotate_left; (focus (simp [go_sem, hqq]; (try go_ints); first | done | (with_reducible rfl))); (simp only [Act.put, List.setIfInBounds_toArray, List.set_cons_succ, List.set_cons_zero]))
      (refine wpAnyC_free 8 (oi := ⟨some 43, _, _, _, _, _⟩) (v := ?_) rfl (by kernel_rfl) (by kernel_rfl) (by kernel_rfl) HC.out rfl (fun x => ?_) ?_; rotate_left; (focus (simp [go_sem]; (try go_ints); first | done | (with_reducible rfl))); (simp only [Act.put, List.setIfInBounds_toArray, List.set_cons_succ, List.set_cons_zero]))
      (refine wpAnyC_free 9 (oi := ⟨some 44, _, _, _, _, _⟩) (v := ?_) rfl (by kernel_rfl) (by kernel_rfl) (by kernel_rfl) HC.out rfl (fun x => ?_) ?_; rotate_left; (focus (simp [go_sem]; (try go_ints); first | done | (with_reducible rfl))); (simp only [Act.put, List.setIfInBounds_toArray, List.set_cons_succ, List.set_cons_zero]))
      refine wpAnyC_free 10 (oi := ⟨some 45, _, _, _, _, _⟩) (.slice (cutI A k c) (k - k) (c - k)) rfl (by kernel_rfl) (by kernel_rfl) (by kernel_rfl) HC.out rfl (fun W => exec_fromI (.tmp 43) (.tmp 44) rfl rfl rfl (by omega) (by omega) (by unfold maxLen; omega) W.1) ?_
      (simp only [Act.put, List.setIfInBounds_toArray, List.set_cons_succ, List.set_cons_zero])
      clear hqq
      change wpAnyC _ _ _ _ _ _ _ _ (World.drewN wz 1)
      refine wpAnyC_fork 0 6 (oi := ⟨some 35, _, _, _, _, _⟩) (oj := ⟨some 41, _, _, _, _, _⟩) rfl rfl (by kernel_rfl) ?_ ?_
      · refine cOp_list 0 (o := ⟨some 35, _, _, _, _, _⟩) rfl rfl ?_
        refine wpList_build0 rfl rfl ?_
        have HOw2 := Lib.hid (OwnI.empty (wz.drewN 1) wz.heap.size HC.out.size)
        obtain ⟨w2, hw2⟩ : ∃ v, v = (wz.drewN 1).alloc (.cells #[] 29) := ⟨_, rfl⟩
        have hsw2 : w2.heap.size = (wz.drewN 1).heap.size + 1 := by rw [hw2]; simp
        have HCw2 := Lib.hid (show Grew wz w2 by rw [hw2]; exact HC.out.trans ((Below.refl _ _).alloc (Nat.le_refl _) _))
        rw [← hw2] at HOw2 ⊢
        (simp only [Act.put, List.setIfInBounds_toArray, List.set_cons_succ, List.set_cons_zero])
        refine wpList_nil ⟨rfl, HCw2.out, ?_⟩
        refine wpAnyC_fork 4 6 (oi := ⟨some 39, _, _, _, _, _⟩) (oj := ⟨some 41, _, _, _, _, _⟩) rfl rfl (by kernel_rfl) ?_ ?_
        · refine cOp_list 4 (o := ⟨some 39, _, _, _, _, _⟩) rfl rfl ?_
          refine wpList_appI rfl (.tmp 35) (.tmp 38) rfl wz.heap.size _ 0 0 [] rfl HOw2.out A k c wz.heap.size (l.take k) rfl HI1.out.len (Is.below HI1.out HCw2.out).row (by omega) HCw2.out.size ?_
          intro A4 cap4 w3 hO3 hg3 hB3 hor3
          have HC3 := Lib.hid (show Grew wz w3 from Below.trans HCw2.out hB3)
          have hO3' : OwnI w3 wz.heap.size A4 (0 + k) cap4 (l.take k) := by simpa using hO3
          (simp only [Act.put, List.setIfInBounds_toArray, List.set_cons_succ, List.set_cons_zero])
          refine wpList_nil ⟨rfl, HC3.out, ?_⟩
          refine wpAnyC_step 6 (o := ⟨some 41, _, _, _, _, _⟩) rfl (by kernel_rfl) rfl ?_
          refine wpList_build1 (.tmp 40) x rfl rfl rfl ?_
          obtain ⟨gx, hgx⟩ : ∃ v, v = w3.heap.size := ⟨_, rfl⟩
          have HX4 := Lib.hid (IRow.one w3 x 29 (0, 0))
          have HO4 := Lib.hid (hO3'.alloc (.cells #[.string ⟨x.key.toArray⟩, .int .u64 (x.seq : Int), .bool x.gone, .string ⟨x.val.toArray⟩] 29))
          have HC4 := Lib.hid (show Grew wz _ from HC3.out.trans ((Below.refl _ w3).alloc (Nat.le_refl _) (.cells #[.string ⟨x.key.toArray⟩, .int .u64 (x.seq : Int), .bool x.gone, .string ⟨x.val.toArray⟩] 29)))
          rw [← hgx] at HX4 ⊢
          clear hgx hO3 hg3 hB3 hor3 hO3'
          generalize w3.alloc (.cells #[.string ⟨x.key.toArray⟩, .int .u64 (x.seq : Int), .bool x.gone, .string ⟨x.val.toArray⟩] 29) = w4 at HX4 HO4 HC4 ⊢
          (simp only [Act.put, List.setIfInBounds_toArray, List.set_cons_succ, List.set_cons_zero])
          refine wpList_nil ⟨rfl, HC4.out, ?_⟩
          have HC := Lib.hid (show Grew wz w4 from HC4.out)
          refine wpAnyC_step 7 (o := ⟨some 42, _, _, _, _, _⟩) rfl (by kernel_rfl) rfl ?_
          refine wpList_appI rfl (.tmp 39) (.tmp 41) rfl wz.heap.size A4 _ cap4 (l.take k) rfl HO4.out (some ⟨gx, 0, none⟩) 1 1 (gx + 1) [x] rfl rfl HX4.out (by omega) HC4.out.size ?_
          intro A5 cap5 w5 hO5 hg5 hB5 hor5
          have HO5 := Lib.hid hO5
          have HC5 := Lib.hid (show Grew wz w5 from Below.trans HC4.out hB5)
          clear hO5 hg5 hB5 hor5
          (simp only [Act.put, List.setIfInBounds_toArray, List.set_cons_succ, List.set_cons_zero])
          refine wpList_nil ⟨rfl, HC5.out, ?_⟩
          refine wpAnyC_step 11 (o := ⟨some 46, _, _, _, _, _⟩) rfl (by kernel_rfl) rfl ?_
          refine wpList_appI rfl (.tmp 42) (.tmp 45) rfl wz.heap.size A5 _ cap5 (l.take k ++ [x]) rfl HO5.out (cutI A k c) (k - k) (c - k) wz.heap.size (l.drop k) rfl (by have := HI2.out.len; exact this) (Is.below HI2.out HC5.out).row (by omega) HC5.out.size ?_
          intro A6 cap6 w6 hO6 hg6 hB6 hor6
          have HO6 := Lib.hid hO6
          have HC6 := Lib.hid (show Grew wz w6 from Below.trans HC5.out hB6)
          clear hO6 hg6 hB6 hor6
          (simp only [Act.put, List.setIfInBounds_toArray, List.set_cons_succ, List.set_cons_zero])
          refine wpList_nil ⟨rfl, HC6.out, ?_⟩
          have HC := HC6
          (refine wpAnyC_free 12 (oi := ⟨some 4, _, _, _, _, _⟩) (v := ?_) rfl (by kernel_rfl) (by kernel_rfl) (by kernel_rfl) HC.out rfl (fun x => ?_) ?_; rotate_left; (focus (simp [go_sem]; (try go_ints); first | done | (with_reducible rfl))); (simp only [Act.put, List.setIfInBounds_toArray, List.set_cons_succ, List.set_cons_zero]))
          (refine wpAnyC_free 13 (oi := ⟨some 5, _, _, _, _, _⟩) (v := ?_) rfl (by kernel_rfl) (by kernel_rfl) (by kernel_rfl) HC.out rfl (fun x => ?_) ?_; rotate_left; (focus (simp [go_sem]; (try go_ints); first | done | (with_reducible rfl))); (simp only [Act.put, List.setIfInBounds_toArray, List.set_cons_succ, List.set_cons_zero]))
          refine wpAnyC_done (by kernel_rfl) (fun _ => ?_) _
          go_wp2_with fail
          go_ret2
          exact ⟨A6, _, cap6, by rw [HP.out]; rfl, by rw [HP.out]; have := HO6.out.is (Nat.le_refl _); simpa using this, fun _ => by rw [HP.out]; unfold OwnI; simpa using Own.lower HO6.out HBz.out.size, HBz.out.trans (Below.mono HC6.out HBz.out.size)⟩
        · refine cOp_list 6 (o := ⟨some 41, _, _, _, _, _⟩) rfl rfl ?_
          refine wpList_build1 (.tmp 40) x rfl rfl rfl ?_
          obtain ⟨gx, hgx⟩ : ∃ v, v = w2.heap.size := ⟨_, rfl⟩
          have HX3 := Lib.hid (IRow.one w2 x 29 (0, 0))
          have HO3 := Lib.hid (HOw2.out.alloc (.cells #[.string ⟨x.key.toArray⟩, .int .u64 (x.seq : Int), .bool x.gone, .string ⟨x.val.toArray⟩] 29))
          have HC3 := Lib.hid (show Grew wz _ from HCw2.out.trans ((Below.refl _ w2).alloc (Nat.le_refl _) (.cells #[.string ⟨x.key.toArray⟩, .int .u64 (x.seq : Int), .bool x.gone, .string ⟨x.val.toArray⟩] 29)))
          have hsz3 : (w2.alloc (.cells #[.string ⟨x.key.toArray⟩, .int .u64 (x.seq : Int), .bool x.gone, .string ⟨x.val.toArray⟩] 29)).heap.size = gx + 1 := by rw [hgx]; simp
          rw [← hgx] at HX3 ⊢
          have hne : gx ≠ wz.heap.size := by have := (HOw2.out.lt _ rfl); have h2 := hsw2; simp at h2; omega
          have hgs : gx = wz.heap.size + 1 := by have h2 := hsw2; simp at h2; omega
          generalize w2.alloc (.cells #[.string ⟨x.key.toArray⟩, .int .u64 (x.seq : Int), .bool x.gone, .string ⟨x.val.toArray⟩] 29) = w3 at HX3 HO3 HC3 hsz3 ⊢
          (simp only [Act.put, List.setIfInBounds_toArray, List.set_cons_succ, List.set_cons_zero])
          refine wpList_nil ⟨rfl, HC3.out, ?_⟩
          refine wpAnyC_step 4 (o := ⟨some 39, _, _, _, _, _⟩) rfl (by kernel_rfl) rfl ?_
          refine wpList_appI rfl (.tmp 35) (.tmp 38) rfl wz.heap.size _ 0 0 [] rfl HO3.out A k c wz.heap.size (l.take k) rfl HI1.out.len (Is.below HI1.out HC3.out).row (by omega) HC3.out.size ?_
          intro A4 cap4 w4 hO4 hg4 hB4 hor4
          have HC4 := Lib.hid (show Grew wz w4 from Below.trans HC3.out hB4)
          have HO4 := Lib.hid (show OwnI w4 wz.heap.size A4 (0 + k) cap4 (l.take k) by simpa using hO4)
          have HX4 := Lib.hid (show IRow w4 (gx + 1) (some ⟨gx, 0, none⟩) [x] from HX3.out.keep1 hg4 (by omega) (by simp [blk]; omega))
          clear hO4 hg4 hB4 hor4
          (simp only [Act.put, List.setIfInBounds_toArray, List.set_cons_succ, List.set_cons_zero])
          refine wpList_nil ⟨rfl, HC4.out, ?_⟩
          have HC := Lib.hid (show Grew wz w4 from HC4.out)
          refine wpAnyC_step 7 (o := ⟨some 42, _, _, _, _, _⟩) rfl (by kernel_rfl) rfl ?_
          refine wpList_appI rfl (.tmp 39) (.tmp 41) rfl wz.heap.size A4 _ cap4 (l.take k) rfl HO4.out (some ⟨gx, 0, none⟩) 1 1 (gx + 1) [x] rfl rfl HX4.out (by omega) HC4.out.size ?_
          intro A5 cap5 w5 hO5 hg5 hB5 hor5
          have HO5 := Lib.hid hO5
          have HC5 := Lib.hid (show Grew wz w5 from Below.trans HC4.out hB5)
          clear hO5 hg5 hB5 hor5
          (simp only [Act.put, List.setIfInBounds_toArray, List.set_cons_succ, List.set_cons_zero])
          refine wpList_nil ⟨rfl, HC5.out, ?_⟩
          refine wpAnyC_step 11 (o := ⟨some 46, _, _, _, _, _⟩) rfl (by kernel_rfl) rfl ?_
          refine wpList_appI rfl (.tmp 42) (.tmp 45) rfl wz.heap.size A5 _ cap5 (l.take k ++ [x]) rfl HO5.out (cutI A k c) (k - k) (c - k) wz.heap.size (l.drop k) rfl (by have := HI2.out.len; exact this) (Is.below HI2.out HC5.out).row (by omega) HC5.out.size ?_
          intro A6 cap6 w6 hO6 hg6 hB6 hor6
          have HO6 := Lib.hid hO6
          have HC6 := Lib.hid (show Grew wz w6 from Below.trans HC5.out hB6)
          clear hO6 hg6 hB6 hor6
          (simp only [Act.put, List.setIfInBounds_toArray, List.set_cons_succ, List.set_cons_zero])
          refine wpList_nil ⟨rfl, HC6.out, ?_⟩
          have HC := HC6
          (refine wpAnyC_free 12 (oi := ⟨some 4, _, _, _, _, _⟩) (v := ?_) rfl (by kernel_rfl) (by kernel_rfl) (by kernel_rfl) HC.out rfl (fun x => ?_) ?_; rotate_left; (focus (simp [go_sem]; (try go_ints); first | done | (with_reducible rfl))); (simp only [Act.put, List.setIfInBounds_toArray, List.set_cons_succ, List.set_cons_zero]))
          (refine wpAnyC_free 13 (oi := ⟨some 5, _, _, _, _, _⟩) (v := ?_) rfl (by kernel_rfl) (by kernel_rfl) (by kernel_rfl) HC.out rfl (fun x => ?_) ?_; rotate_left; (focus (simp [go_sem]; (try go_ints); first | done | (with_reducible rfl))); (simp only [Act.put, List.setIfInBounds_toArray, List.set_cons_succ, List.set_cons_zero]))
          refine wpAnyC_done (by kernel_rfl) (fun _ => ?_) _
          go_wp2_with fail
          go_ret2
          exact ⟨A6, _, cap6, by rw [HP.out]; rfl, by rw [HP.out]; have := HO6.out.is (Nat.le_refl _); simpa using this, fun _ => by rw [HP.out]; unfold OwnI; simpa using Own.lower HO6.out HBz.out.size, HBz.out.trans (Below.mono HC6.out HBz.out.size)⟩
      · refine cOp_list 6 (o := ⟨some 41, _, _, _, _, _⟩) rfl rfl ?_
        refine wpList_build1 (.tmp 40) x rfl rfl rfl ?_
        obtain ⟨gx, hgx⟩ : ∃ v, v = (wz.drewN 1).heap.size := ⟨_, rfl⟩
        have HX2 := Lib.hid (IRow.one (wz.drewN 1) x 29 (0, 0))
        have HC2 := Lib.hid (show Grew wz _ from HC.out.trans ((Below.refl _ (wz.drewN 1)).alloc (Nat.le_refl _) (.cells #[.string ⟨x.key.toArray⟩, .int .u64 (x.seq : Int), .bool x.gone, .string ⟨x.val.toArray⟩] 29)))
        have hsz2 : ((wz.drewN 1).alloc (.cells #[.string ⟨x.key.toArray⟩, .int .u64 (x.seq : Int), .bool x.gone, .string ⟨x.val.toArray⟩] 29)).heap.size = gx + 1 := by rw [hgx]; simp
        rw [← hgx] at HX2 ⊢
        generalize (wz.drewN 1).alloc (.cells #[.string ⟨x.key.toArray⟩, .int .u64 (x.seq : Int), .bool x.gone, .string ⟨x.val.toArray⟩] 29) = w2 at HX2 HC2 hsz2 ⊢
        (simp only [Act.put, List.setIfInBounds_toArray, List.set_cons_succ, List.set_cons_zero])
        refine wpList_nil ⟨rfl, HC2.out, ?_⟩
        have HC := HC2
        refine wpAnyC_step 0 (o := ⟨some 35, _, _, _, _, _⟩) rfl (by kernel_rfl) rfl ?_
        refine wpList_build0 rfl rfl ?_
        have HOw3 := Lib.hid (OwnI.empty w2 wz.heap.size HC.out.size)
        obtain ⟨w3, hw3⟩ : ∃ v, v = w2.alloc (.cells #[] 29) := ⟨_, rfl⟩
        have hsw3 : w3.heap.size = w2.heap.size + 1 := by rw [hw3]; simp
        have HCw3 := Lib.hid (show Grew wz w3 by rw [hw3]; exact HC.out.trans ((Below.refl _ _).alloc (Nat.le_refl _) _))
        rw [← hw3] at HOw3 ⊢
        have HX3 := Lib.hid (show IRow w3 (gx + 1) (some ⟨gx, 0, none⟩) [x] by rw [hw3]; exact Row.alloc HX2.out (by omega) _)
        (simp only [Act.put, List.setIfInBounds_toArray, List.set_cons_succ, List.set_cons_zero])
        refine wpList_nil ⟨rfl, HCw3.out, ?_⟩
        refine wpAnyC_step 4 (o := ⟨some 39, _, _, _, _, _⟩) rfl (by kernel_rfl) rfl ?_
        refine wpList_appI rfl (.tmp 35) (.tmp 38) rfl wz.heap.size _ 0 0 [] rfl HOw3.out A k c wz.heap.size (l.take k) rfl HI1.out.len (Is.below HI1.out HCw3.out).row (by omega) HCw3.out.size ?_
        intro A4 cap4 w4 hO4 hg4 hB4 hor4
        have HC4 := Lib.hid (show Grew wz w4 from Below.trans HCw3.out hB4)
        have HO4 := Lib.hid (show OwnI w4 wz.heap.size A4 (0 + k) cap4 (l.take k) by simpa using hO4)
        have HX4 := Lib.hid (show IRow w4 (gx + 1) (some ⟨gx, 0, none⟩) [x] from HX3.out.keep1 hg4 (by omega) (by simp [blk]; omega))
        clear hO4 hg4 hB4 hor4
        (simp only [Act.put, List.setIfInBounds_toArray, List.set_cons_succ, List.set_cons_zero])
        refine wpList_nil ⟨rfl, HC4.out, ?_⟩
        have HC := Lib.hid (show Grew wz w4 from HC4.out)
        refine wpAnyC_step 7 (o := ⟨some 42, _, _, _, _, _⟩) rfl (by kernel_rfl) rfl ?_
        refine wpList_appI rfl (.tmp 39) (.tmp 41) rfl wz.heap.size A4 _ cap4 (l.take k) rfl HO4.out (some ⟨gx, 0, none⟩) 1 1 (gx + 1) [x] rfl rfl HX4.out (by omega) HC4.out.size ?_
        intro A5 cap5 w5 hO5 hg5 hB5 hor5
        have HO5 := Lib.hid hO5
        have HC5 := Lib.hid (show Grew wz w5 from Below.trans HC4.out hB5)
        clear hO5 hg5 hB5 hor5
        (simp only [Act.put, List.setIfInBounds_toArray, List.set_cons_succ, List.set_cons_zero])
        refine wpList_nil ⟨rfl, HC5.out, ?_⟩
        refine wpAnyC_step 11 (o := ⟨some 46, _, _, _, _, _⟩) rfl (by kernel_rfl) rfl ?_
        refine wpList_appI rfl (.tmp 42) (.tmp 45) rfl wz.heap.size A5 _ cap5 (l.take k ++ [x]) rfl HO5.out (cutI A k c) (k - k) (c - k) wz.heap.size (l.drop k) rfl (by have := HI2.out.len; exact this) (Is.below HI2.out HC5.out).row (by omega) HC5.out.size ?_
        intro A6 cap6 w6 hO6 hg6 hB6 hor6
        have HO6 := Lib.hid hO6
        have HC6 := Lib.hid (show Grew wz w6 from Below.trans HC5.out hB6)
        clear hO6 hg6 hB6 hor6
        (simp only [Act.put, List.setIfInBounds_toArray, List.set_cons_succ, List.set_cons_zero])
        refine wpList_nil ⟨rfl, HC6.out, ?_⟩
        have HC := HC6
        (refine wpAnyC_free 12 (oi := ⟨some 4, _, _, _, _, _⟩) (v := ?_) rfl (by kernel_rfl) (by kernel_rfl) (by kernel_rfl) HC.out rfl (fun x => ?_) ?_; rotate_left; (focus (simp [go_sem]; (try go_ints); first | done | (with_reducible rfl))); (simp only [Act.put, List.setIfInBounds_toArray, List.set_cons_succ, List.set_cons_zero]))
        (refine wpAnyC_free 13 (oi := ⟨some 5, _, _, _, _, _⟩) (v := ?_) rfl (by kernel_rfl) (by kernel_rfl) (by kernel_rfl) HC.out rfl (fun x => ?_) ?_; rotate_left; (focus (simp [go_sem]; (try go_ints); first | done | (with_reducible rfl))); (simp only [Act.put, List.setIfInBounds_toArray, List.set_cons_succ, List.set_cons_zero]))
        refine wpAnyC_done (by kernel_rfl) (fun _ => ?_) _
        go_wp2_with fail
        go_ret2
        exact ⟨A6, _, cap6, by rw [HP.out]; rfl, by rw [HP.out]; have := HO6.out.is (Nat.le_refl _); simpa using this, fun _ => by rw [HP.out]; unfold OwnI; simpa using Own.lower HO6.out HBz.out.size, HBz.out.trans (Below.mono HC6.out HBz.out.size)⟩
end Go.Proofs.Ytemckkcbakccnaa
