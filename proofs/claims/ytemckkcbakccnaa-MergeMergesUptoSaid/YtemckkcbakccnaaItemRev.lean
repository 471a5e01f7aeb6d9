/- The walk of slices.Reverse of items. -/
import Derived.Test.YtemckkcbakccnaaRangeB
import Derived.Test.YtemckkcbakccnaaClass
namespace Go.Proofs.Ytemckkcbakccnaa
open Go.RowKit
set_option linter.unusedVariables false
theorem itvs_set : ∀ (l : List It) (k : Nat) (v : It), k < l.length → ((((itvs l).set (k * 4) (sv v.key)).set (k * 4 + 1) (.int .u64 (v.seq : Int))).set (k * 4 + 2) (.bool v.gone)).set (k * 4 + 3) (sv v.val) = itvs (l.set k v)
  | [], _, _, h => by simp at h
  | x :: r, 0, v, _ => by
    rw [itvs_cons, List.set_cons_zero, itvs_cons]
    simp [itv]
  | x :: r, k + 1, v, h => by
    have ih := itvs_set r k v (by simpa using h)
    rw [itvs_cons, List.set_cons_succ, itvs_cons, ← ih]
    have e : ∀ (xs : List Value) (j : Nat) (u : Value), (itv x ++ xs).set (4 + j) u = itv x ++ xs.set j u := fun xs j u => by
      rw [List.set_append_right _ _ (by rw [itv_len]; omega), itv_len]
      congr 2
      omega
    rw [show (k + 1) * 4 = 4 + k * 4 by omega, show 4 + k * 4 + 1 = 4 + (k * 4 + 1) by omega, show 4 + k * 4 + 2 = 4 + (k * 4 + 2) by omega, show 4 + k * 4 + 3 = 4 + (k * 4 + 3) by omega, e, e, e, e]
section
variable {w : World} {base g o n c k : Nat} {l : List It}
theorem OwnI.there (h : OwnI w base (some ⟨g, o, none⟩) n c l) (hk : k < n) : w.there g (o + k * 4) 4 := fun j hj => by
  have hl := Own.len h
  have hcap := h.le.1
  rcases h.2.2.2 with ⟨h0, _⟩ | ⟨g', o', cur, fr, ha, hb, hh, hs, hf, hc⟩
  · cases h0
  · simp only [Option.some.injEq, Addr.mk.injEq] at ha
    obtain ⟨rfl, rfl, _⟩ := ha
    obtain ⟨v, hv⟩ : ∃ v, (itvs l)[k * 4 + j]? = some v := ⟨_, List.getElem?_eq_getElem (by omega)⟩
    refine ⟨?_, ?_⟩
    · rw [Nat.add_assoc, cell_blk hh, hc _ _ hv]
      rfl
    · rw [Nat.add_assoc]
      exact hf _ (by omega)
theorem OwnI.setI (h : OwnI w base (some ⟨g, o, none⟩) n c l) (hk : k < n) (v : It) : OwnI (w.setCells g (o + k * 4) (itv v)) base (some ⟨g, o, none⟩) n c (l.set k v) := by
  have hl := h.len
  unfold OwnI
  rw [← itvs_set l k v (by omega)]
  have h1 := Own.set h (j := k * 4) (by omega) (sv v.key)
  have h2 := Own.set h1 (j := k * 4 + 1) (by omega) (.int .u64 (v.seq : Int))
  have h3 := Own.set h2 (j := k * 4 + 2) (by omega) (.bool v.gone)
  have h4 := Own.set h3 (j := k * 4 + 3) (by omega) (sv v.val)
  exact h4
theorem OwnI.range (h : OwnI w base (some ⟨g, o, none⟩) n c l) {x : It} (hx : l[k]? = some x) : w.rangeAt g (o + k * 4) (itv x) := (h.is (Nat.le_refl _)).range hx
end
/-- l, its first k and its last k turned -/
def Turned (l cur : List It) (k : Nat) : Prop := cur.length = l.length ∧ ∀ i, i < l.length → cur[i]? = if i < k ∨ l.length ≤ i + k then l[l.length - 1 - i]? else l[i]?
theorem turned_zero (l : List It) : Turned l l 0 := ⟨rfl, fun i hi => by rw [if_neg (by omega)]⟩
theorem turned_end {l cur : List It} {k : Nat} (h : Turned l cur k) (hk : l.length ≤ 2 * k + 1) : cur = l.reverse := by
  refine List.ext_getElem? fun i => ?_
  by_cases hi : i < l.length
  · rw [h.2 i hi, List.getElem?_reverse hi]
    split
    · rfl
    · congr 1; omega
  · rw [List.getElem?_eq_none (by rw [h.1]; omega), List.getElem?_eq_none (by rw [List.length_reverse]; omega)]
theorem turned_step {l cur : List It} {k j : Nat} (h : Turned l cur k) (hj : j + k + 1 = l.length) (hlt : k < j) {x y : It} (hx : cur[k]? = some x) (hy : cur[j]? = some y) : Turned l ((cur.set k y).set j x) (k + 1) := by
  refine ⟨by simp [h.1], fun i hi => ?_⟩
  have hkl := h.1
  rw [List.getElem?_set, List.getElem?_set]
  have e1 := h.2 k (by omega)
  have e2 := h.2 j (by omega)
  rw [if_neg (by omega)] at e1 e2
  by_cases h1 : j = i
  · subst h1
    rw [if_pos rfl, if_pos (by rw [List.length_set]; omega), if_pos (by omega), ← hx, e1]
    congr 1; omega
  · rw [if_neg h1]
    by_cases h2 : k = i
    · subst h2
      rw [if_pos rfl, if_pos (by omega), if_pos (by omega), ← hy, e2]
      congr 1; omega
    · rw [if_neg h2, h.2 i hi]
      by_cases h3 : i < k ∨ l.length ≤ i + k
      · rw [if_pos h3, if_pos (by omega)]
      · rw [if_neg h3, if_neg (by omega)]
set_option maxRecDepth 100000 in
set_option maxHeartbeats 2000000 in
theorem rev_items (A : Option Addr) (n c base : Nat) (l : List It) (w : World) (h : OwnI w base A n c l) (hn : n ≤ 1000000) :
    Calls Try.prog 30 #[.slice A n c] w fun e w' => (∃ v, e = .returned v) ∧ OwnI w' base A n c l.reverse ∧ w.grownBy w' (blk A) := by
  have hl := h.len
  have hm := h.le
  unfold maxLen at hm
  have HO := Lib.hid h
  clear h
  go_enter Try.func30, Try.ntmps30
  go_wp2_with fail
  go_loopw [2, 3] (fun i j wy => ∃ (k : Nat) (z : Int) (cur : List It), i = .int .i64 (k : Int) ∧ j = .int .i64 z ∧ z + (k : Int) + 1 = (n : Int) ∧ 2 * k ≤ n ∧ OwnI wy base A n c cur ∧ Turned l cur k ∧ w.grownBy wy (blk A)) (fun i _ _ => n - (intOf i).toNat)
  case atStart => exact ⟨0, (n : Int) - 1, l, rfl, rfl, by omega, by omega, HO.out, turned_zero l, ⟨rfl, rfl, rfl, Nat.le_refl _, fun _ _ _ => rfl⟩⟩
  case round =>
    obtain ⟨k, z, cur, rfl, rfl, hz, hk2, hO, hT, hG⟩ := hrel
    have HO := Lib.hid hO
    have HT := Lib.hid hT
    have HG := Lib.hid hG
    have hcl := hO.len
    clear hO hT hG
    by_cases hlt : (k : Int) < z
    · obtain ⟨j, rfl⟩ : ∃ j : Nat, z = (j : Int) := ⟨z.toNat, by omega⟩
      obtain ⟨x, hx⟩ : ∃ x, cur[k]? = some x := ⟨_, List.getElem?_eq_getElem (by omega)⟩
      obtain ⟨y, hy⟩ : ∃ x, cur[j]? = some x := ⟨_, List.getElem?_eq_getElem (by omega)⟩
      obtain ⟨g, o, rfl, _, _⟩ := (HO.out.is (Nat.le_refl _)).at hx
      have HS := Lib.hid (turned_step HT.out (by omega) (by omega) hx hy)
      have HX := Lib.hid hx
      have HY := Lib.hid hy
      have HZ := Lib.hid hz
      have i0 : (0 : Int) ≤ (k : Int) := by omega
      have i1 : (k : Int) < (n : Int) := by omega
      have i2 : (0 : Int) ≤ (j : Int) := by omega
      have i3 : (j : Int) < (n : Int) := by omega
      clear hx hy hz
      go_upto_region 3 with fail
      refine wp_region_c (fun W => True) (by kernel_rfl) trivial ?_
      have HC := Lib.hid trivial
      have hqq := And.intro (show j < n by omega) (show k < n by omega)
      (refine wpAnyC_free 0 (oi := ⟨some 14, _, _, _, _, _⟩) (v := ?_) rfl (by kernel_rfl) (by kernel_rfl) (by kernel_rfl) HC.out rfl (fun x => ?_) ?_; rotate_left; (focus (simp [go_sem]; (try go_ints); first | done | (with_reducible rfl))); (simp only [Act.put, List.setIfInBounds_toArray, List.set_cons_succ, List.set_cons_zero]))
      (refine wpAnyC_free 1 (oi := ⟨some 15, _, _, _, _, _⟩) (v := ?_) rfl (by kernel_rfl) (by kernel_rfl) (by kernel_rfl) HC.out rfl (fun x => ?_) ?_; rotate_left; (focus (simp [go_sem]; (try go_ints); first | done | (with_reducible rfl))); (simp only [Act.put, List.setIfInBounds_toArray, List.set_cons_succ, List.set_cons_zero]))
      (refine wpAnyC_free 2 (oi := ⟨some 16, _, _, _, _, _⟩) (v := ?_) rfl (by kernel_rfl) (by kernel_rfl) (by kernel_rfl) HC.out rfl (fun x => ?_) ?_; rotate_left; (focus (simp [go_sem]; (try go_ints); first | done | (with_reducible rfl))); (simp only [Act.put, List.setIfInBounds_toArray, List.set_cons_succ, List.set_cons_zero]))
      (refine wpAnyC_free 3 (oi := ⟨some 17, _, _, _, _, _⟩) (v := ?_) rfl (by kernel_rfl) (by kernel_rfl) (by kernel_rfl) HC.out rfl (fun x => ?_) ?_; rotate_left; (focus (simp [go_sem]; (try go_ints); first | done | (with_reducible rfl))); (simp only [Act.put, List.setIfInBounds_toArray, List.set_cons_succ, List.set_cons_zero]))
      (refine wpAnyC_free 4 (oi := ⟨some 18, _, _, _, _, _⟩) (v := ?_) rfl (by kernel_rfl) (by kernel_rfl) (by kernel_rfl) HC.out rfl (fun x => ?_) ?_; rotate_left; (focus (simp [go_sem]; (try go_ints); first | done | (with_reducible rfl))); (simp only [Act.put, List.setIfInBounds_toArray, List.set_cons_succ, List.set_cons_zero]))
      (refine wpAnyC_free 5 (oi := ⟨some 19, _, _, _, _, _⟩) (v := ?_) rfl (by kernel_rfl) (by kernel_rfl) (by kernel_rfl) HC.out rfl (fun x => ?_) ?_; rotate_left; (focus (simp [go_sem]; (try go_ints); first | done | (with_reducible rfl))); (simp only [Act.put, List.setIfInBounds_toArray, List.set_cons_succ, List.set_cons_zero]))
      (refine wpAnyC_free 6 (oi := ⟨some 20, _, _, _, _, _⟩) (v := ?_) rfl (by kernel_rfl) (by kernel_rfl) (by kernel_rfl) HC.out rfl (fun x => ?_) ?_; rotate_left; (focus (simp [go_sem, hqq]; (try go_ints); first | done | (with_reducible rfl))); (simp only [Act.put, List.setIfInBounds_toArray, List.set_cons_succ, List.set_cons_zero]))
      (refine wpAnyC_free 8 (oi := ⟨some 22, _, _, _, _, _⟩) (v := ?_) rfl (by kernel_rfl) (by kernel_rfl) (by kernel_rfl) HC.out rfl (fun x => ?_) ?_; rotate_left; (focus (simp [go_sem]; (try go_ints); first | done | (with_reducible rfl))); (simp only [Act.put, List.setIfInBounds_toArray, List.set_cons_succ, List.set_cons_zero]))
      (refine wpAnyC_free 9 (oi := ⟨some 23, _, _, _, _, _⟩) (v := ?_) rfl (by kernel_rfl) (by kernel_rfl) (by kernel_rfl) HC.out rfl (fun x => ?_) ?_; rotate_left; (focus (simp [go_sem]; (try go_ints); first | done | (with_reducible rfl))); (simp only [Act.put, List.setIfInBounds_toArray, List.set_cons_succ, List.set_cons_zero]))
      (refine wpAnyC_free 10 (oi := ⟨some 24, _, _, _, _, _⟩) (v := ?_) rfl (by kernel_rfl) (by kernel_rfl) (by kernel_rfl) HC.out rfl (fun x => ?_) ?_; rotate_left; (focus (simp [go_sem, hqq]; (try go_ints); first | done | (with_reducible rfl))); (simp only [Act.put, List.setIfInBounds_toArray, List.set_cons_succ, List.set_cons_zero]))
      change wpAnyC _ _ _ _ _ _ _ _ (World.drewN wr 1)
      obtain ⟨wz, hwz⟩ : ∃ W, W = World.drewN wr 1 := ⟨_, rfl⟩
      have HOz := Lib.hid (show OwnI wz base (some ⟨g, o, none⟩) n c cur by rw [hwz]; exact HO.out.drewN 1)
      have HGz := Lib.hid (show w.grownBy wz (blk (some ⟨g, o, none⟩)) by rw [hwz]; exact HG.out.trans ⟨rfl, rfl, rfl, Nat.le_refl _, fun _ _ _ => rfl⟩)
      rw [← hwz]
      clear hwz HO HG
      refine wpAnyC_fork 7 11 (oi := ⟨some 21, _, _, _, _, _⟩) (oj := ⟨some 25, _, _, _, _, _⟩) rfl rfl (by kernel_rfl) ?_ ?_
      · refine cOp_list 7 (o := ⟨some 21, _, _, _, _, _⟩) rfl rfl ?_
        refine wpList_value (o := ⟨some 21, _, _, _, _, _⟩) rfl (exec_loadI (.tmp 20) rfl rfl (OwnI.range HOz.out HY.out)) ?_
        (simp only [Act.put, List.setIfInBounds_toArray, List.set_cons_succ, List.set_cons_zero])
        refine wpList_nil ⟨rfl, trivial, ?_⟩
        refine wpAnyC_step 11 (o := ⟨some 25, _, _, _, _, _⟩) rfl (by kernel_rfl) rfl ?_
        refine wpList_value (o := ⟨some 25, _, _, _, _, _⟩) rfl (exec_loadI (.tmp 24) rfl rfl (OwnI.range HOz.out HX.out)) ?_
        (simp only [Act.put, List.setIfInBounds_toArray, List.set_cons_succ, List.set_cons_zero])
        refine wpList_nil ⟨rfl, trivial, ?_⟩
        (refine wpAnyC_free 12 (oi := ⟨some 26, _, _, _, _, _⟩) (v := ?_) rfl (by kernel_rfl) (by kernel_rfl) (by kernel_rfl) HC.out rfl (fun x => ?_) ?_; rotate_left; (focus (simp [go_sem, hqq]; (try go_ints); first | done | (with_reducible rfl))); (simp only [Act.put, List.setIfInBounds_toArray, List.set_cons_succ, List.set_cons_zero]))
        refine wpAnyC_step 13 (o := ⟨none, _, _, _, _, _⟩) rfl (by kernel_rfl) rfl ?_
        refine wpList_store_mid rfl 29 (.tmp 26) (.tmp 21) rfl g (o + k * 4) (itv y).toArray rfl rfl (HOz.out.there (by omega)) size_item (one_itv_all y) ?_
        rw [List.toList_toArray]
        have HO2 := Lib.hid (HOz.out.setI (k := k) (by omega) y)
        have HG2 := Lib.hid (grown_setCells g (itv y) (o + k * 4) wz)
        generalize wz.setCells g (o + k * 4) (itv y) = w2 at HO2 HG2 ⊢
        (simp only [Act.put])
        refine wpList_nil ⟨rfl, trivial, ?_⟩
        (refine wpAnyC_free 14 (oi := ⟨some 27, _, _, _, _, _⟩) (v := ?_) rfl (by kernel_rfl) (by kernel_rfl) (by kernel_rfl) HC.out rfl (fun x => ?_) ?_; rotate_left; (focus (simp [go_sem, hqq]; (try go_ints); first | done | (with_reducible rfl))); (simp only [Act.put, List.setIfInBounds_toArray, List.set_cons_succ, List.set_cons_zero]))
        refine wpAnyC_step 15 (o := ⟨none, _, _, _, _, _⟩) rfl (by kernel_rfl) rfl ?_
        refine wpList_store_mid rfl 29 (.tmp 27) (.tmp 25) rfl g (o + j * 4) (itv x).toArray rfl rfl (HO2.out.there (by omega)) size_item (one_itv_all x) ?_
        rw [List.toList_toArray]
        have HO3 := Lib.hid (HO2.out.setI (k := j) (by omega) x)
        have HG3 := Lib.hid (HG2.out.trans (grown_setCells g (itv x) (o + j * 4) w2))
        generalize w2.setCells g (o + j * 4) (itv x) = w3 at HO3 HG3 ⊢
        (simp only [Act.put])
        refine wpList_nil ⟨rfl, trivial, ?_⟩
        refine wpAnyC_done (by kernel_rfl) (fun _ => ?_) _
        clear hqq
        go_wp2_with fail
        go_roundw
        case rel => exact ⟨k + 1, (j : Int) - 1, _, by go_num, rfl, by have := HZ.out; omega, by have := HZ.out; omega, HO3.out, HS.out, HGz.out.trans HG3.out⟩
        case measure => simp [intOf]; omega
      · refine cOp_list 11 (o := ⟨some 25, _, _, _, _, _⟩) rfl rfl ?_
        refine wpList_value (o := ⟨some 25, _, _, _, _, _⟩) rfl (exec_loadI (.tmp 24) rfl rfl (OwnI.range HOz.out HX.out)) ?_
        (simp only [Act.put, List.setIfInBounds_toArray, List.set_cons_succ, List.set_cons_zero])
        refine wpList_nil ⟨rfl, trivial, ?_⟩
        refine wpAnyC_step 7 (o := ⟨some 21, _, _, _, _, _⟩) rfl (by kernel_rfl) rfl ?_
        refine wpList_value (o := ⟨some 21, _, _, _, _, _⟩) rfl (exec_loadI (.tmp 20) rfl rfl (OwnI.range HOz.out HY.out)) ?_
        (simp only [Act.put, List.setIfInBounds_toArray, List.set_cons_succ, List.set_cons_zero])
        refine wpList_nil ⟨rfl, trivial, ?_⟩
        (refine wpAnyC_free 12 (oi := ⟨some 26, _, _, _, _, _⟩) (v := ?_) rfl (by kernel_rfl) (by kernel_rfl) (by kernel_rfl) HC.out rfl (fun x => ?_) ?_; rotate_left; (focus (simp [go_sem, hqq]; (try go_ints); first | done | (with_reducible rfl))); (simp only [Act.put, List.setIfInBounds_toArray, List.set_cons_succ, List.set_cons_zero]))
        refine wpAnyC_step 13 (o := ⟨none, _, _, _, _, _⟩) rfl (by kernel_rfl) rfl ?_
        refine wpList_store_mid rfl 29 (.tmp 26) (.tmp 21) rfl g (o + k * 4) (itv y).toArray rfl rfl (HOz.out.there (by omega)) size_item (one_itv_all y) ?_
        rw [List.toList_toArray]
        have HO2 := Lib.hid (HOz.out.setI (k := k) (by omega) y)
        have HG2 := Lib.hid (grown_setCells g (itv y) (o + k * 4) wz)
        generalize wz.setCells g (o + k * 4) (itv y) = w2 at HO2 HG2 ⊢
        (simp only [Act.put])
        refine wpList_nil ⟨rfl, trivial, ?_⟩
        (refine wpAnyC_free 14 (oi := ⟨some 27, _, _, _, _, _⟩) (v := ?_) rfl (by kernel_rfl) (by kernel_rfl) (by kernel_rfl) HC.out rfl (fun x => ?_) ?_; rotate_left; (focus (simp [go_sem, hqq]; (try go_ints); first | done | (with_reducible rfl))); (simp only [Act.put, List.setIfInBounds_toArray, List.set_cons_succ, List.set_cons_zero]))
        refine wpAnyC_step 15 (o := ⟨none, _, _, _, _, _⟩) rfl (by kernel_rfl) rfl ?_
        refine wpList_store_mid rfl 29 (.tmp 27) (.tmp 25) rfl g (o + j * 4) (itv x).toArray rfl rfl (HO2.out.there (by omega)) size_item (one_itv_all x) ?_
        rw [List.toList_toArray]
        have HO3 := Lib.hid (HO2.out.setI (k := j) (by omega) x)
        have HG3 := Lib.hid (HG2.out.trans (grown_setCells g (itv x) (o + j * 4) w2))
        generalize w2.setCells g (o + j * 4) (itv x) = w3 at HO3 HG3 ⊢
        (simp only [Act.put])
        refine wpList_nil ⟨rfl, trivial, ?_⟩
        refine wpAnyC_done (by kernel_rfl) (fun _ => ?_) _
        clear hqq
        go_wp2_with fail
        go_roundw
        case rel => exact ⟨k + 1, (j : Int) - 1, _, by go_num, rfl, by have := HZ.out; omega, by have := HZ.out; omega, HO3.out, HS.out, HGz.out.trans HG3.out⟩
        case measure => simp [intOf]; omega
    · have HE := Lib.hid (turned_end HT.out (by omega))
      clear hz
      go_wp2_with fail
      go_end0
      exact ⟨⟨_, rfl⟩, by rw [← HE.out]; exact HO.out, HG.out⟩
end Go.Proofs.Ytemckkcbakccnaa
