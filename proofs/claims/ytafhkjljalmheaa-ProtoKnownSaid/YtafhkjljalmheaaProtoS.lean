/- ResyncAck of the state "s", encoded. -/
import Derived.Test.YtafhkjljalmheaaProtoX
namespace Go.Proofs.Ytafhkjljalmheaa
open Go.RowKit
set_option linter.unusedVariables false
/-- its bytes -/
def sb : List UInt8 := [1, 0, 1, 115]
theorem sb_eq : BinP.enc 1 ++ BinP.enc 0 ++ BinP.text [115] = sb := by decide +kernel
set_option maxHeartbeats 4000000 in
theorem enc_resync (A : Option Addr) (n c : Nat) (w : World) (hx : Sl w w.heap.size A n c [115]) :
    Calls Try.prog 35 #[.agg #[.int .u64 1, .int .u64 0, .slice A n c]] w (EncR w sb false) := by
  obtain ⟨w1, hw1⟩ : ∃ W, W = w.alloc (.cells #[.int .u64 1, .int .u64 0, .slice A n c] 83) := ⟨_, rfl⟩
  obtain ⟨b1, hb1⟩ : ∃ b, b = w.heap.size := ⟨_, rfl⟩
  obtain ⟨w2, hw2⟩ : ∃ W, W = w1.alloc (.cells #[.slice none 0 0, .bool false] 93) := ⟨_, rfl⟩
  obtain ⟨g, hg⟩ : ∃ b, b = w1.heap.size := ⟨_, rfl⟩
  have HG1 := Lib.hid (show Grew w w1 by rw [hw1]; exact grew_alloc w _)
  have HG12 := Lib.hid (show Grew w1 w2 by rw [hw2]; exact grew_alloc w1 _)
  have HA1 := Lib.hid (show ArrV w1 b1 [.int .u64 1, .int .u64 0, .slice A n c] by rw [hw1, hb1]; exact ArrV.made w _ _)
  have HW2 := Lib.hid (show Wr w2 g [] false by rw [hw2, hg]; exact wr_new w1 false)
  have HE1 := Lib.hid (And.intro hw1 hb1)
  have HE2 := Lib.hid (And.intro hw2 hg)
  have Hgw := Lib.hid (show w.heap.size ≤ g ∧ g ≠ b1 by
    have h1 := HG1.out.size
    have h2 : w.heap.size < w1.heap.size := by rw [hw1]; simp
    exact ⟨by omega, by omega⟩)
  have HA2 := Lib.hid (HA1.out.grew HG12.out)
  have HR := Lib.hid (show Row w w.heap.size A ([115].map b8) from hx.2.2.2)
  have HN := Lib.hid (wr_number g 1 [] false w2 HW2.out (by decide) (by simp))
  rw [List.nil_append, show (false || decide (1099511627776 < 1)) = false by rfl] at HN
  have hn1 : n = 1 := hx.1.symm
  subst hn1
  have m2 : w1.cell? ⟨b1, 2, none⟩ = some (.slice A 1 c) := HA1.out.cell (i := 2) (by simp)
  clear hw1 hb1 hw2 hg hx
  go_enter Try.func35, Try.ntmps35
  go_upto_region 1 with fail
  rw [← HE1.out.1, ← HE1.out.2]
  go_upto_region 2 with fail
  rw [← HE2.out.1, ← HE2.out.2]
  clear m2
  have m0 : w2.cell? ⟨b1, 0, none⟩ = some (.int .u64 1) := HA2.out.cell (i := 0) (by simp)
  go_upto_region 3 with (go_at_call 39; refine HN.out.mono ?_; rintro x w3 ⟨⟨u, rfl⟩, hW, hg3⟩; have HW3 := Lib.hid hW; have HG3 := Lib.hid (new_bad w2 g hg3 (HG1.out.trans HG12.out) Hgw.out.1); have HA3 := Lib.hid (HA2.out.other hg3 (fun h => Hgw.out.2 (by injection h))); clear hW hg3)
  clear m0 HN
  have m1 : w3.cell? ⟨b1, 1, none⟩ = some (.int .u64 0) := HA3.out.cell (i := 1) (by simp)
  have HN2 := Lib.hid (wr_number g 0 _ _ w3 HW3.out (by decide) (by decide +kernel))
  rw [show (false || decide (1099511627776 < 0)) = false by rfl] at HN2
  go_upto_region 4 with (go_at_call 39; refine HN2.out.mono ?_; rintro x w4 ⟨⟨u2, rfl⟩, hW, hg3⟩; have HW4 := Lib.hid hW; have HG4 := Lib.hid (new_bad w3 g hg3 HG3.out Hgw.out.1); have HA4 := Lib.hid (HA3.out.other hg3 (fun h => Hgw.out.2 (by injection h))); clear hW hg3)
  clear m1 HN2
  obtain ⟨A5, n5, c5, h1, h2, h3⟩ := HW4.out
  have d0 : (World.drewN w4 1).cell? ⟨g, 0, none⟩ = some (.slice A5 n5 c5) := by show w4.cell? _ = _; rw [cell_blk h1]; rfl
  have HWd := Lib.hid (show Wr (World.drewN w4 1) g (BinP.enc 1 ++ BinP.enc 0) false from HW4.out)
  have HT2 := Lib.hid (show Calls Try.prog 19 #[.slice A5 n5 c5, .string ⟨[115].toArray⟩] (World.drewN w4 1) _ from bin_text A5 n5 c5 (BinP.enc 1 ++ BinP.enc 0) [115] (World.drewN w4 1).heap.size (World.drewN w4 1) h2.1 h2.2.2.2 (Nat.le_refl _) (by have a1 := h2.1; have a3 : (BinP.enc 1 ++ BinP.enc 0).length = 2 := (by decide +kernel); have a4 : ([115] : List UInt8).length = 1 := rfl; omega))
  have HC := Lib.hid (show w4.grownBy (World.drewN w4 1) (some g) from grown_drewN (grown0 w4 (some g)) 1)
  have hqq : ∀ V : { V : World // w4.grownBy V (some g) }, V.1.cell? ⟨b1, 2, none⟩ = some (.slice A 1 c) := fun V => (HA4.out.other V.2 (fun h => Hgw.out.2 (by injection h))).cell (i := 2) (by simp)
  have HRV : Hid (∀ V : World, w4.grownBy V (some g) → Row V w.heap.size A ([115].map b8)) := Lib.hid fun V hV => HR.out.below (new_bad w4 g hV HG4.out Hgw.out.1)
  clear h1 h2 h3
  refine wp_region_c (fun V => w4.grownBy V (some g)) (by kernel_rfl) HC.out ?_
  (refine wpAnyC_free 0 (oi := ⟨some 19, _, _, _, _, _⟩) (v := ?_) rfl (by kernel_rfl) (by kernel_rfl) (by kernel_rfl) HC.out rfl (fun x => ?_) ?_; rotate_left; (focus (simp [go_sem]; (try go_ints); first | done | (with_reducible rfl))); (simp only [Act.put, List.setIfInBounds_toArray, List.set_cons_succ, List.set_cons_zero]))
  (refine wpAnyC_free 1 (oi := ⟨some 20, _, _, _, _, _⟩) (v := ?_) rfl (by kernel_rfl) (by kernel_rfl) (by kernel_rfl) HC.out rfl (fun x => ?_) ?_; rotate_left; (focus (simp [go_sem]; (try go_ints); first | done | (with_reducible rfl))); (simp only [Act.put, List.setIfInBounds_toArray, List.set_cons_succ, List.set_cons_zero]))
  (refine wpAnyC_free 2 (oi := ⟨some 21, _, _, _, _, _⟩) (v := ?_) rfl (by kernel_rfl) (by kernel_rfl) (by kernel_rfl) HC.out rfl (fun x => ?_) ?_; rotate_left; (focus (simp [go_sem]; (try go_ints); first | done | (with_reducible rfl))); (simp only [Act.put, List.setIfInBounds_toArray, List.set_cons_succ, List.set_cons_zero]))
  (refine wpAnyC_free 3 (oi := ⟨some 22, _, _, _, _, _⟩) (v := ?_) rfl (by kernel_rfl) (by kernel_rfl) (by kernel_rfl) HC.out rfl (fun x => ?_) ?_; rotate_left; (focus (simp [go_sem]; (try go_ints); first | done | (with_reducible rfl))); (simp only [Act.put, List.setIfInBounds_toArray, List.set_cons_succ, List.set_cons_zero]))
  (refine wpAnyC_free 5 (oi := ⟨some 24, _, _, _, _, _⟩) (v := ?_) rfl (by kernel_rfl) (by kernel_rfl) (by kernel_rfl) HC.out rfl (fun x => ?_) ?_; rotate_left; (focus (simp [go_sem]; (try go_ints); first | done | (with_reducible rfl))); (simp only [Act.put, List.setIfInBounds_toArray, List.set_cons_succ, List.set_cons_zero]))
  (refine wpAnyC_free 6 (oi := ⟨some 25, _, _, _, _, _⟩) (v := ?_) rfl (by kernel_rfl) (by kernel_rfl) (by kernel_rfl) HC.out rfl (fun x => ?_) ?_; rotate_left; (focus (simp [go_sem, hqq]; (try go_ints); first | done | (with_reducible rfl))); (simp only [Act.put, List.setIfInBounds_toArray, List.set_cons_succ, List.set_cons_zero]))
  refine wpAnyC_free 7 (oi := ⟨some 26, _, _, _, _, _⟩) (.string ⟨[115].toArray⟩) rfl (by kernel_rfl) (by kernel_rfl) (by kernel_rfl) HC.out rfl (fun V => exec_str8 (.tmp 25) rfl rfl rfl V.1 (HRV.out V.1 V.2)) ?_
  (simp only [Act.put, List.setIfInBounds_toArray, List.set_cons_succ, List.set_cons_zero])
  change wpAnyC _ _ _ _ _ _ _ _ (World.drewN w4 1)
  obtain ⟨wd, hwd⟩ : ∃ W, W = World.drewN w4 1 := ⟨_, rfl⟩
  rw [← hwd] at HC HWd HT2 d0 ⊢
  clear hwd hqq
  refine wpAnyC_step 4 (o := ⟨some 23, _, _, _, _, _⟩) rfl (by kernel_rfl) rfl ?_
  refine wpList_value (o := ⟨some 23, _, _, _, _, _⟩) (v := .slice A5 n5 c5) (w' := wd) rfl (exec_loadSl (.tmp 22) rfl rfl d0) ?_
  (simp only [Act.put, List.setIfInBounds_toArray, List.set_cons_succ, List.set_cons_zero])
  refine wpList_nil ⟨rfl, HC.out, ?_⟩
  refine wpAnyC_step 8 (o := ⟨some 27, _, _, _, _, _⟩) rfl (by kernel_rfl) rfl ?_
  refine wpList_callR rfl _ _ (fun v w' => ∃ A n c, v = .slice A n c ∧ OwnB w' wd.heap.size A n c (BinP.enc 1 ++ BinP.enc 0 ++ BinP.text [115]) ∧ Grew wd w') (by simp [go_sem]) (HT2.out.mono fun e w' ⟨A, n, cp, he, h1, h2⟩ => ⟨_, he, A, n, cp, rfl, h1, h2⟩) ?_
  rintro v w7 ⟨A7, n7, c7, rfl, hO, hG⟩
  have HC := Lib.hid (grown_trans' HC.out (grown_of_grew2 hG g))
  have HW8 := Lib.hid (HWd.out.setBytes hG hO)
  obtain ⟨⟨u3, k2⟩, f2⟩ := HWd.out.at2 hG
  clear hO hG HT2 HWd d0
  (simp only [Act.put, List.setIfInBounds_toArray, List.set_cons_succ, List.set_cons_zero])
  refine wpList_nil ⟨rfl, HC.out, ?_⟩
  (refine wpAnyC_free 9 (oi := ⟨some 28, _, _, _, _, _⟩) (v := ?_) rfl (by kernel_rfl) (by kernel_rfl) (by kernel_rfl) HC.out rfl (fun x => ?_) ?_; rotate_left; (focus (simp [go_sem]; (try go_ints); first | done | (with_reducible rfl))); (simp only [Act.put, List.setIfInBounds_toArray, List.set_cons_succ, List.set_cons_zero]))
  (refine wpAnyC_free 10 (oi := ⟨some 29, _, _, _, _, _⟩) (v := ?_) rfl (by kernel_rfl) (by kernel_rfl) (by kernel_rfl) HC.out rfl (fun x => ?_) ?_; rotate_left; (focus (simp [go_sem]; (try go_ints); first | done | (with_reducible rfl))); (simp only [Act.put, List.setIfInBounds_toArray, List.set_cons_succ, List.set_cons_zero]))
  refine wpAnyC_step 11 (o := ⟨none, _, _, _, _, _⟩) rfl (by kernel_rfl) rfl ?_
  refine wpList_storeSl8 rfl (.tmp 29) (.tmp 27) rfl g 0 n7 c7 A7 u3 rfl rfl k2 f2 ?_
  obtain ⟨w8, hw8⟩ : ∃ W, W = w7.setCell ⟨g, 0, none⟩ (.slice A7 n7 c7) := ⟨_, rfl⟩
  have HC := Lib.hid (show w4.grownBy w8 (some g) by rw [hw8]; exact grown_trans' HC.out (grown_set w7 g 0 _))
  rw [← hw8] at HW8 ⊢
  clear hw8 k2 f2
  refine wpList_nil ⟨rfl, HC.out, ?_⟩
  refine wpAnyC_done (by kernel_rfl) (fun _ => ?_) _
  simp only [Act.put]
  rw [sb_eq] at HW8
  have HG8 := Lib.hid (new_bad w4 g HC.out HG4.out Hgw.out.1)
  go_wp2_with (go_at_call 40; refine (wr_end g _ _ w8 HW8.out).mono ?_; rintro x w9 ⟨A9, n9, c9, rfl, hS, hG⟩; have HS9 := Lib.hid hS; have HG9 := Lib.hid (HG8.out.trans hG); clear hS hG)
  go_ret2
  exact ⟨A9, n9, c9, rfl, fun _ => HS9.out trivial, HG9.out⟩
/-- bytes.Equal of the same bytes -/
theorem bytes_same (A : Option Addr) (n c B : Nat) (A' : Option Addr) (n' c' B' : Nat) (l : List UInt8) (w : World) (h : Sl w B A n c l) (h' : Sl w B' A' n' c' l) :
    Calls Try.prog 46 #[.slice A n c, .slice A' n' c'] w fun e w' => e = .returned (.bool true) ∧ w = w' := by
  have H := Lib.hid h
  have H' := Lib.hid h'
  clear h h'
  go_enter Try.func46, Try.ntmps46
  go_wp2_with (first
    | (refine wpList_str8 (dst := some 6) A n c B l rfl rfl H.out.1 H.out.2.2.2 ?_)
    | (refine wpList_str8 (dst := some 8) A' n' c' B' l rfl rfl H'.out.1 H'.out.2.2.2 ?_))
  go_ret
  exact ⟨rfl, rfl⟩
end Go.Proofs.Ytafhkjljalmheaa
