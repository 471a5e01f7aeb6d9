/- The one event, encoded; the one that may not be. -/
import Derived.Test.YtafhkjljalmheaaProtoV
import Derived.Test.YtafhkjljalmheaaClass
namespace Go.Proofs.Ytafhkjljalmheaa
open Go.RowKit
set_option linter.unusedVariables false
/-- its bytes -/
def eb : List UInt8 := [0, 1, 1, 1, 99, 1, 102, 0, 0]
theorem eb_eq : BinP.enc 0 ++ BinP.enc 1 ++ BinP.enc 1 ++ BinP.text [99] ++ BinP.text [102] ++ BinP.text [] ++ BinP.enc 0 = eb := by decide +kernel
theorem enc_event0 (w : World) : Calls Try.prog 48 #[.agg #[.int .i64 0, .int .u64 0, .int .i64 0, .string ⟨#[]⟩, .string ⟨#[]⟩, .string ⟨#[]⟩, .slice none 0 0]] w fun e w' => e = .returned (.tuple #[.slice none 0 0, .int .i64 1]) ∧ Grew w w' := by
  obtain ⟨w1, hw1⟩ : ∃ W, W = w.alloc (.cells #[.int .i64 0, .int .u64 0, .int .i64 0, .string ⟨#[]⟩, .string ⟨#[]⟩, .string ⟨#[]⟩, .slice none 0 0] 78) := ⟨_, rfl⟩
  obtain ⟨b1, hb1⟩ : ∃ b, b = w.heap.size := ⟨_, rfl⟩
  have HG1 := Lib.hid (show Grew w w1 by rw [hw1]; exact grew_alloc w _)
  have hA : ArrV w1 b1 [.int .i64 0, .int .u64 0, .int .i64 0, .string ⟨#[]⟩, .string ⟨#[]⟩, .string ⟨#[]⟩, .slice none 0 0] := by rw [hw1, hb1]; exact ArrV.made w _ _
  have c0 : w1.cell? ⟨b1, 0, none⟩ = some (.int .i64 0) := hA.cell (i := 0) (by simp)
  have c1 : w1.cell? ⟨b1, 1, none⟩ = some (.int .u64 0) := hA.cell (i := 1) (by simp)
  have c2 : w1.cell? ⟨b1, 2, none⟩ = some (.int .i64 0) := hA.cell (i := 2) (by simp)
  have c3 : w1.cell? ⟨b1, 3, none⟩ = some (.string ⟨#[]⟩) := hA.cell (i := 3) (by simp)
  have c4 : w1.cell? ⟨b1, 4, none⟩ = some (.string ⟨#[]⟩) := hA.cell (i := 4) (by simp)
  have c5 : w1.cell? ⟨b1, 5, none⟩ = some (.string ⟨#[]⟩) := hA.cell (i := 5) (by simp)
  have c6 : w1.cell? ⟨b1, 6, none⟩ = some (.slice none 0 0) := hA.cell (i := 6) (by simp)
  have HE := Lib.hid (And.intro hw1 hb1)
  clear hw1 hb1 hA
  go_enter Try.func48, Try.ntmps48
  go_upto_region 1 with fail
  rw [← HE.out.1, ← HE.out.2]
  go_wp2_with (go_at_call 51; refine (crdt_good0 w1).mono ?_; rintro e w2 ⟨rfl, hG⟩; have HG2 := Lib.hid hG; clear hG)
  go_ret2
  exact ⟨rfl, HG1.out.trans HG2.out⟩
set_option maxHeartbeats 2000000 in
theorem enc_event1 (w : World) : Calls Try.prog 48 #[.agg #[.int .i64 0, .int .u64 1, .int .i64 1, .string ⟨#[99]⟩, .string ⟨#[102]⟩, .string ⟨#[]⟩, .slice none 0 0]] w fun e w' => ∃ A n c, e = .returned (.tuple #[.slice A n c, .int .i64 0]) ∧ OwnB w' w.heap.size A n c eb ∧ Grew w w' := by
  obtain ⟨w1, hw1⟩ : ∃ W, W = w.alloc (.cells #[.int .i64 0, .int .u64 1, .int .i64 1, .string ⟨#[99]⟩, .string ⟨#[102]⟩, .string ⟨#[]⟩, .slice none 0 0] 78) := ⟨_, rfl⟩
  obtain ⟨b1, hb1⟩ : ∃ b, b = w.heap.size := ⟨_, rfl⟩
  have HG1 := Lib.hid (show Grew w w1 by rw [hw1]; exact grew_alloc w _)
  have HA1 := Lib.hid (show ArrV w1 b1 evL by rw [hw1, hb1]; exact ArrV.made w _ _)
  have HE := Lib.hid (And.intro hw1 hb1)
  obtain ⟨c0, c1, c2, c3, c4, c5, c6⟩ := ev_cells HA1.out
  clear hw1 hb1
  go_enter Try.func48, Try.ntmps48
  go_upto_region 1 with fail
  rw [← HE.out.1, ← HE.out.2]
  go_upto_region 3 with (go_at_call 51; refine (crdt_good1 w1).mono ?_; rintro e w2 ⟨rfl, hG⟩; have HG2 := Lib.hid hG; clear hG)
  clear c0 c1 c2 c3 c4 c5 c6
  have HA2 := Lib.hid (HA1.out.grew HG2.out)
  have hqq := And.intro (fun V : { V : World // Grew w2 V } => (ev_cells (HA2.out.grew V.2)).1) (And.intro (fun V : { V : World // Grew w2 V } => (ev_cells (HA2.out.grew V.2)).2.1) (fun V : { V : World // Grew w2 V } => (ev_cells (HA2.out.grew V.2)).2.2.1))
  have HC := Lib.hid (Grew.drewN w2 1)
  refine wp_region_c (fun V => Grew w2 V) (by kernel_rfl) HC.out ?_
  (refine wpAnyC_free 0 (oi := ⟨some 10, _, _, _, _, _⟩) (v := ?_) rfl (by kernel_rfl) (by kernel_rfl) (by kernel_rfl) HC.out rfl (fun x => ?_) ?_; rotate_left; (focus (simp [go_sem]; (try go_ints); first | done | (with_reducible rfl))); (simp only [Act.put, List.setIfInBounds_toArray, List.set_cons_succ, List.set_cons_zero]))
  (refine wpAnyC_free 1 (oi := ⟨some 11, _, _, _, _, _⟩) (v := ?_) rfl (by kernel_rfl) (by kernel_rfl) (by kernel_rfl) HC.out rfl (fun x => ?_) ?_; rotate_left; (focus (simp [go_sem]; (try go_ints); first | done | (with_reducible rfl))); (simp only [Act.put, List.setIfInBounds_toArray, List.set_cons_succ, List.set_cons_zero]))
  (refine wpAnyC_free 2 (oi := ⟨some 12, _, _, _, _, _⟩) (v := ?_) rfl (by kernel_rfl) (by kernel_rfl) (by kernel_rfl) HC.out rfl (fun x => ?_) ?_; rotate_left; (focus (simp [go_sem, hqq]; (try go_ints); first | done | (with_reducible rfl))); (simp only [Act.put, List.setIfInBounds_toArray, List.set_cons_succ, List.set_cons_zero]))
  (refine wpAnyC_free 3 (oi := ⟨some 13, _, _, _, _, _⟩) (v := ?_) rfl (by kernel_rfl) (by kernel_rfl) (by kernel_rfl) HC.out rfl (fun x => ?_) ?_; rotate_left; (focus (simp [go_sem]; (try go_ints); first | done | (with_reducible rfl))); (simp only [Act.put, List.setIfInBounds_toArray, List.set_cons_succ, List.set_cons_zero]))
  (refine wpAnyC_free 5 (oi := ⟨some 15, _, _, _, _, _⟩) (v := ?_) rfl (by kernel_rfl) (by kernel_rfl) (by kernel_rfl) HC.out rfl (fun x => ?_) ?_; rotate_left; (focus (simp [go_sem]; (try go_ints); first | done | (with_reducible rfl))); (simp only [Act.put, List.setIfInBounds_toArray, List.set_cons_succ, List.set_cons_zero]))
  (refine wpAnyC_free 6 (oi := ⟨some 16, _, _, _, _, _⟩) (v := ?_) rfl (by kernel_rfl) (by kernel_rfl) (by kernel_rfl) HC.out rfl (fun x => ?_) ?_; rotate_left; (focus (simp [go_sem]; (try go_ints); first | done | (with_reducible rfl))); (simp only [Act.put, List.setIfInBounds_toArray, List.set_cons_succ, List.set_cons_zero]))
  (refine wpAnyC_free 7 (oi := ⟨some 17, _, _, _, _, _⟩) (v := ?_) rfl (by kernel_rfl) (by kernel_rfl) (by kernel_rfl) HC.out rfl (fun x => ?_) ?_; rotate_left; (focus (simp [go_sem, hqq]; (try go_ints); first | done | (with_reducible rfl))); (simp only [Act.put, List.setIfInBounds_toArray, List.set_cons_succ, List.set_cons_zero]))
  (refine wpAnyC_free 9 (oi := ⟨some 19, _, _, _, _, _⟩) (v := ?_) rfl (by kernel_rfl) (by kernel_rfl) (by kernel_rfl) HC.out rfl (fun x => ?_) ?_; rotate_left; (focus (simp [go_sem]; (try go_ints); first | done | (with_reducible rfl))); (simp only [Act.put, List.setIfInBounds_toArray, List.set_cons_succ, List.set_cons_zero]))
  (refine wpAnyC_free 10 (oi := ⟨some 20, _, _, _, _, _⟩) (v := ?_) rfl (by kernel_rfl) (by kernel_rfl) (by kernel_rfl) HC.out rfl (fun x => ?_) ?_; rotate_left; (focus (simp [go_sem, hqq]; (try go_ints); first | done | (with_reducible rfl))); (simp only [Act.put, List.setIfInBounds_toArray, List.set_cons_succ, List.set_cons_zero]))
  (refine wpAnyC_free 11 (oi := ⟨some 21, _, _, _, _, _⟩) (v := ?_) rfl (by kernel_rfl) (by kernel_rfl) (by kernel_rfl) HC.out rfl (fun x => ?_) ?_; rotate_left; (focus (simp [go_sem]; (try go_ints); first | done | (with_reducible rfl))); (simp only [Act.put, List.setIfInBounds_toArray, List.set_cons_succ, List.set_cons_zero]))
  change wpAnyC _ _ _ _ _ _ _ _ (World.drewN w2 1)
  obtain ⟨wd, hwd⟩ : ∃ W, W = World.drewN w2 1 := ⟨_, rfl⟩
  rw [← hwd] at HC ⊢
  clear hwd hqq
  refine wpAnyC_step 4 (o := ⟨some 14, _, _, _, _, _⟩) rfl (by kernel_rfl) rfl ?_
  refine wpList_callR rfl _ _ (fun v w' => ∃ A n c, v = .slice A n c ∧ OwnB w' wd.heap.size A n c ([] ++ BinP.enc 0) ∧ Grew wd w') (by simp [go_sem]) ((bin_uint none 0 0 0 [] wd.heap.size wd rfl Row.nil (Nat.le_refl _) (by omega) (by decide)).mono fun e w' ⟨A, n, cp, he, h1, h2⟩ => ⟨_, he, A, n, cp, rfl, h1, h2⟩) ?_
  rintro v w3 ⟨A3, n3, c3, rfl, hO, hG⟩
  have HO3 := Lib.hid hO
  have HC := Lib.hid (HC.out.trans hG)
  clear hO hG
  (simp only [Act.put, List.setIfInBounds_toArray, List.set_cons_succ, List.set_cons_zero])
  refine wpList_nil ⟨rfl, HC.out, ?_⟩
  refine wpAnyC_step 8 (o := ⟨some 18, _, _, _, _, _⟩) rfl (by kernel_rfl) rfl ?_
  refine wpList_callR rfl _ _ (fun v w' => ∃ A n c, v = .slice A n c ∧ OwnB w' w3.heap.size A n c ([] ++ BinP.enc 0 ++ BinP.enc 1) ∧ Grew w3 w') (by simp [go_sem]) ((bin_uint A3 n3 c3 1 _ w3.heap.size w3 HO3.out.len HO3.out.sl.2.2.2 (Nat.le_refl _) (by have := HO3.out.len; have h : (([] : List UInt8) ++ BinP.enc 0).length = 1 := (by decide); omega) (by decide)).mono fun e w' ⟨A, n, cp, he, h1, h2⟩ => ⟨_, he, A, n, cp, rfl, h1, h2⟩) ?_
  rintro v w4 ⟨A4, n4, c4, rfl, hO, hG⟩
  have HO4 := Lib.hid hO
  have HC := Lib.hid (HC.out.trans hG)
  clear hO hG
  (simp only [Act.put, List.setIfInBounds_toArray, List.set_cons_succ, List.set_cons_zero])
  refine wpList_nil ⟨rfl, HC.out, ?_⟩
  refine wpAnyC_step 12 (o := ⟨some 22, _, _, _, _, _⟩) rfl (by kernel_rfl) rfl ?_
  refine wpList_callR rfl _ _ (fun v w' => ∃ A n c, v = .slice A n c ∧ OwnB w' w4.heap.size A n c ([] ++ BinP.enc 0 ++ BinP.enc 1 ++ BinP.enc 1) ∧ Grew w4 w') (by simp [go_sem]) ((bin_uint A4 n4 c4 1 _ w4.heap.size w4 HO4.out.len HO4.out.sl.2.2.2 (Nat.le_refl _) (by have := HO4.out.len; have h : (([] : List UInt8) ++ BinP.enc 0 ++ BinP.enc 1).length = 2 := (by decide); omega) (by decide)).mono fun e w' ⟨A, n, cp, he, h1, h2⟩ => ⟨_, he, A, n, cp, rfl, h1, h2⟩) ?_
  rintro v w5 ⟨A5, n5, c5, rfl, hO, hG⟩
  have HO5 := Lib.hid hO
  have HC := Lib.hid (HC.out.trans hG)
  clear hO hG
  (simp only [Act.put, List.setIfInBounds_toArray, List.set_cons_succ, List.set_cons_zero])
  refine wpList_nil ⟨rfl, HC.out, ?_⟩
  (refine wpAnyC_free 13 (oi := ⟨some 4, _, _, _, _, _⟩) (v := ?_) rfl (by kernel_rfl) (by kernel_rfl) (by kernel_rfl) HC.out rfl (fun x => ?_) ?_; rotate_left; (focus (simp [go_sem]; (try go_ints); first | done | (with_reducible rfl))); (simp only [Act.put, List.setIfInBounds_toArray, List.set_cons_succ, List.set_cons_zero]))
  refine wpAnyC_done (by kernel_rfl) (fun _ => ?_) _
  have HA5 := Lib.hid (HA2.out.grew HC.out)
  have HG5 := Lib.hid (HG1.out.trans (HG2.out.trans HC.out))
  have h5 : n5 = 3 := by have := HO5.out.len; have h : (([] : List UInt8) ++ BinP.enc 0 ++ BinP.enc 1 ++ BinP.enc 1).length = 3 := (by decide); omega
  clear HO3 HO4 HC HA2 HA1
  go_upto_region 4 with fail
  have hqq := And.intro (fun V : { V : World // Grew w5 V } => (ev_cells (HA5.out.grew V.2)).2.2.2.1) (And.intro (fun V : { V : World // Grew w5 V } => (ev_cells (HA5.out.grew V.2)).2.2.2.2.1) (fun V : { V : World // Grew w5 V } => (ev_cells (HA5.out.grew V.2)).2.2.2.2.2.1))
  have HC := Lib.hid (Grew.drewN w5 1)
  refine wp_region_c (fun V => Grew w5 V) (by kernel_rfl) HC.out ?_
  (refine wpAnyC_free 0 (oi := ⟨some 23, _, _, _, _, _⟩) (v := ?_) rfl (by kernel_rfl) (by kernel_rfl) (by kernel_rfl) HC.out rfl (fun x => ?_) ?_; rotate_left; (focus (simp [go_sem]; (try go_ints); first | done | (with_reducible rfl))); (simp only [Act.put, List.setIfInBounds_toArray, List.set_cons_succ, List.set_cons_zero]))
  (refine wpAnyC_free 1 (oi := ⟨some 24, _, _, _, _, _⟩) (v := ?_) rfl (by kernel_rfl) (by kernel_rfl) (by kernel_rfl) HC.out rfl (fun x => ?_) ?_; rotate_left; (focus (simp [go_sem]; (try go_ints); first | done | (with_reducible rfl))); (simp only [Act.put, List.setIfInBounds_toArray, List.set_cons_succ, List.set_cons_zero]))
  (refine wpAnyC_free 2 (oi := ⟨some 25, _, _, _, _, _⟩) (v := ?_) rfl (by kernel_rfl) (by kernel_rfl) (by kernel_rfl) HC.out rfl (fun x => ?_) ?_; rotate_left; (focus (simp [go_sem, hqq]; (try go_ints); first | done | (with_reducible rfl))); (simp only [Act.put, List.setIfInBounds_toArray, List.set_cons_succ, List.set_cons_zero]))
  (refine wpAnyC_free 4 (oi := ⟨some 27, _, _, _, _, _⟩) (v := ?_) rfl (by kernel_rfl) (by kernel_rfl) (by kernel_rfl) HC.out rfl (fun x => ?_) ?_; rotate_left; (focus (simp [go_sem]; (try go_ints); first | done | (with_reducible rfl))); (simp only [Act.put, List.setIfInBounds_toArray, List.set_cons_succ, List.set_cons_zero]))
  (refine wpAnyC_free 5 (oi := ⟨some 28, _, _, _, _, _⟩) (v := ?_) rfl (by kernel_rfl) (by kernel_rfl) (by kernel_rfl) HC.out rfl (fun x => ?_) ?_; rotate_left; (focus (simp [go_sem, hqq]; (try go_ints); first | done | (with_reducible rfl))); (simp only [Act.put, List.setIfInBounds_toArray, List.set_cons_succ, List.set_cons_zero]))
  (refine wpAnyC_free 7 (oi := ⟨some 30, _, _, _, _, _⟩) (v := ?_) rfl (by kernel_rfl) (by kernel_rfl) (by kernel_rfl) HC.out rfl (fun x => ?_) ?_; rotate_left; (focus (simp [go_sem]; (try go_ints); first | done | (with_reducible rfl))); (simp only [Act.put, List.setIfInBounds_toArray, List.set_cons_succ, List.set_cons_zero]))
  (refine wpAnyC_free 8 (oi := ⟨some 31, _, _, _, _, _⟩) (v := ?_) rfl (by kernel_rfl) (by kernel_rfl) (by kernel_rfl) HC.out rfl (fun x => ?_) ?_; rotate_left; (focus (simp [go_sem, hqq]; (try go_ints); first | done | (with_reducible rfl))); (simp only [Act.put, List.setIfInBounds_toArray, List.set_cons_succ, List.set_cons_zero]))
  change wpAnyC _ _ _ _ _ _ _ _ (World.drewN w5 1)
  have HO5 := Lib.hid (show OwnB (World.drewN w5 1) w4.heap.size A5 n5 c5 ([] ++ BinP.enc 0 ++ BinP.enc 1 ++ BinP.enc 1) from HO5.out.drewN 1)
  obtain ⟨wd2, hwd⟩ : ∃ W, W = World.drewN w5 1 := ⟨_, rfl⟩
  rw [← hwd] at HC HO5 ⊢
  clear hwd hqq
  refine wpAnyC_step 3 (o := ⟨some 26, _, _, _, _, _⟩) rfl (by kernel_rfl) rfl ?_
  refine wpList_callR rfl _ _ (fun v w' => ∃ A n c, v = .slice A n c ∧ OwnB w' wd2.heap.size A n c ([] ++ BinP.enc 0 ++ BinP.enc 1 ++ BinP.enc 1 ++ BinP.text [99]) ∧ Grew wd2 w') (by simp [go_sem]) ((bin_text A5 n5 c5 _ [99] wd2.heap.size wd2 HO5.out.len HO5.out.sl.2.2.2 (Nat.le_refl _) (by have := HO5.out.len; have h : ([] ++ BinP.enc 0 ++ BinP.enc 1 ++ BinP.enc 1 : List UInt8).length = 3 := (by decide); simp; omega)).mono fun e w' ⟨A, n, cp, he, h1, h2⟩ => ⟨_, he, A, n, cp, rfl, h1, h2⟩) ?_
  rintro v w6 ⟨A6, n6, c6, rfl, hO, hG⟩
  have HO6 := Lib.hid hO
  have HC := Lib.hid (HC.out.trans hG)
  clear hO hG
  (simp only [Act.put, List.setIfInBounds_toArray, List.set_cons_succ, List.set_cons_zero])
  refine wpList_nil ⟨rfl, HC.out, ?_⟩
  refine wpAnyC_step 6 (o := ⟨some 29, _, _, _, _, _⟩) rfl (by kernel_rfl) rfl ?_
  refine wpList_callR rfl _ _ (fun v w' => ∃ A n c, v = .slice A n c ∧ OwnB w' w6.heap.size A n c ([] ++ BinP.enc 0 ++ BinP.enc 1 ++ BinP.enc 1 ++ BinP.text [99] ++ BinP.text [102]) ∧ Grew w6 w') (by simp [go_sem]) ((bin_text A6 n6 c6 _ [102] w6.heap.size w6 HO6.out.len HO6.out.sl.2.2.2 (Nat.le_refl _) (by have := HO6.out.len; have h : ([] ++ BinP.enc 0 ++ BinP.enc 1 ++ BinP.enc 1 ++ BinP.text [99] : List UInt8).length = 5 := (by decide); simp; omega)).mono fun e w' ⟨A, n, cp, he, h1, h2⟩ => ⟨_, he, A, n, cp, rfl, h1, h2⟩) ?_
  rintro v w7 ⟨A7, n7, c7, rfl, hO, hG⟩
  have HO7 := Lib.hid hO
  have HC := Lib.hid (HC.out.trans hG)
  clear hO hG
  (simp only [Act.put, List.setIfInBounds_toArray, List.set_cons_succ, List.set_cons_zero])
  refine wpList_nil ⟨rfl, HC.out, ?_⟩
  refine wpAnyC_step 9 (o := ⟨some 32, _, _, _, _, _⟩) rfl (by kernel_rfl) rfl ?_
  refine wpList_callR rfl _ _ (fun v w' => ∃ A n c, v = .slice A n c ∧ OwnB w' w7.heap.size A n c ([] ++ BinP.enc 0 ++ BinP.enc 1 ++ BinP.enc 1 ++ BinP.text [99] ++ BinP.text [102] ++ BinP.text []) ∧ Grew w7 w') (by simp [go_sem]) ((bin_text A7 n7 c7 _ [] w7.heap.size w7 HO7.out.len HO7.out.sl.2.2.2 (Nat.le_refl _) (by have := HO7.out.len; have h : ([] ++ BinP.enc 0 ++ BinP.enc 1 ++ BinP.enc 1 ++ BinP.text [99] ++ BinP.text [102] : List UInt8).length = 7 := (by decide); simp; omega)).mono fun e w' ⟨A, n, cp, he, h1, h2⟩ => ⟨_, he, A, n, cp, rfl, h1, h2⟩) ?_
  rintro v w8 ⟨A8, n8, c8, rfl, hO, hG⟩
  have HO8 := Lib.hid hO
  have HC := Lib.hid (HC.out.trans hG)
  clear hO hG
  (simp only [Act.put, List.setIfInBounds_toArray, List.set_cons_succ, List.set_cons_zero])
  refine wpList_nil ⟨rfl, HC.out, ?_⟩
  (refine wpAnyC_free 10 (oi := ⟨some 4, _, _, _, _, _⟩) (v := ?_) rfl (by kernel_rfl) (by kernel_rfl) (by kernel_rfl) HC.out rfl (fun x => ?_) ?_; rotate_left; (focus (simp [go_sem]; (try go_ints); first | done | (with_reducible rfl))); (simp only [Act.put, List.setIfInBounds_toArray, List.set_cons_succ, List.set_cons_zero]))
  refine wpAnyC_done (by kernel_rfl) (fun _ => ?_) _
  have HA8 := Lib.hid (HA5.out.grew HC.out)
  have HG8 := Lib.hid (HG5.out.trans HC.out)
  have h8 : n8 = 8 := by have := HO8.out.len; have h : ([] ++ BinP.enc 0 ++ BinP.enc 1 ++ BinP.enc 1 ++ BinP.text [99] ++ BinP.text [102] ++ BinP.text [] : List UInt8).length = 8 := (by decide); omega
  have HU := Lib.hid (bin_uint A8 n8 c8 0 _ w8.heap.size w8 HO8.out.len HO8.out.sl.2.2.2 (Nat.le_refl _) (by omega) (by decide))
  clear HC HO5 HO6 HO7 HA5 h5 h8
  obtain ⟨c0, c1, c2, c3, c4, c5', c6'⟩ := ev_cells HA8.out
  go_upto_region 6 with (go_at_call 18; refine HU.out.mono ?_; rintro e w9 ⟨A9, n9, c9, rfl, hO, hG⟩; have HO9 := Lib.hid hO; have HG9 := Lib.hid (show Grew w8 w9 from hG); clear hO hG)
  clear c0 c1 c2 c3 c4 c5' c6'
  obtain ⟨c0, c1, c2, c3, c4, c5', c6'⟩ := ev_cells (HA8.out.grew HG9.out)
  go_wp2_with fail
  refine wp_loop_rounds 1 ?_
  rw [rounds_succ]
  go_wp2_with fail
  go_ret2
  have hO9 := Own.lower HO9.out HG8.out.size
  rw [List.nil_append, eb_eq] at hO9
  exact ⟨A9, n9, c9, rfl, hO9, HG8.out.trans HG9.out⟩
end Go.Proofs.Ytafhkjljalmheaa
