/- Pull and ResyncAck, decoded. -/
import Derived.Test.YtafhkjljalmheaaProtoD
namespace Go.Proofs.Ytafhkjljalmheaa
open Go.RowKit
set_option linter.unusedVariables false
theorem dec_pull_one1 : ∀ v ∈ [(.int .u64 1 : Value), .int .u64 300, .int .i64 8], v.oneCell' = true := by intro v hv; simp only [List.mem_cons, List.not_mem_nil, or_false] at hv; rcases hv with rfl | rfl | rfl <;> rfl
set_option maxRecDepth 10000 in
set_option maxHeartbeats 4000000 in
theorem dec_pull (A : Option Addr) (n c : Nat) (w : World) (h : Sl w w.heap.size A n c [1, 172, 2, 8]) :
    Calls Try.prog 27 #[.slice A n c] w fun e w' => e = .returned (.tuple #[.agg #[.int .u64 1, .int .u64 300, .int .i64 8], .int .i64 0]) ∧ Grew w w' := by
  obtain ⟨w1, hw1⟩ : ∃ W, W = w.alloc (.cells #[.int .u64 0, .int .u64 0, .int .i64 0] 53) := ⟨_, rfl⟩
  obtain ⟨b2, hb2⟩ : ∃ b, b = w.heap.size := ⟨_, rfl⟩
  have HG1 := Lib.hid (show Grew w w1 by rw [hw1]; exact grew_alloc w _)
  have HA1 := Lib.hid (show ArrV w1 b2 [.int .u64 0, .int .u64 0, .int .i64 0] by rw [hw1, hb2]; exact ArrV.made w _ _)
  have HB := Lib.hid (show b2 < w1.heap.size ∧ w.heap.size ≤ b2 by rw [hw1, hb2]; simp)
  have HE := Lib.hid (And.intro hw1 hb2)
  have HS1 := Lib.hid (h.grew HG1.out)
  have HR := Lib.hid (p_read A n c [1, 172, 2, 8] w1 HS1.out (by decide))
  clear hw1 hb2 h
  go_enter Try.func27, Try.ntmps27
  go_upto_region 1 with fail
  rw [← HE.out.1, ← HE.out.2]
  go_upto_region 2 with (go_at_call 37; refine HR.out.mono ?_; rintro e w2 ⟨gr, g, base, rfl, hP, hlo, hG⟩; have HP2 := Lib.hid hP; have HG2 := Lib.hid hG; have HLo := Lib.hid (show w1.heap.size ≤ g ∧ w1.heap.size ≤ gr ∧ gr ≠ b2 by have := hP.ne; have := HB.out; omega); clear hP hlo hG)
  clear HR
  have HPd := Lib.hid (HP2.out.drewN 1)
  have HGd := Lib.hid (show Grew w1 (World.drewN w2 1) from HG2.out.trans (Grew.drewN w2 1))
  have HC := Lib.hid (show (World.drewN w2 1).cell? ⟨gr, 0, none⟩ = some (.pointer (some ⟨g, 0, none⟩)) from HPd.out.cells.1)
  have hqq : ∀ V : { V : World // V.cell? ⟨gr, 0, none⟩ = some (.pointer (some ⟨g, 0, none⟩)) }, V.1.cell? ⟨gr, 0, none⟩ = some (.pointer (some ⟨g, 0, none⟩)) := fun V => V.2
  refine wp_region_c (fun V => V.cell? ⟨gr, 0, none⟩ = some (.pointer (some ⟨g, 0, none⟩))) (by kernel_rfl) HC.out ?_
  (refine wpAnyC_free 0 (oi := ⟨some 7, _, _, _, _, _⟩) (v := ?_) rfl (by kernel_rfl) (by kernel_rfl) (by kernel_rfl) HC.out rfl (fun x => ?_) ?_; rotate_left; (focus (simp [go_sem]; (try go_ints); first | done | (with_reducible rfl))); (simp only [Act.put, List.setIfInBounds_toArray, List.set_cons_succ, List.set_cons_zero]))
  (refine wpAnyC_free 1 (oi := ⟨some 8, _, _, _, _, _⟩) (v := ?_) rfl (by kernel_rfl) (by kernel_rfl) (by kernel_rfl) HC.out rfl (fun x => ?_) ?_; rotate_left; (focus (simp [go_sem]; (try go_ints); first | done | (with_reducible rfl))); (simp only [Act.put, List.setIfInBounds_toArray, List.set_cons_succ, List.set_cons_zero]))
  (refine wpAnyC_free 2 (oi := ⟨some 9, _, _, _, _, _⟩) (v := ?_) rfl (by kernel_rfl) (by kernel_rfl) (by kernel_rfl) HC.out rfl (fun x => ?_) ?_; rotate_left; (focus (simp [go_sem]; (try go_ints); first | done | (with_reducible rfl))); (simp only [Act.put, List.setIfInBounds_toArray, List.set_cons_succ, List.set_cons_zero]))
  (refine wpAnyC_free 3 (oi := ⟨some 10, _, _, _, _, _⟩) (v := ?_) rfl (by kernel_rfl) (by kernel_rfl) (by kernel_rfl) HC.out rfl (fun x => ?_) ?_; rotate_left; (focus (simp [go_sem]; (try go_ints); first | done | (with_reducible rfl))); (simp only [Act.put, List.setIfInBounds_toArray, List.set_cons_succ, List.set_cons_zero]))
  (refine wpAnyC_free 4 (oi := ⟨some 11, _, _, _, _, _⟩) (v := ?_) rfl (by kernel_rfl) (by kernel_rfl) (by kernel_rfl) HC.out rfl (fun x => ?_) ?_; rotate_left; (focus (simp [go_sem, hqq]; (try go_ints); first | done | (with_reducible rfl))); (simp only [Act.put, List.setIfInBounds_toArray, List.set_cons_succ, List.set_cons_zero]))
  (refine wpAnyC_free 6 (oi := ⟨some 13, _, _, _, _, _⟩) (v := ?_) rfl (by kernel_rfl) (by kernel_rfl) (by kernel_rfl) HC.out rfl (fun x => ?_) ?_; rotate_left; (focus (simp [go_sem]; (try go_ints); first | done | (with_reducible rfl))); (simp only [Act.put, List.setIfInBounds_toArray, List.set_cons_succ, List.set_cons_zero]))
  (refine wpAnyC_free 7 (oi := ⟨some 14, _, _, _, _, _⟩) (v := ?_) rfl (by kernel_rfl) (by kernel_rfl) (by kernel_rfl) HC.out rfl (fun x => ?_) ?_; rotate_left; (focus (simp [go_sem]; (try go_ints); first | done | (with_reducible rfl))); (simp only [Act.put, List.setIfInBounds_toArray, List.set_cons_succ, List.set_cons_zero]))
  (refine wpAnyC_free 8 (oi := ⟨some 15, _, _, _, _, _⟩) (v := ?_) rfl (by kernel_rfl) (by kernel_rfl) (by kernel_rfl) HC.out rfl (fun x => ?_) ?_; rotate_left; (focus (simp [go_sem]; (try go_ints); first | done | (with_reducible rfl))); (simp only [Act.put, List.setIfInBounds_toArray, List.set_cons_succ, List.set_cons_zero]))
  (refine wpAnyC_free 9 (oi := ⟨some 16, _, _, _, _, _⟩) (v := ?_) rfl (by kernel_rfl) (by kernel_rfl) (by kernel_rfl) HC.out rfl (fun x => ?_) ?_; rotate_left; (focus (simp [go_sem, hqq]; (try go_ints); first | done | (with_reducible rfl))); (simp only [Act.put, List.setIfInBounds_toArray, List.set_cons_succ, List.set_cons_zero]))
  (refine wpAnyC_free 11 (oi := ⟨some 18, _, _, _, _, _⟩) (v := ?_) rfl (by kernel_rfl) (by kernel_rfl) (by kernel_rfl) HC.out rfl (fun x => ?_) ?_; rotate_left; (focus (simp [go_sem]; (try go_ints); first | done | (with_reducible rfl))); (simp only [Act.put, List.setIfInBounds_toArray, List.set_cons_succ, List.set_cons_zero]))
  (refine wpAnyC_free 12 (oi := ⟨some 19, _, _, _, _, _⟩) (v := ?_) rfl (by kernel_rfl) (by kernel_rfl) (by kernel_rfl) HC.out rfl (fun x => ?_) ?_; rotate_left; (focus (simp [go_sem]; (try go_ints); first | done | (with_reducible rfl))); (simp only [Act.put, List.setIfInBounds_toArray, List.set_cons_succ, List.set_cons_zero]))
  (refine wpAnyC_free 13 (oi := ⟨some 20, _, _, _, _, _⟩) (v := ?_) rfl (by kernel_rfl) (by kernel_rfl) (by kernel_rfl) HC.out rfl (fun x => ?_) ?_; rotate_left; (focus (simp [go_sem]; (try go_ints); first | done | (with_reducible rfl))); (simp only [Act.put, List.setIfInBounds_toArray, List.set_cons_succ, List.set_cons_zero]))
  (refine wpAnyC_free 14 (oi := ⟨some 21, _, _, _, _, _⟩) (v := ?_) rfl (by kernel_rfl) (by kernel_rfl) (by kernel_rfl) HC.out rfl (fun x => ?_) ?_; rotate_left; (focus (simp [go_sem, hqq]; (try go_ints); first | done | (with_reducible rfl))); (simp only [Act.put, List.setIfInBounds_toArray, List.set_cons_succ, List.set_cons_zero]))
  (refine wpAnyC_free 17 (oi := ⟨some 24, _, _, _, _, _⟩) (v := ?_) rfl (by kernel_rfl) (by kernel_rfl) (by kernel_rfl) HC.out rfl (fun x => ?_) ?_; rotate_left; (focus (simp [go_sem]; (try go_ints); first | done | (with_reducible rfl))); (simp only [Act.put, List.setIfInBounds_toArray, List.set_cons_succ, List.set_cons_zero]))
  change wpAnyC _ _ _ _ _ _ _ _ (World.drewN w2 1)
  obtain ⟨wd, hwd⟩ : ∃ W, W = World.drewN w2 1 := ⟨_, rfl⟩
  rw [← hwd] at HC HPd HGd ⊢
  clear hwd hqq HP2
  refine wpAnyC_step 5 (o := ⟨some 12, _, _, _, _, _⟩) rfl (by kernel_rfl) rfl ?_
  refine wpList_callR rfl _ _ (fun v w' => v = .int .u64 1 ∧ RdS w' base g (some [172, 2, 8]) ∧ wd.grownBy w' (some g)) (by simp [go_sem]) ((rdu HPd.out.2.1 (v := 1) (st' := some [172, 2, 8]) (i := 1) (by decide +kernel) rfl).mono fun e w' ⟨he, h1, h2⟩ => ⟨_, he, rfl, h1, h2⟩) ?_
  rintro v w3 ⟨rfl, hR, hg⟩
  have HP3 := Lib.hid (HPd.out.step hR hg)
  have HG3 := Lib.hid (new_bad wd g hg HGd.out HLo.out.1)
  have HC := Lib.hid HP3.out.cells.1
  clear hR hg HPd
  (simp only [Act.put, List.setIfInBounds_toArray, List.set_cons_succ, List.set_cons_zero])
  refine wpList_nil ⟨rfl, HC.out, ?_⟩
  refine wpAnyC_step 10 (o := ⟨some 17, _, _, _, _, _⟩) rfl (by kernel_rfl) rfl ?_
  refine wpList_callR rfl _ _ (fun v w' => v = .int .u64 300 ∧ RdS w' base g (some [8]) ∧ w3.grownBy w' (some g)) (by simp [go_sem]) ((rdu HP3.out.2.1 (v := 300) (st' := some [8]) (i := 300) (by decide +kernel) rfl).mono fun e w' ⟨he, h1, h2⟩ => ⟨_, he, rfl, h1, h2⟩) ?_
  rintro v w4 ⟨rfl, hR, hg⟩
  have HP4 := Lib.hid (HP3.out.step hR hg)
  have HG4 := Lib.hid (new_bad w3 g hg HG3.out HLo.out.1)
  have HC := Lib.hid HP4.out.cells.1
  clear hR hg HP3
  (simp only [Act.put, List.setIfInBounds_toArray, List.set_cons_succ, List.set_cons_zero])
  refine wpList_nil ⟨rfl, HC.out, ?_⟩
  refine wpAnyC_step 15 (o := ⟨some 22, _, _, _, _, _⟩) rfl (by kernel_rfl) rfl ?_
  refine wpList_callR rfl _ _ (fun v w' => v = .int .i64 8 ∧ RdS w' base g (some []) ∧ w4.grownBy w' (some g)) (by simp [go_sem]) ((rdi HP4.out.2.1 (a := 1000) (v := 8) (st' := some []) (i := 8) (by decide +kernel) rfl rfl).mono fun e w' ⟨he, h1, h2⟩ => ⟨_, he, rfl, h1, h2⟩) ?_
  rintro v w6 ⟨rfl, hR, hg⟩
  have HP6 := Lib.hid (HP4.out.step hR hg)
  have HG6 := Lib.hid (new_bad w4 g hg HG4.out HLo.out.1)
  have HC := Lib.hid HP6.out.cells.1
  clear hR hg HP4
  (simp only [Act.put, List.setIfInBounds_toArray, List.set_cons_succ, List.set_cons_zero])
  refine wpList_nil ⟨rfl, HC.out, ?_⟩
  (refine wpAnyC_free 16 (oi := ⟨some 23, _, _, _, _, _⟩) (v := ?_) rfl (by kernel_rfl) (by kernel_rfl) (by kernel_rfl) HC.out rfl (fun x => ?_) ?_; rotate_left; (focus (simp [go_sem]; (try go_ints); first | done | (with_reducible rfl))); (simp only [Act.put, List.setIfInBounds_toArray, List.set_cons_succ, List.set_cons_zero]))
  have HB6 := Lib.hid (HS1.out.grew HG6.out)
  have HD := Lib.hid (dec_pull_ok gr g base A n c [1, 172, 2, 8] _ w6 HP6.out HB6.out (fun W _ => enc_pull 1 300 8 8 false W (by decide) (by decide) (by decide) (by decide) (by decide)) rfl)
  refine wpAnyC_step 18 (o := ⟨some 25, _, _, _, _, _⟩) rfl (by kernel_rfl) rfl ?_
  refine wpList_callR rfl _ _ (fun v w' => v = .tuple #[.agg #[.int .u64 1, .int .u64 300, .int .i64 8], .int .i64 0] ∧ Grew w6 w') (by simp [go_sem]) (HD.out.mono fun e w' ⟨he, h1⟩ => ⟨_, he, rfl, h1⟩) ?_
  rintro v w7 ⟨rfl, hG⟩
  have HP7 := Lib.hid (HP6.out.grew hG)
  have HG7 := Lib.hid (HG6.out.trans hG)
  have HC := Lib.hid HP7.out.cells.1
  clear hG HP6 HD
  (simp only [Act.put, List.setIfInBounds_toArray, List.set_cons_succ, List.set_cons_zero])
  refine wpList_nil ⟨rfl, HC.out, ?_⟩
  (refine wpAnyC_free 19 (oi := ⟨some 26, _, _, _, _, _⟩) (v := ?_) rfl (by kernel_rfl) (by kernel_rfl) (by kernel_rfl) HC.out rfl (fun x => ?_) ?_; rotate_left; (focus (simp [go_sem]; (try go_ints); first | done | (with_reducible rfl))); (simp only [Act.put, List.setIfInBounds_toArray, List.set_cons_succ, List.set_cons_zero]))
  (refine wpAnyC_free 20 (oi := ⟨some 27, _, _, _, _, _⟩) (v := ?_) rfl (by kernel_rfl) (by kernel_rfl) (by kernel_rfl) HC.out rfl (fun x => ?_) ?_; rotate_left; (focus (simp [go_sem]; (try go_ints); first | done | (with_reducible rfl))); (simp only [Act.put, List.setIfInBounds_toArray, List.set_cons_succ, List.set_cons_zero]))
  have HA7 := Lib.hid (HA1.out.grew HG7.out)
  have HT := Lib.hid (show w7.there b2 0 (#[.int .u64 1, .int .u64 300, .int .i64 8] : Array Value).size from HA7.out.there)
  have HA8 := Lib.hid (HA7.out.stored (vs := [.int .u64 1, .int .u64 300, .int .i64 8]) rfl)
  have HZ := Lib.hid (show (Try.prog.info? 53).map (·.size) = some (#[.int .u64 1, .int .u64 300, .int .i64 8] : Array Value).size by kernel_rfl)
  refine wpAnyC_step 21 (o := ⟨none, _, _, _, _, _⟩) rfl (by kernel_rfl) rfl ?_
  refine wpList_store_mid rfl 53 (.tmp 2) (.tmp 26) rfl b2 0 #[.int .u64 1, .int .u64 300, .int .i64 8] rfl rfl HT.out HZ.out (all_oneCell_toArray dec_pull_one1) ?_
  obtain ⟨w8, hw8⟩ : ∃ W, W = w7.setCells b2 0 [.int .u64 1, .int .u64 300, .int .i64 8] := ⟨_, rfl⟩
  have hg8 : w7.grownBy w8 (some b2) := by rw [hw8]; exact grown_setCells b2 _ 0 w7
  rw [← hw8] at HA8
  have HC := Lib.hid (show w8.cell? ⟨gr, 0, none⟩ = some (.pointer (some ⟨g, 0, none⟩)) from (World.cell?_of_block (hg8.block gr HP7.out.ne.2.1 (fun e => HLo.out.2.2 (by injection e)))).trans HC.out)
  have HG8 := Lib.hid (Below.grown (HG1.out.trans HG7.out) hg8 (HG1.out.trans HG7.out).size (fun k e => by injection e with e; rw [← e]; exact HB.out.2))
  rw [show w7.setCells b2 0 (#[.int .u64 1, .int .u64 300, .int .i64 8] : Array Value).toList = w8 from hw8.symm]
  clear hw8 hg8
  refine wpList_nil ⟨rfl, HC.out, ?_⟩
  (refine wpAnyC_free 22 (oi := ⟨some 3, _, _, _, _, _⟩) (v := ?_) rfl (by kernel_rfl) (by kernel_rfl) (by kernel_rfl) HC.out rfl (fun x => ?_) ?_; rotate_left; (focus (simp [go_sem]; (try go_ints); first | done | (with_reducible rfl))); (simp only [Act.put, List.setIfInBounds_toArray, List.set_cons_succ, List.set_cons_zero]))
  refine wpAnyC_done (by kernel_rfl) (fun _ => ?_) _
  go_wp2_with fail
  have HLV := run_loadVar_mid (P := Try.prog) w8 b2 0 53 [.int .u64 1, .int .u64 300, .int .i64 8] _ HA8.out.range Try.underlying53 rfl (by kernel_rfl)
  refine bodyPost_ret (v := .tuple #[.agg #[.int .u64 1, .int .u64 300, .int .i64 8], .int .i64 0]) (by simp [results, Try.results27, asAddr, HLV]) rfl ⟨rfl, HG8.out⟩
theorem dec_pull0_one1 : ∀ v ∈ [(.int .u64 0 : Value), .int .u64 0, .int .i64 0], v.oneCell' = true := by intro v hv; simp only [List.mem_cons, List.not_mem_nil, or_false] at hv; rcases hv with rfl | rfl | rfl <;> rfl
set_option maxRecDepth 10000 in
set_option maxHeartbeats 4000000 in
theorem dec_pull0 (A : Option Addr) (n c : Nat) (w : World) (h : Sl w w.heap.size A n c [1, 172]) :
    Calls Try.prog 27 #[.slice A n c] w fun e w' => e = .returned (.tuple #[.agg #[.int .u64 0, .int .u64 0, .int .i64 0], .int .i64 14]) ∧ Grew w w' := by
  obtain ⟨w1, hw1⟩ : ∃ W, W = w.alloc (.cells #[.int .u64 0, .int .u64 0, .int .i64 0] 53) := ⟨_, rfl⟩
  obtain ⟨b2, hb2⟩ : ∃ b, b = w.heap.size := ⟨_, rfl⟩
  have HG1 := Lib.hid (show Grew w w1 by rw [hw1]; exact grew_alloc w _)
  have HA1 := Lib.hid (show ArrV w1 b2 [.int .u64 0, .int .u64 0, .int .i64 0] by rw [hw1, hb2]; exact ArrV.made w _ _)
  have HB := Lib.hid (show b2 < w1.heap.size ∧ w.heap.size ≤ b2 by rw [hw1, hb2]; simp)
  have HE := Lib.hid (And.intro hw1 hb2)
  have HS1 := Lib.hid (h.grew HG1.out)
  have HR := Lib.hid (p_read A n c [1, 172] w1 HS1.out (by decide))
  clear hw1 hb2 h
  go_enter Try.func27, Try.ntmps27
  go_upto_region 1 with fail
  rw [← HE.out.1, ← HE.out.2]
  go_upto_region 2 with (go_at_call 37; refine HR.out.mono ?_; rintro e w2 ⟨gr, g, base, rfl, hP, hlo, hG⟩; have HP2 := Lib.hid hP; have HG2 := Lib.hid hG; have HLo := Lib.hid (show w1.heap.size ≤ g ∧ w1.heap.size ≤ gr ∧ gr ≠ b2 by have := hP.ne; have := HB.out; omega); clear hP hlo hG)
  clear HR
  have HPd := Lib.hid (HP2.out.drewN 1)
  have HGd := Lib.hid (show Grew w1 (World.drewN w2 1) from HG2.out.trans (Grew.drewN w2 1))
  have HC := Lib.hid (show (World.drewN w2 1).cell? ⟨gr, 0, none⟩ = some (.pointer (some ⟨g, 0, none⟩)) from HPd.out.cells.1)
  have hqq : ∀ V : { V : World // V.cell? ⟨gr, 0, none⟩ = some (.pointer (some ⟨g, 0, none⟩)) }, V.1.cell? ⟨gr, 0, none⟩ = some (.pointer (some ⟨g, 0, none⟩)) := fun V => V.2
  refine wp_region_c (fun V => V.cell? ⟨gr, 0, none⟩ = some (.pointer (some ⟨g, 0, none⟩))) (by kernel_rfl) HC.out ?_
  (refine wpAnyC_free 0 (oi := ⟨some 7, _, _, _, _, _⟩) (v := ?_) rfl (by kernel_rfl) (by kernel_rfl) (by kernel_rfl) HC.out rfl (fun x => ?_) ?_; rotate_left; (focus (simp [go_sem]; (try go_ints); first | done | (with_reducible rfl))); (simp only [Act.put, List.setIfInBounds_toArray, List.set_cons_succ, List.set_cons_zero]))
  (refine wpAnyC_free 1 (oi := ⟨some 8, _, _, _, _, _⟩) (v := ?_) rfl (by kernel_rfl) (by kernel_rfl) (by kernel_rfl) HC.out rfl (fun x => ?_) ?_; rotate_left; (focus (simp [go_sem]; (try go_ints); first | done | (with_reducible rfl))); (simp only [Act.put, List.setIfInBounds_toArray, List.set_cons_succ, List.set_cons_zero]))
  (refine wpAnyC_free 2 (oi := ⟨some 9, _, _, _, _, _⟩) (v := ?_) rfl (by kernel_rfl) (by kernel_rfl) (by kernel_rfl) HC.out rfl (fun x => ?_) ?_; rotate_left; (focus (simp [go_sem]; (try go_ints); first | done | (with_reducible rfl))); (simp only [Act.put, List.setIfInBounds_toArray, List.set_cons_succ, List.set_cons_zero]))
  (refine wpAnyC_free 3 (oi := ⟨some 10, _, _, _, _, _⟩) (v := ?_) rfl (by kernel_rfl) (by kernel_rfl) (by kernel_rfl) HC.out rfl (fun x => ?_) ?_; rotate_left; (focus (simp [go_sem]; (try go_ints); first | done | (with_reducible rfl))); (simp only [Act.put, List.setIfInBounds_toArray, List.set_cons_succ, List.set_cons_zero]))
  (refine wpAnyC_free 4 (oi := ⟨some 11, _, _, _, _, _⟩) (v := ?_) rfl (by kernel_rfl) (by kernel_rfl) (by kernel_rfl) HC.out rfl (fun x => ?_) ?_; rotate_left; (focus (simp [go_sem, hqq]; (try go_ints); first | done | (with_reducible rfl))); (simp only [Act.put, List.setIfInBounds_toArray, List.set_cons_succ, List.set_cons_zero]))
  (refine wpAnyC_free 6 (oi := ⟨some 13, _, _, _, _, _⟩) (v := ?_) rfl (by kernel_rfl) (by kernel_rfl) (by kernel_rfl) HC.out rfl (fun x => ?_) ?_; rotate_left; (focus (simp [go_sem]; (try go_ints); first | done | (with_reducible rfl))); (simp only [Act.put, List.setIfInBounds_toArray, List.set_cons_succ, List.set_cons_zero]))
  (refine wpAnyC_free 7 (oi := ⟨some 14, _, _, _, _, _⟩) (v := ?_) rfl (by kernel_rfl) (by kernel_rfl) (by kernel_rfl) HC.out rfl (fun x => ?_) ?_; rotate_left; (focus (simp [go_sem]; (try go_ints); first | done | (with_reducible rfl))); (simp only [Act.put, List.setIfInBounds_toArray, List.set_cons_succ, List.set_cons_zero]))
  (refine wpAnyC_free 8 (oi := ⟨some 15, _, _, _, _, _⟩) (v := ?_) rfl (by kernel_rfl) (by kernel_rfl) (by kernel_rfl) HC.out rfl (fun x => ?_) ?_; rotate_left; (focus (simp [go_sem]; (try go_ints); first | done | (with_reducible rfl))); (simp only [Act.put, List.setIfInBounds_toArray, List.set_cons_succ, List.set_cons_zero]))
  (refine wpAnyC_free 9 (oi := ⟨some 16, _, _, _, _, _⟩) (v := ?_) rfl (by kernel_rfl) (by kernel_rfl) (by kernel_rfl) HC.out rfl (fun x => ?_) ?_; rotate_left; (focus (simp [go_sem, hqq]; (try go_ints); first | done | (with_reducible rfl))); (simp only [Act.put, List.setIfInBounds_toArray, List.set_cons_succ, List.set_cons_zero]))
  (refine wpAnyC_free 11 (oi := ⟨some 18, _, _, _, _, _⟩) (v := ?_) rfl (by kernel_rfl) (by kernel_rfl) (by kernel_rfl) HC.out rfl (fun x => ?_) ?_; rotate_left; (focus (simp [go_sem]; (try go_ints); first | done | (with_reducible rfl))); (simp only [Act.put, List.setIfInBounds_toArray, List.set_cons_succ, List.set_cons_zero]))
  (refine wpAnyC_free 12 (oi := ⟨some 19, _, _, _, _, _⟩) (v := ?_) rfl (by kernel_rfl) (by kernel_rfl) (by kernel_rfl) HC.out rfl (fun x => ?_) ?_; rotate_left; (focus (simp [go_sem]; (try go_ints); first | done | (with_reducible rfl))); (simp only [Act.put, List.setIfInBounds_toArray, List.set_cons_succ, List.set_cons_zero]))
  (refine wpAnyC_free 13 (oi := ⟨some 20, _, _, _, _, _⟩) (v := ?_) rfl (by kernel_rfl) (by kernel_rfl) (by kernel_rfl) HC.out rfl (fun x => ?_) ?_; rotate_left; (focus (simp [go_sem]; (try go_ints); first | done | (with_reducible rfl))); (simp only [Act.put, List.setIfInBounds_toArray, List.set_cons_succ, List.set_cons_zero]))
  (refine wpAnyC_free 14 (oi := ⟨some 21, _, _, _, _, _⟩) (v := ?_) rfl (by kernel_rfl) (by kernel_rfl) (by kernel_rfl) HC.out rfl (fun x => ?_) ?_; rotate_left; (focus (simp [go_sem, hqq]; (try go_ints); first | done | (with_reducible rfl))); (simp only [Act.put, List.setIfInBounds_toArray, List.set_cons_succ, List.set_cons_zero]))
  (refine wpAnyC_free 17 (oi := ⟨some 24, _, _, _, _, _⟩) (v := ?_) rfl (by kernel_rfl) (by kernel_rfl) (by kernel_rfl) HC.out rfl (fun x => ?_) ?_; rotate_left; (focus (simp [go_sem]; (try go_ints); first | done | (with_reducible rfl))); (simp only [Act.put, List.setIfInBounds_toArray, List.set_cons_succ, List.set_cons_zero]))
  change wpAnyC _ _ _ _ _ _ _ _ (World.drewN w2 1)
  obtain ⟨wd, hwd⟩ : ∃ W, W = World.drewN w2 1 := ⟨_, rfl⟩
  rw [← hwd] at HC HPd HGd ⊢
  clear hwd hqq HP2
  refine wpAnyC_step 5 (o := ⟨some 12, _, _, _, _, _⟩) rfl (by kernel_rfl) rfl ?_
  refine wpList_callR rfl _ _ (fun v w' => v = .int .u64 1 ∧ RdS w' base g (some [172]) ∧ wd.grownBy w' (some g)) (by simp [go_sem]) ((rdu HPd.out.2.1 (v := 1) (st' := some [172]) (i := 1) (by decide +kernel) rfl).mono fun e w' ⟨he, h1, h2⟩ => ⟨_, he, rfl, h1, h2⟩) ?_
  rintro v w3 ⟨rfl, hR, hg⟩
  have HP3 := Lib.hid (HPd.out.step hR hg)
  have HG3 := Lib.hid (new_bad wd g hg HGd.out HLo.out.1)
  have HC := Lib.hid HP3.out.cells.1
  clear hR hg HPd
  (simp only [Act.put, List.setIfInBounds_toArray, List.set_cons_succ, List.set_cons_zero])
  refine wpList_nil ⟨rfl, HC.out, ?_⟩
  refine wpAnyC_step 10 (o := ⟨some 17, _, _, _, _, _⟩) rfl (by kernel_rfl) rfl ?_
  refine wpList_callR rfl _ _ (fun v w' => v = .int .u64 0 ∧ RdS w' base g (none) ∧ w3.grownBy w' (some g)) (by simp [go_sem]) ((rdu HP3.out.2.1 (v := 0) (st' := none) (i := 0) (by decide +kernel) rfl).mono fun e w' ⟨he, h1, h2⟩ => ⟨_, he, rfl, h1, h2⟩) ?_
  rintro v w4 ⟨rfl, hR, hg⟩
  have HP4 := Lib.hid (HP3.out.step hR hg)
  have HG4 := Lib.hid (new_bad w3 g hg HG3.out HLo.out.1)
  have HC := Lib.hid HP4.out.cells.1
  clear hR hg HP3
  (simp only [Act.put, List.setIfInBounds_toArray, List.set_cons_succ, List.set_cons_zero])
  refine wpList_nil ⟨rfl, HC.out, ?_⟩
  refine wpAnyC_step 15 (o := ⟨some 22, _, _, _, _, _⟩) rfl (by kernel_rfl) rfl ?_
  refine wpList_callR rfl _ _ (fun v w' => v = .int .i64 0 ∧ RdS w' base g (none) ∧ w4.grownBy w' (some g)) (by simp [go_sem]) ((rdi HP4.out.2.1 (a := 1000) (v := 0) (st' := none) (i := 0) (by decide +kernel) rfl rfl).mono fun e w' ⟨he, h1, h2⟩ => ⟨_, he, rfl, h1, h2⟩) ?_
  rintro v w6 ⟨rfl, hR, hg⟩
  have HP6 := Lib.hid (HP4.out.step hR hg)
  have HG6 := Lib.hid (new_bad w4 g hg HG4.out HLo.out.1)
  have HC := Lib.hid HP6.out.cells.1
  clear hR hg HP4
  (simp only [Act.put, List.setIfInBounds_toArray, List.set_cons_succ, List.set_cons_zero])
  refine wpList_nil ⟨rfl, HC.out, ?_⟩
  (refine wpAnyC_free 16 (oi := ⟨some 23, _, _, _, _, _⟩) (v := ?_) rfl (by kernel_rfl) (by kernel_rfl) (by kernel_rfl) HC.out rfl (fun x => ?_) ?_; rotate_left; (focus (simp [go_sem]; (try go_ints); first | done | (with_reducible rfl))); (simp only [Act.put, List.setIfInBounds_toArray, List.set_cons_succ, List.set_cons_zero]))
  have HB6 := Lib.hid (HS1.out.grew HG6.out)
  have HD := Lib.hid (dec_pull_no gr g base A n c [1, 172] _ w6 HP6.out HB6.out (fun W _ => enc_pull 1 0 0 0 false W (by decide) (by decide) (by decide) (by decide) (by decide)))
  refine wpAnyC_step 18 (o := ⟨some 25, _, _, _, _, _⟩) rfl (by kernel_rfl) rfl ?_
  refine wpList_callR rfl _ _ (fun v w' => v = .tuple #[.agg #[.int .u64 0, .int .u64 0, .int .i64 0], .int .i64 14] ∧ Grew w6 w') (by simp [go_sem]) (HD.out.mono fun e w' ⟨he, h1⟩ => ⟨_, he, rfl, h1⟩) ?_
  rintro v w7 ⟨rfl, hG⟩
  have HP7 := Lib.hid (HP6.out.grew hG)
  have HG7 := Lib.hid (HG6.out.trans hG)
  have HC := Lib.hid HP7.out.cells.1
  clear hG HP6 HD
  (simp only [Act.put, List.setIfInBounds_toArray, List.set_cons_succ, List.set_cons_zero])
  refine wpList_nil ⟨rfl, HC.out, ?_⟩
  (refine wpAnyC_free 19 (oi := ⟨some 26, _, _, _, _, _⟩) (v := ?_) rfl (by kernel_rfl) (by kernel_rfl) (by kernel_rfl) HC.out rfl (fun x => ?_) ?_; rotate_left; (focus (simp [go_sem]; (try go_ints); first | done | (with_reducible rfl))); (simp only [Act.put, List.setIfInBounds_toArray, List.set_cons_succ, List.set_cons_zero]))
  (refine wpAnyC_free 20 (oi := ⟨some 27, _, _, _, _, _⟩) (v := ?_) rfl (by kernel_rfl) (by kernel_rfl) (by kernel_rfl) HC.out rfl (fun x => ?_) ?_; rotate_left; (focus (simp [go_sem]; (try go_ints); first | done | (with_reducible rfl))); (simp only [Act.put, List.setIfInBounds_toArray, List.set_cons_succ, List.set_cons_zero]))
  have HA7 := Lib.hid (HA1.out.grew HG7.out)
  have HT := Lib.hid (show w7.there b2 0 (#[.int .u64 0, .int .u64 0, .int .i64 0] : Array Value).size from HA7.out.there)
  have HA8 := Lib.hid (HA7.out.stored (vs := [.int .u64 0, .int .u64 0, .int .i64 0]) rfl)
  have HZ := Lib.hid (show (Try.prog.info? 53).map (·.size) = some (#[.int .u64 0, .int .u64 0, .int .i64 0] : Array Value).size by kernel_rfl)
  refine wpAnyC_step 21 (o := ⟨none, _, _, _, _, _⟩) rfl (by kernel_rfl) rfl ?_
  refine wpList_store_mid rfl 53 (.tmp 2) (.tmp 26) rfl b2 0 #[.int .u64 0, .int .u64 0, .int .i64 0] rfl rfl HT.out HZ.out (all_oneCell_toArray dec_pull0_one1) ?_
  obtain ⟨w8, hw8⟩ : ∃ W, W = w7.setCells b2 0 [.int .u64 0, .int .u64 0, .int .i64 0] := ⟨_, rfl⟩
  have hg8 : w7.grownBy w8 (some b2) := by rw [hw8]; exact grown_setCells b2 _ 0 w7
  rw [← hw8] at HA8
  have HC := Lib.hid (show w8.cell? ⟨gr, 0, none⟩ = some (.pointer (some ⟨g, 0, none⟩)) from (World.cell?_of_block (hg8.block gr HP7.out.ne.2.1 (fun e => HLo.out.2.2 (by injection e)))).trans HC.out)
  have HG8 := Lib.hid (Below.grown (HG1.out.trans HG7.out) hg8 (HG1.out.trans HG7.out).size (fun k e => by injection e with e; rw [← e]; exact HB.out.2))
  rw [show w7.setCells b2 0 (#[.int .u64 0, .int .u64 0, .int .i64 0] : Array Value).toList = w8 from hw8.symm]
  clear hw8 hg8
  refine wpList_nil ⟨rfl, HC.out, ?_⟩
  (refine wpAnyC_free 22 (oi := ⟨some 3, _, _, _, _, _⟩) (v := ?_) rfl (by kernel_rfl) (by kernel_rfl) (by kernel_rfl) HC.out rfl (fun x => ?_) ?_; rotate_left; (focus (simp [go_sem]; (try go_ints); first | done | (with_reducible rfl))); (simp only [Act.put, List.setIfInBounds_toArray, List.set_cons_succ, List.set_cons_zero]))
  refine wpAnyC_done (by kernel_rfl) (fun _ => ?_) _
  go_wp2_with fail
  have HLV := run_loadVar_mid (P := Try.prog) w8 b2 0 53 [.int .u64 0, .int .u64 0, .int .i64 0] _ HA8.out.range Try.underlying53 rfl (by kernel_rfl)
  refine bodyPost_ret (v := .tuple #[.agg #[.int .u64 0, .int .u64 0, .int .i64 0], .int .i64 14]) (by simp [results, Try.results27, asAddr, HLV]) rfl ⟨rfl, HG8.out⟩
set_option maxRecDepth 10000 in
set_option maxHeartbeats 4000000 in
theorem dec_resync (A : Option Addr) (n c : Nat) (w : World) (h : Sl w w.heap.size A n c sb) :
    Calls Try.prog 36 #[.slice A n c] w fun e w' => ∃ A1 n1 c1, e = .returned (.tuple #[.agg #[.int .u64 1, .int .u64 0, .slice A1 n1 c1], .int .i64 0]) ∧ Sl w' w'.heap.size A1 n1 c1 [115] ∧ Grew w w' := by
  obtain ⟨w1, hw1⟩ : ∃ W, W = w.alloc (.cells #[.int .u64 0, .int .u64 0, .slice none 0 0] 83) := ⟨_, rfl⟩
  obtain ⟨b2, hb2⟩ : ∃ b, b = w.heap.size := ⟨_, rfl⟩
  have HG1 := Lib.hid (show Grew w w1 by rw [hw1]; exact grew_alloc w _)
  have HA1 := Lib.hid (show ArrV w1 b2 [.int .u64 0, .int .u64 0, .slice none 0 0] by rw [hw1, hb2]; exact ArrV.made w _ _)
  have HB := Lib.hid (show b2 < w1.heap.size ∧ w.heap.size ≤ b2 by rw [hw1, hb2]; simp)
  have HE := Lib.hid (And.intro hw1 hb2)
  have HS1 := Lib.hid (h.grew HG1.out)
  have HR := Lib.hid (p_read A n c sb w1 HS1.out (by decide))
  clear hw1 hb2 h
  go_enter Try.func36, Try.ntmps36
  go_upto_region 1 with fail
  rw [← HE.out.1, ← HE.out.2]
  go_upto_region 2 with (go_at_call 37; refine HR.out.mono ?_; rintro e w2 ⟨gr, g, base, rfl, hP, hlo, hG⟩; have HP2 := Lib.hid hP; have HG2 := Lib.hid hG; have HLo := Lib.hid (show w1.heap.size ≤ g ∧ w1.heap.size ≤ gr ∧ gr ≠ b2 by have := hP.ne; have := HB.out; omega); clear hP hlo hG)
  clear HR
  have HPd := Lib.hid (HP2.out.drewN 1)
  have HGd := Lib.hid (show Grew w1 (World.drewN w2 1) from HG2.out.trans (Grew.drewN w2 1))
  have HC := Lib.hid (show (World.drewN w2 1).cell? ⟨gr, 0, none⟩ = some (.pointer (some ⟨g, 0, none⟩)) from HPd.out.cells.1)
  have hqq : ∀ V : { V : World // V.cell? ⟨gr, 0, none⟩ = some (.pointer (some ⟨g, 0, none⟩)) }, V.1.cell? ⟨gr, 0, none⟩ = some (.pointer (some ⟨g, 0, none⟩)) := fun V => V.2
  refine wp_region_c (fun V => V.cell? ⟨gr, 0, none⟩ = some (.pointer (some ⟨g, 0, none⟩))) (by kernel_rfl) HC.out ?_
  (refine wpAnyC_free 0 (oi := ⟨some 7, _, _, _, _, _⟩) (v := ?_) rfl (by kernel_rfl) (by kernel_rfl) (by kernel_rfl) HC.out rfl (fun x => ?_) ?_; rotate_left; (focus (simp [go_sem]; (try go_ints); first | done | (with_reducible rfl))); (simp only [Act.put, List.setIfInBounds_toArray, List.set_cons_succ, List.set_cons_zero]))
  (refine wpAnyC_free 1 (oi := ⟨some 8, _, _, _, _, _⟩) (v := ?_) rfl (by kernel_rfl) (by kernel_rfl) (by kernel_rfl) HC.out rfl (fun x => ?_) ?_; rotate_left; (focus (simp [go_sem]; (try go_ints); first | done | (with_reducible rfl))); (simp only [Act.put, List.setIfInBounds_toArray, List.set_cons_succ, List.set_cons_zero]))
  (refine wpAnyC_free 2 (oi := ⟨some 9, _, _, _, _, _⟩) (v := ?_) rfl (by kernel_rfl) (by kernel_rfl) (by kernel_rfl) HC.out rfl (fun x => ?_) ?_; rotate_left; (focus (simp [go_sem]; (try go_ints); first | done | (with_reducible rfl))); (simp only [Act.put, List.setIfInBounds_toArray, List.set_cons_succ, List.set_cons_zero]))
  (refine wpAnyC_free 3 (oi := ⟨some 10, _, _, _, _, _⟩) (v := ?_) rfl (by kernel_rfl) (by kernel_rfl) (by kernel_rfl) HC.out rfl (fun x => ?_) ?_; rotate_left; (focus (simp [go_sem]; (try go_ints); first | done | (with_reducible rfl))); (simp only [Act.put, List.setIfInBounds_toArray, List.set_cons_succ, List.set_cons_zero]))
  (refine wpAnyC_free 4 (oi := ⟨some 11, _, _, _, _, _⟩) (v := ?_) rfl (by kernel_rfl) (by kernel_rfl) (by kernel_rfl) HC.out rfl (fun x => ?_) ?_; rotate_left; (focus (simp [go_sem, hqq]; (try go_ints); first | done | (with_reducible rfl))); (simp only [Act.put, List.setIfInBounds_toArray, List.set_cons_succ, List.set_cons_zero]))
  (refine wpAnyC_free 6 (oi := ⟨some 13, _, _, _, _, _⟩) (v := ?_) rfl (by kernel_rfl) (by kernel_rfl) (by kernel_rfl) HC.out rfl (fun x => ?_) ?_; rotate_left; (focus (simp [go_sem]; (try go_ints); first | done | (with_reducible rfl))); (simp only [Act.put, List.setIfInBounds_toArray, List.set_cons_succ, List.set_cons_zero]))
  (refine wpAnyC_free 7 (oi := ⟨some 14, _, _, _, _, _⟩) (v := ?_) rfl (by kernel_rfl) (by kernel_rfl) (by kernel_rfl) HC.out rfl (fun x => ?_) ?_; rotate_left; (focus (simp [go_sem]; (try go_ints); first | done | (with_reducible rfl))); (simp only [Act.put, List.setIfInBounds_toArray, List.set_cons_succ, List.set_cons_zero]))
  (refine wpAnyC_free 8 (oi := ⟨some 15, _, _, _, _, _⟩) (v := ?_) rfl (by kernel_rfl) (by kernel_rfl) (by kernel_rfl) HC.out rfl (fun x => ?_) ?_; rotate_left; (focus (simp [go_sem]; (try go_ints); first | done | (with_reducible rfl))); (simp only [Act.put, List.setIfInBounds_toArray, List.set_cons_succ, List.set_cons_zero]))
  (refine wpAnyC_free 9 (oi := ⟨some 16, _, _, _, _, _⟩) (v := ?_) rfl (by kernel_rfl) (by kernel_rfl) (by kernel_rfl) HC.out rfl (fun x => ?_) ?_; rotate_left; (focus (simp [go_sem, hqq]; (try go_ints); first | done | (with_reducible rfl))); (simp only [Act.put, List.setIfInBounds_toArray, List.set_cons_succ, List.set_cons_zero]))
  (refine wpAnyC_free 11 (oi := ⟨some 18, _, _, _, _, _⟩) (v := ?_) rfl (by kernel_rfl) (by kernel_rfl) (by kernel_rfl) HC.out rfl (fun x => ?_) ?_; rotate_left; (focus (simp [go_sem]; (try go_ints); first | done | (with_reducible rfl))); (simp only [Act.put, List.setIfInBounds_toArray, List.set_cons_succ, List.set_cons_zero]))
  (refine wpAnyC_free 12 (oi := ⟨some 19, _, _, _, _, _⟩) (v := ?_) rfl (by kernel_rfl) (by kernel_rfl) (by kernel_rfl) HC.out rfl (fun x => ?_) ?_; rotate_left; (focus (simp [go_sem]; (try go_ints); first | done | (with_reducible rfl))); (simp only [Act.put, List.setIfInBounds_toArray, List.set_cons_succ, List.set_cons_zero]))
  (refine wpAnyC_free 13 (oi := ⟨some 20, _, _, _, _, _⟩) (v := ?_) rfl (by kernel_rfl) (by kernel_rfl) (by kernel_rfl) HC.out rfl (fun x => ?_) ?_; rotate_left; (focus (simp [go_sem]; (try go_ints); first | done | (with_reducible rfl))); (simp only [Act.put, List.setIfInBounds_toArray, List.set_cons_succ, List.set_cons_zero]))
  (refine wpAnyC_free 14 (oi := ⟨some 21, _, _, _, _, _⟩) (v := ?_) rfl (by kernel_rfl) (by kernel_rfl) (by kernel_rfl) HC.out rfl (fun x => ?_) ?_; rotate_left; (focus (simp [go_sem, hqq]; (try go_ints); first | done | (with_reducible rfl))); (simp only [Act.put, List.setIfInBounds_toArray, List.set_cons_succ, List.set_cons_zero]))
  (refine wpAnyC_free 18 (oi := ⟨some 25, _, _, _, _, _⟩) (v := ?_) rfl (by kernel_rfl) (by kernel_rfl) (by kernel_rfl) HC.out rfl (fun x => ?_) ?_; rotate_left; (focus (simp [go_sem]; (try go_ints); first | done | (with_reducible rfl))); (simp only [Act.put, List.setIfInBounds_toArray, List.set_cons_succ, List.set_cons_zero]))
  change wpAnyC _ _ _ _ _ _ _ _ (World.drewN w2 1)
  obtain ⟨wd, hwd⟩ : ∃ W, W = World.drewN w2 1 := ⟨_, rfl⟩
  rw [← hwd] at HC HPd HGd ⊢
  clear hwd hqq HP2
  refine wpAnyC_step 5 (o := ⟨some 12, _, _, _, _, _⟩) rfl (by kernel_rfl) rfl ?_
  refine wpList_callR rfl _ _ (fun v w' => v = .int .u64 1 ∧ RdS w' base g (some [0, 1, 115]) ∧ wd.grownBy w' (some g)) (by simp [go_sem]) ((rdu HPd.out.2.1 (v := 1) (st' := some [0, 1, 115]) (i := 1) (by decide +kernel) rfl).mono fun e w' ⟨he, h1, h2⟩ => ⟨_, he, rfl, h1, h2⟩) ?_
  rintro v w3 ⟨rfl, hR, hg⟩
  have HP3 := Lib.hid (HPd.out.step hR hg)
  have HG3 := Lib.hid (new_bad wd g hg HGd.out HLo.out.1)
  have HC := Lib.hid HP3.out.cells.1
  clear hR hg HPd
  (simp only [Act.put, List.setIfInBounds_toArray, List.set_cons_succ, List.set_cons_zero])
  refine wpList_nil ⟨rfl, HC.out, ?_⟩
  refine wpAnyC_step 10 (o := ⟨some 17, _, _, _, _, _⟩) rfl (by kernel_rfl) rfl ?_
  refine wpList_callR rfl _ _ (fun v w' => v = .int .u64 0 ∧ RdS w' base g (some [1, 115]) ∧ w3.grownBy w' (some g)) (by simp [go_sem]) ((rdu HP3.out.2.1 (v := 0) (st' := some [1, 115]) (i := 0) (by decide +kernel) rfl).mono fun e w' ⟨he, h1, h2⟩ => ⟨_, he, rfl, h1, h2⟩) ?_
  rintro v w4 ⟨rfl, hR, hg⟩
  have HP4 := Lib.hid (HP3.out.step hR hg)
  have HG4 := Lib.hid (new_bad w3 g hg HG3.out HLo.out.1)
  have HC := Lib.hid HP4.out.cells.1
  clear hR hg HP3
  (simp only [Act.put, List.setIfInBounds_toArray, List.set_cons_succ, List.set_cons_zero])
  refine wpList_nil ⟨rfl, HC.out, ?_⟩
  refine wpAnyC_step 15 (o := ⟨some 22, _, _, _, _, _⟩) rfl (by kernel_rfl) rfl ?_
  refine wpList_callR rfl _ _ (fun v w' => v = .string ⟨[115].toArray⟩ ∧ RdS w' base g (some []) ∧ w4.grownBy w' (some g)) (by simp [go_sem]) ((rdt HP4.out.2.1 (a := 16284) (s := [115]) (st' := some []) (b := ⟨[115].toArray⟩) (by decide +kernel) rfl rfl).mono fun e w' ⟨he, h1, h2⟩ => ⟨_, he, rfl, h1, h2⟩) ?_
  rintro v w5 ⟨rfl, hR, hg⟩
  have HP5 := Lib.hid (HP4.out.step hR hg)
  have HG5 := Lib.hid (new_bad w4 g hg HG4.out HLo.out.1)
  have HC := Lib.hid HP5.out.cells.1
  clear hR hg HP4
  (simp only [Act.put, List.setIfInBounds_toArray, List.set_cons_succ, List.set_cons_zero])
  refine wpList_nil ⟨rfl, HC.out, ?_⟩
  refine wpAnyC_step 16 (o := ⟨some 23, _, _, _, _, _⟩) rfl (by kernel_rfl) rfl ?_
  refine wpList_bytes8 (dst := some 23) w5.heap.size [115] rfl rfl (Nat.le_refl _) (by show 1 ≤ maxLen; unfold maxLen; omega) ?_
  intro cap6 w6 hO hBl _
  obtain ⟨A1, hA1⟩ : ∃ A, A = some (⟨w5.heap.size, 0, none⟩ : Addr) := ⟨_, rfl⟩
  rw [← hA1] at hO ⊢
  have HS6 := Lib.hid (show Sl w6 w6.heap.size A1 1 cap6 [115] from hO.sl)
  have HP6 := Lib.hid (HP5.out.grew hBl)
  have HG6 := Lib.hid (HG5.out.trans hBl)
  have HC := Lib.hid HP6.out.cells.1
  have HSlo := Lib.hid (show ∀ ad, A1 = some ad → w5.heap.size ≤ ad.block from fun ad e => by rw [hA1] at e; injection e with e; rw [← e]; exact Nat.le_refl _)
  clear hO hBl hA1 HP5
  (simp only [Act.put, List.setIfInBounds_toArray, List.set_cons_succ, List.set_cons_zero])
  refine wpList_nil ⟨rfl, HC.out, ?_⟩
  (refine wpAnyC_free 17 (oi := ⟨some 24, _, _, _, _, _⟩) (v := ?_) rfl (by kernel_rfl) (by kernel_rfl) (by kernel_rfl) HC.out rfl (fun x => ?_) ?_; rotate_left; (focus (simp [go_sem]; (try go_ints); first | done | (with_reducible rfl))); (simp only [Act.put, List.setIfInBounds_toArray, List.set_cons_succ, List.set_cons_zero]))
  have HB6 := Lib.hid (HS1.out.grew HG6.out)
  have HD := Lib.hid (dec_res_ok gr g base A n c sb _ w6 HP6.out HB6.out (fun W hW => enc_resync A1 1 cap6 W (HS6.out.grew hW)) rfl)
  refine wpAnyC_step 19 (o := ⟨some 26, _, _, _, _, _⟩) rfl (by kernel_rfl) rfl ?_
  refine wpList_callR rfl _ _ (fun v w' => v = .tuple #[.agg #[.int .u64 1, .int .u64 0, .slice A1 1 cap6], .int .i64 0] ∧ Grew w6 w') (by simp [go_sem]) (HD.out.mono fun e w' ⟨he, h1⟩ => ⟨_, he, rfl, h1⟩) ?_
  rintro v w7 ⟨rfl, hG⟩
  have HP7 := Lib.hid (HP6.out.grew hG)
  have HG7 := Lib.hid (HG6.out.trans hG)
  have HS7 := Lib.hid (HS6.out.grew hG)
  have HC := Lib.hid HP7.out.cells.1
  clear hG HP6 HD
  (simp only [Act.put, List.setIfInBounds_toArray, List.set_cons_succ, List.set_cons_zero])
  refine wpList_nil ⟨rfl, HC.out, ?_⟩
  (refine wpAnyC_free 20 (oi := ⟨some 27, _, _, _, _, _⟩) (v := ?_) rfl (by kernel_rfl) (by kernel_rfl) (by kernel_rfl) HC.out rfl (fun x => ?_) ?_; rotate_left; (focus (simp [go_sem]; (try go_ints); first | done | (with_reducible rfl))); (simp only [Act.put, List.setIfInBounds_toArray, List.set_cons_succ, List.set_cons_zero]))
  (refine wpAnyC_free 21 (oi := ⟨some 28, _, _, _, _, _⟩) (v := ?_) rfl (by kernel_rfl) (by kernel_rfl) (by kernel_rfl) HC.out rfl (fun x => ?_) ?_; rotate_left; (focus (simp [go_sem]; (try go_ints); first | done | (with_reducible rfl))); (simp only [Act.put, List.setIfInBounds_toArray, List.set_cons_succ, List.set_cons_zero]))
  have HA7 := Lib.hid (HA1.out.grew HG7.out)
  have HT := Lib.hid (show w7.there b2 0 (#[.int .u64 1, .int .u64 0, .slice A1 1 cap6] : Array Value).size from HA7.out.there)
  have HA8 := Lib.hid (HA7.out.stored (vs := [.int .u64 1, .int .u64 0, .slice A1 1 cap6]) rfl)
  have HZ := Lib.hid (show (Try.prog.info? 83).map (·.size) = some (#[.int .u64 1, .int .u64 0, .slice A1 1 cap6] : Array Value).size by kernel_rfl)
  have H1 := Lib.hid (show ∀ v ∈ ([.int .u64 1, .int .u64 0, .slice A1 1 cap6] : List Value), v.oneCell' = true by intro v hv; simp only [List.mem_cons, List.not_mem_nil, or_false] at hv; rcases hv with rfl | rfl | rfl <;> rfl)
  refine wpAnyC_step 22 (o := ⟨none, _, _, _, _, _⟩) rfl (by kernel_rfl) rfl ?_
  refine wpList_store_mid rfl 83 (.tmp 2) (.tmp 27) rfl b2 0 #[.int .u64 1, .int .u64 0, .slice A1 1 cap6] rfl rfl HT.out HZ.out (all_oneCell_toArray H1.out) ?_
  obtain ⟨w8, hw8⟩ : ∃ W, W = w7.setCells b2 0 [.int .u64 1, .int .u64 0, .slice A1 1 cap6] := ⟨_, rfl⟩
  have hg8 : w7.grownBy w8 (some b2) := by rw [hw8]; exact grown_setCells b2 _ 0 w7
  rw [← hw8] at HA8
  have HC := Lib.hid (show w8.cell? ⟨gr, 0, none⟩ = some (.pointer (some ⟨g, 0, none⟩)) from (World.cell?_of_block (hg8.block gr HP7.out.ne.2.1 (fun e => HLo.out.2.2 (by injection e)))).trans HC.out)
  have HG8 := Lib.hid (Below.grown (HG1.out.trans HG7.out) hg8 (HG1.out.trans HG7.out).size (fun k e => by injection e with e; rw [← e]; exact HB.out.2))
  have HS8 := Lib.hid (show Sl w8 w8.heap.size A1 1 cap6 [115] from ⟨HS7.out.1, HS7.out.2.1, HS7.out.2.2.1, HS7.out.2.2.2.but hg8 (fun ad e => by
    have hlt := HSlo.out ad e
    have := HB.out
    have := HG5.out.size
    omega)⟩)
  rw [show w7.setCells b2 0 (#[.int .u64 1, .int .u64 0, .slice A1 1 cap6] : Array Value).toList = w8 from hw8.symm]
  clear hw8 hg8
  refine wpList_nil ⟨rfl, HC.out, ?_⟩
  (refine wpAnyC_free 23 (oi := ⟨some 3, _, _, _, _, _⟩) (v := ?_) rfl (by kernel_rfl) (by kernel_rfl) (by kernel_rfl) HC.out rfl (fun x => ?_) ?_; rotate_left; (focus (simp [go_sem]; (try go_ints); first | done | (with_reducible rfl))); (simp only [Act.put, List.setIfInBounds_toArray, List.set_cons_succ, List.set_cons_zero]))
  refine wpAnyC_done (by kernel_rfl) (fun _ => ?_) _
  go_wp2_with fail
  have HLV := run_loadVar_mid (P := Try.prog) w8 b2 0 83 [.int .u64 1, .int .u64 0, .slice A1 1 cap6] _ HA8.out.range Try.underlying83 rfl (by kernel_rfl)
  refine bodyPost_ret (v := .tuple #[.agg #[.int .u64 1, .int .u64 0, .slice A1 1 cap6], .int .i64 0]) (by simp [results, Try.results36, asAddr, HLV]) rfl ⟨A1, 1, cap6, rfl, HS8.out, HG8.out⟩
end Go.Proofs.Ytafhkjljalmheaa
