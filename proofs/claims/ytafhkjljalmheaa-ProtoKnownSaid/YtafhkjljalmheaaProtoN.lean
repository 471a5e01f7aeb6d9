/- A name that is none: sha.Read of one letter; the writer's names; Have encoded. -/
import Derived.Test.YtafhkjljalmheaaProtoW2
import Derived.Deep.MidRow
namespace Go.Proofs.Ytafhkjljalmheaa
open Go.RowKit
set_option linter.unusedVariables false
/-- 32 noughts -/
def zs32 : List Value := List.replicate 32 (.int .u8 0)
theorem ArrV.stored {w : World} {g : Nat} {xs vs : List Value} (h : ArrV w g xs) (hl : vs.length = xs.length) : ArrV (w.setCells g 0 vs) g vs := by
  obtain ⟨e, h⟩ := h
  refine ⟨e, ?_⟩
  rw [heap_setCells g e (0, 0) vs 0 w _ h]
  congr 2
  have hsz := putAt_size vs 0 xs.toArray
  apply Array.ext
  · rw [hsz]; simp [hl]
  · intro i h1 h2
    have h3 : vs[i]? = some vs[i] := List.getElem?_eq_getElem (by simpa using h2)
    have := putAt_in vs 0 xs.toArray i vs[i] h3 (by simp [hl])
    rw [Nat.zero_add] at this
    have h4 := Array.getElem?_eq_getElem h1
    rw [this] at h4
    injection h4 with h4
    simp [h4]
theorem ArrV.there {w : World} {g : Nat} {xs : List Value} (h : ArrV w g xs) : w.there g 0 xs.length := fun j hj => by
  rw [Nat.zero_add]
  exact ⟨by rw [h.cell hj]; rfl, h.frozen j⟩
theorem ArrV.range {w : World} {g : Nat} {xs : List Value} (h : ArrV w g xs) : w.rangeAt g 0 xs := fun j v hv => by
  rw [Nat.zero_add]
  obtain ⟨hj, e⟩ := List.getElem?_eq_some_iff.1 hv
  rw [h.cell hj, e]
theorem zs32_one : ∀ v ∈ zs32, v.oneCell' = true := by intro v hv; rw [List.eq_of_mem_replicate hv]; rfl
theorem exec_load {P : Program} {o : Oper} {a : Act} {w : World} {v p : Value} {ty : TypeId} (x : Operand) (ho : o.op = .load ty x) (hx : a.eval x = p) (h : (Instr.loadAt ty p).run P w = .ok v w) : (execOp a.eval o).run P w = .ok (.value v) w := by
  unfold execOp
  simp only [ho, hx, Sem.run_bind, h, Result.andThen_ok, Sem.run_pure]
theorem grew_alloc (w : World) (o : Obj) : Grew w (w.alloc o) := (Below.refl _ _).alloc (Nat.le_refl _) _
set_option maxRecDepth 10000 in
theorem sha_read_x (w : World) : Calls Try.prog 47 #[.string ⟨#[120]⟩] w fun e w' => e = .returned (.tuple #[.agg zs32.toArray, .int .i64 14]) ∧ Grew w w' := by
  obtain ⟨w1, hw1⟩ : ∃ W, W = w.alloc (.cells zs32.toArray 102) := ⟨_, rfl⟩
  obtain ⟨g2, hg2⟩ : ∃ b, b = w.heap.size := ⟨_, rfl⟩
  obtain ⟨w2, hw2⟩ : ∃ W, W = w1.alloc (.cells zs32.toArray 102) := ⟨_, rfl⟩
  obtain ⟨g4, hg4⟩ : ∃ b, b = w1.heap.size := ⟨_, rfl⟩
  have HG1 := Lib.hid (show Grew w w1 by rw [hw1]; exact grew_alloc w _)
  have HG2 := Lib.hid (show Grew w w2 by rw [hw2]; exact HG1.out.trans (grew_alloc w1 _))
  have HA2 := Lib.hid (show ArrV w2 g2 zs32 by rw [hw2, hw1, hg2]; exact (ArrV.made w _ _).alloc _)
  have HA4 := Lib.hid (show ArrV w2 g4 zs32 by rw [hw2, hg4]; exact ArrV.made w1 _ _)
  have Hg := Lib.hid (show w.heap.size ≤ g2 by omega)
  have hmk1 : ∀ W : World, W.alloc (.cells #[.int .u8 0, .int .u8 0, .int .u8 0, .int .u8 0, .int .u8 0, .int .u8 0, .int .u8 0, .int .u8 0, .int .u8 0, .int .u8 0, .int .u8 0, .int .u8 0, .int .u8 0, .int .u8 0, .int .u8 0, .int .u8 0, .int .u8 0, .int .u8 0, .int .u8 0, .int .u8 0, .int .u8 0, .int .u8 0, .int .u8 0, .int .u8 0, .int .u8 0, .int .u8 0, .int .u8 0, .int .u8 0, .int .u8 0, .int .u8 0, .int .u8 0, .int .u8 0] 102) = W.alloc (.cells zs32.toArray 102) := fun _ => rfl
  have HM := Lib.hid hmk1
  have HE := Lib.hid (And.intro hw1 (And.intro hg2 (And.intro hw2 hg4)))
  have HS1 := Lib.hid (show w.heap.size + 1 = w1.heap.size by rw [hw1]; simp)
  clear hw1 hg2 hw2 hg4 hmk1
  go_enter Try.func47, Try.ntmps47
  go_upto_region 3 with fail
  simp only [HM.out]
  rw [HS1.out, ← HE.out.1, ← HE.out.2.1, ← HE.out.2.2.1, ← HE.out.2.2.2]
  have HT := Lib.hid (show w2.there g2 0 zs32.toArray.size from HA2.out.there)
  have HA2' := Lib.hid (HA2.out.stored (vs := zs32) rfl)
  have hz : (Try.prog.info? 102).map (·.size) = some zs32.toArray.size := by kernel_rfl
  have HZ := Lib.hid hz
  clear hz
  go_wp2_with (first
    | (refine wpList_value (o := ⟨some 11, _, _, _, _, _⟩) (v := .agg zs32.toArray) (w' := w2) rfl (exec_load (.tmp 4) rfl rfl (run_loadAt_mid (P := Try.prog) w2 g4 0 102 zs32 _ HA4.out.range Try.underlying102 rfl (by kernel_rfl))) ?_)
    | (refine wpList_store_mid rfl 102 (.tmp 2) (.tmp 11) rfl g2 0 zs32.toArray rfl rfl HT.out HZ.out (all_oneCell_toArray zs32_one) ?_))
  have HLV := run_loadVar_mid (P := Try.prog) (w2.setCells g2 0 zs32) g2 0 102 zs32 _ HA2'.out.range Try.underlying102 rfl (by kernel_rfl)
  refine bodyPost_ret (v := .tuple #[.agg zs32.toArray, .int .i64 14]) (by simp [results, Try.results47, asAddr, HLV]) rfl ⟨rfl, Below.grown HG2.out (grown_setCells g2 zs32 0 w2) HG2.out.size (fun k e => by injection e with e; rw [← e]; exact Hg.out)⟩
set_option maxRecDepth 10000 in
set_option maxHeartbeats 2000000 in
theorem wr_names_x (g gx : Nat) (w : World) (h : Wr w g [] false) (hx : w.cell? ⟨gx, 0, none⟩ = some (.string ⟨#[120]⟩)) (hgx : gx < w.heap.size ∧ gx ≠ g) :
    Calls Try.prog 41 #[.pointer (some ⟨g, 0, none⟩), .slice (some ⟨gx, 0, none⟩) 1 1] w fun e w' => (∃ u, e = .returned u) ∧ (∃ l, Wr w' g l true) ∧ w.grownBy w' (some g) := by
  obtain ⟨A, n, c, h1, h2, h3⟩ := id h
  have c0 : w.cell? ⟨g, 0, none⟩ = some (.slice A n c) := by rw [cell_blk h1]; rfl
  have c1 : w.cell? ⟨g, 1, none⟩ = some (.bool false) := by rw [cell_blk h1]; rfl
  have f0 : w.frozen? ⟨g, 0, none⟩ = false := Lib.frozen_of_heap h1 0
  have f1 : w.frozen? ⟨g, 1, none⟩ = false := Lib.frozen_of_heap h1 1
  go_enter Try.func41, Try.ntmps41
  go_upto_region 1 with fail
  obtain ⟨w1, hw1⟩ : ∃ W, W = w.setCell ⟨g, 1, none⟩ (.bool false) := ⟨_, rfl⟩
  have hg1 := grown_set w g 1 (.bool false)
  have hW1 := h.setBad false
  rw [← hw1] at hg1 hW1 ⊢
  have HG1 := Lib.hid hg1
  have HX1 := Lib.hid (show w1.cell? ⟨gx, 0, none⟩ = some (.string ⟨#[120]⟩) ∧ gx < w1.heap.size from ⟨(World.cell?_of_block (hg1.block gx hgx.1 (fun e => hgx.2 (by injection e)))).trans hx, Nat.lt_of_lt_of_le hgx.1 hg1.size⟩)
  have HW1 := Lib.hid hW1
  clear hw1 hg1 hW1 c0 c1 f0 f1 h1 h2 h3 hx h A n c
  obtain ⟨A, n, c, h1, h2, h3⟩ := HW1.out
  have c0 : w1.cell? ⟨g, 0, none⟩ = some (.slice A n c) := by rw [cell_blk h1]; rfl
  have HU := Lib.hid (bin_uint A n c 1 [] w1.heap.size w1 h2.1 h2.2.2.2 (Nat.le_refl _) (by have := h2.1; simp at this; omega) (by decide))
  clear h1 h2 h3
  go_upto_region 2 with (go_at_call 18; refine HU.out.mono ?_; rintro e w2 ⟨A2, n2, c2, rfl, hO, hG⟩; have HO2 := Lib.hid hO; have HG2 := Lib.hid (show Grew w1 w2 from hG); have hst := HW1.out.at2 hG; obtain ⟨⟨u2, d2⟩, f2⟩ := hst; clear hO hG)
  clear c0
  obtain ⟨w3, hw3⟩ : ∃ W, W = w2.setCell ⟨g, 0, none⟩ (.slice A2 n2 c2) := ⟨_, rfl⟩
  have HW3 := Lib.hid (show Wr w3 g _ false by rw [hw3]; exact HW1.out.setBytes HG2.out HO2.out)
  have hg3 : w1.grownBy w3 (some g) := by rw [hw3]; exact grown_trans' (grown_of_grew2 HG2.out g) (grown_set _ g 0 _)
  have HG3 := Lib.hid (grown_trans' HG1.out hg3)
  have hx3 : w3.cell? ⟨gx, 0, none⟩ = some (.string ⟨#[120]⟩) := (World.cell?_of_block (hg3.block gx HX1.out.2 (fun e => hgx.2 (by injection e)))).trans HX1.out.1
  rw [← hw3]
  clear hw3 hg3 d2 f2
  go_wp2_with fail
  refine wp_loop_rounds 1 ?_
  rw [rounds_succ]
  have HZ := Lib.hid (show (Try.prog.info? 102).map (·.size) = some zs32.toArray.size by kernel_rfl)
  have HMK := Lib.hid (show ∀ W : World, W.alloc (.cells #[.int .u8 0, .int .u8 0, .int .u8 0, .int .u8 0, .int .u8 0, .int .u8 0, .int .u8 0, .int .u8 0, .int .u8 0, .int .u8 0, .int .u8 0, .int .u8 0, .int .u8 0, .int .u8 0, .int .u8 0, .int .u8 0, .int .u8 0, .int .u8 0, .int .u8 0, .int .u8 0, .int .u8 0, .int .u8 0, .int .u8 0, .int .u8 0, .int .u8 0, .int .u8 0, .int .u8 0, .int .u8 0, .int .u8 0, .int .u8 0, .int .u8 0, .int .u8 0] 102) = W.alloc (.cells zs32.toArray 102) from fun _ => rfl)
  go_upto_region 6 with (first
    | (go_at_call 47; refine (sha_read_x w3).mono ?_; rintro e w4 ⟨rfl, hG⟩; have HG4 := Lib.hid hG; clear hG; have HST := Lib.hid (show ArrV (w4.alloc (.cells zs32.toArray 102)) w4.heap.size zs32 from ArrV.made w4 _ _))
    | (rw [HMK.out]; refine wpList_store_mid rfl 102 (.tmp 6) (.tmp 40) rfl w4.heap.size 0 zs32.toArray rfl rfl HST.out.there HZ.out (all_oneCell_toArray zs32_one) ?_))
  obtain ⟨w5, hw5⟩ : ∃ W, W = (w4.alloc (.cells zs32.toArray 102)).setCells w4.heap.size 0 zs32.toArray.toList := ⟨_, rfl⟩
  have HG35 := Lib.hid (show Grew w3 w5 by rw [hw5]; exact Below.grown (HG4.out.trans (grew_alloc w4 _)) (grown_setCells _ _ _ _) (Nat.le_trans HG4.out.size (grew_alloc w4 _).size) (fun k e => by injection e with e; have := HG4.out.size; omega))
  have HW5 := Lib.hid (HW3.out.grew HG35.out)
  obtain ⟨A5, n5, c5, h1, h2, h3⟩ := HW5.out
  have c1 : w5.cell? ⟨g, 1, none⟩ = some (.bool false) := by rw [cell_blk h1]; rfl
  have f1 : w5.frozen? ⟨g, 1, none⟩ = false := Lib.frozen_of_heap h1 1
  clear h1 h2 h3
  rw [show (w4.alloc (.cells zs32.toArray 102)).setCells w4.heap.size 0 zs32 = w5 from by rw [hw5, List.toList_toArray]]
  clear hw5 hx3
  go_wp2_with fail
  exact bodyPost_ret (v := .tuple #[]) (results_none rfl _ _ _) rfl ⟨⟨_, rfl⟩, ⟨_, HW5.out.setBad true⟩, grown_trans' (grown_trans' HG3.out (grown_of_grew2 HG35.out g)) (grown_set _ g 1 _)⟩
end Go.Proofs.Ytafhkjljalmheaa
