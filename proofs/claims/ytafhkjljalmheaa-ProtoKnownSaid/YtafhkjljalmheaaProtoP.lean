/- Push, encoded: of the one event, and of nine that are none. -/
import Derived.Test.YtafhkjljalmheaaProtoX
import Derived.Test.YtafhkjljalmheaaProtoR
namespace Go.Proofs.Ytafhkjljalmheaa
open Go.RowKit
set_option linter.unusedVariables false
/-- the bytes of the push of one event -/
def pb : List UInt8 := [2, 1, 9, 0, 1, 1, 1, 99, 1, 102, 0, 0]
theorem pb_eq : BinP.enc 2 ++ BinP.enc 1 ++ BinP.text eb = pb := by decide +kernel
set_option maxHeartbeats 1000000 in
theorem enc_push1 (gx c : Nat) (w : World) (hx : EvAt w gx) :
    Calls Try.prog 30 #[.agg #[.int .u64 2, .slice (some ⟨gx, 0, none⟩) 1 c]] w (EncR w pb false) := by
  obtain ⟨w1, hw1⟩ : ∃ W, W = w.alloc (.cells #[.int .u64 2, .slice (some ⟨gx, 0, none⟩) 1 c] 64) := ⟨_, rfl⟩
  obtain ⟨b1, hb1⟩ : ∃ b, b = w.heap.size := ⟨_, rfl⟩
  obtain ⟨w2, hw2⟩ : ∃ W, W = w1.alloc (.cells #[.slice none 0 0, .bool false] 93) := ⟨_, rfl⟩
  obtain ⟨g, hg⟩ : ∃ b, b = w1.heap.size := ⟨_, rfl⟩
  have HG1 := Lib.hid (show Grew w w1 by rw [hw1]; exact grew_alloc w _)
  have HG12 := Lib.hid (show Grew w1 w2 by rw [hw2]; exact grew_alloc w1 _)
  have HA1 := Lib.hid (show ArrV w1 b1 [.int .u64 2, .slice (some ⟨gx, 0, none⟩) 1 c] by rw [hw1, hb1]; exact ArrV.made w _ _)
  have HW2 := Lib.hid (show Wr w2 g [] false by rw [hw2, hg]; exact wr_new w1 false)
  have HE1 := Lib.hid (And.intro hw1 hb1)
  have HE2 := Lib.hid (And.intro hw2 hg)
  have Hgw := Lib.hid (show w.heap.size ≤ g ∧ g ≠ b1 by
    have h1 := HG1.out.size
    have h2 : w.heap.size < w1.heap.size := by rw [hw1]; simp
    exact ⟨by omega, by omega⟩)
  have HA2 := Lib.hid (HA1.out.grew HG12.out)
  have HX2 := Lib.hid (hx.grew (HG1.out.trans HG12.out))
  have Hgx := Lib.hid (show gx ≠ g by have := hx.1; have := Hgw.out.1; omega)
  have HN := Lib.hid (wr_number g 2 [] false w2 HW2.out (by decide) (by simp))
  rw [List.nil_append, show (false || decide (1099511627776 < 2)) = false by rfl] at HN
  clear hw1 hb1 hw2 hg hx
  have m0 : w2.cell? ⟨b1, 0, none⟩ = some (.int .u64 2) := HA2.out.cell (i := 0) (by simp)
  go_enter Try.func30, Try.ntmps30
  go_upto_region 1 with fail
  rw [← HE1.out.1, ← HE1.out.2]
  go_upto_region 2 with fail
  rw [← HE2.out.1, ← HE2.out.2]
  go_upto_region 3 with (go_at_call 39; refine HN.out.mono ?_; rintro x w3 ⟨⟨u, rfl⟩, hW, hg3⟩; have HW3 := Lib.hid hW; have HG3 := Lib.hid (new_bad w2 g hg3 (HG1.out.trans HG12.out) Hgw.out.1); have HA3 := Lib.hid (HA2.out.other hg3 (fun h => Hgw.out.2 (by injection h))); have HX3 := Lib.hid (HX2.out.other hg3 Hgx.out); clear hW hg3)
  clear m0 HN
  have m1 : w3.cell? ⟨b1, 1, none⟩ = some (.slice (some ⟨gx, 0, none⟩) 1 c) := HA3.out.cell (i := 1) (by simp)
  have HV := Lib.hid (wr_events1 g gx c _ w3 HW3.out HX3.out Hgx.out (by decide +kernel))
  rw [pb_eq] at HV
  go_wp2_with (first
    | (go_at_call 42; refine HV.out.mono ?_; rintro x w4 ⟨⟨u2, rfl⟩, hW, hg3⟩; have HW4 := Lib.hid hW; have HG4 := Lib.hid (new_bad w3 g hg3 HG3.out Hgw.out.1); clear hW hg3)
    | (go_at_call 40; refine (wr_end g _ _ w4 HW4.out).mono ?_; rintro x w6 ⟨A4, n4, c4, rfl, hS, hG⟩; have HS4 := Lib.hid hS; have HG6 := Lib.hid (HG4.out.trans hG); clear hS hG))
  go_ret2
  exact ⟨A4, n4, c4, rfl, fun _ => HS4.out trivial, HG6.out⟩
/-- an event that is none lies here -/
def ZeAt (w : World) (g : Nat) : Prop := g < w.heap.size ∧ w.cell? ⟨g, 0, none⟩ = some (.int .i64 0) ∧ w.cell? ⟨g, 1, none⟩ = some (.int .u64 0) ∧ w.cell? ⟨g, 2, none⟩ = some (.int .i64 0) ∧ w.cell? ⟨g, 3, none⟩ = some (.string ⟨#[]⟩) ∧ w.cell? ⟨g, 4, none⟩ = some (.string ⟨#[]⟩) ∧ w.cell? ⟨g, 5, none⟩ = some (.string ⟨#[]⟩) ∧ w.cell? ⟨g, 6, none⟩ = some (.slice none 0 0)
theorem ZeAt.keep {w w' : World} {g : Nat} (h : ZeAt w g) (hs : w.heap.size ≤ w'.heap.size) (hk : w'.heap[g]? = w.heap[g]?) : ZeAt w' g := by
  obtain ⟨h0, h⟩ := h
  have k : ∀ i, w'.cell? ⟨g, i, none⟩ = w.cell? ⟨g, i, none⟩ := fun i => World.cell?_of_block hk
  exact ⟨by omega, by simpa only [k] using h⟩
theorem ZeAt.grew {w w' : World} {g : Nat} (h : ZeAt w g) (hg : Grew w w') : ZeAt w' g := h.keep hg.size (hg.block g h.1)
theorem ZeAt.other {w w' : World} {g x : Nat} (h : ZeAt w g) (hg : w.grownBy w' (some x)) (hne : g ≠ x) : ZeAt w' g := h.keep hg.size (hg.block g h.1 (fun e => hne (by injection e)))
theorem ze_cells {W : World} {g : Nat} (h : ArrV W g zeL) : W.cell? ⟨g, 0, none⟩ = some (.int .i64 0) ∧ W.cell? ⟨g, 1, none⟩ = some (.int .u64 0) ∧ W.cell? ⟨g, 2, none⟩ = some (.int .i64 0) ∧ W.cell? ⟨g, 3, none⟩ = some (.string ⟨#[]⟩) ∧ W.cell? ⟨g, 4, none⟩ = some (.string ⟨#[]⟩) ∧ W.cell? ⟨g, 5, none⟩ = some (.string ⟨#[]⟩) ∧ W.cell? ⟨g, 6, none⟩ = some (.slice none 0 0) :=
  ⟨h.cell (i := 0) (by decide), h.cell (i := 1) (by decide), h.cell (i := 2) (by decide), h.cell (i := 3) (by decide), h.cell (i := 4) (by decide), h.cell (i := 5) (by decide), h.cell (i := 6) (by decide)⟩
set_option maxHeartbeats 2000000 in
theorem wr_events9 (g gx : Nat) (l : List UInt8) (w : World) (h : Wr w g l false) (hx : ZeAt w gx) (hne : gx ≠ g) (hl : l.length ≤ 1000) :
    Calls Try.prog 42 #[.pointer (some ⟨g, 0, none⟩), .slice (some ⟨gx, 0, none⟩) 9 9] w fun e w' => (∃ u, e = .returned u) ∧ (∃ m, Wr w' g m true) ∧ w.grownBy w' (some g) := by
  obtain ⟨A, n, cp, h1, h2, h3⟩ := id h
  have c0 : w.cell? ⟨g, 0, none⟩ = some (.slice A n cp) := by rw [cell_blk h1]; rfl
  have c1 : w.cell? ⟨g, 1, none⟩ = some (.bool false) := by rw [cell_blk h1]; rfl
  have f0 : w.frozen? ⟨g, 0, none⟩ = false := Lib.frozen_of_heap h1 0
  have f1 : w.frozen? ⟨g, 1, none⟩ = false := Lib.frozen_of_heap h1 1
  go_enter Try.func42, Try.ntmps42
  go_upto_region 1 with fail
  obtain ⟨w1, hw1⟩ : ∃ W, W = w.setCell ⟨g, 1, none⟩ (.bool true) := ⟨_, rfl⟩
  have hg1 := grown_set w g 1 (.bool true)
  have hW1 := h.setBad true
  rw [← hw1] at hg1 hW1 ⊢
  have HG1 := Lib.hid hg1
  have HX1 := Lib.hid (hx.other hg1 hne)
  have HW1 := Lib.hid hW1
  clear hw1 hg1 hW1 c0 c1 f0 f1 h1 h2 h3 hx h A n cp
  obtain ⟨A, n, cp, h1, h2, h3⟩ := HW1.out
  have c0 : w1.cell? ⟨g, 0, none⟩ = some (.slice A n cp) := by rw [cell_blk h1]; rfl
  have HU := Lib.hid (bin_uint A n cp 9 l w1.heap.size w1 h2.1 h2.2.2.2 (Nat.le_refl _) (by have := h2.1; omega) (by decide))
  clear h1 h2 h3
  go_upto_region 2 with (go_at_call 18; refine HU.out.mono ?_; rintro e w2 ⟨A2, n2, c2, rfl, hO, hG⟩; have HO2 := Lib.hid hO; have HG2 := Lib.hid (show Grew w1 w2 from hG); have hst := HW1.out.at2 hG; obtain ⟨⟨u2, d2⟩, f2⟩ := hst; clear hO hG)
  clear c0
  obtain ⟨w3, hw3⟩ : ∃ W, W = w2.setCell ⟨g, 0, none⟩ (.slice A2 n2 c2) := ⟨_, rfl⟩
  have HW3 := Lib.hid (show Wr w3 g _ true by rw [hw3]; exact HW1.out.setBytes HG2.out HO2.out)
  have hg3 : w1.grownBy w3 (some g) := by rw [hw3]; exact grown_trans' (grown_of_grew2 HG2.out g) (grown_set _ g 0 _)
  have HG3 := Lib.hid (grown_trans' HG1.out hg3)
  have HX3 := Lib.hid (HX1.out.other hg3 hne)
  rw [← hw3]
  clear hw3 hg3 d2 f2
  obtain ⟨x0, x1, x2, x3, x4, x5, x6⟩ := HX3.out.2
  go_wp2_with fail
  refine wp_loop_rounds 1 ?_
  rw [rounds_succ]
  obtain ⟨w4, hw4⟩ : ∃ W, W = w3.alloc (.cells #[.int .i64 0, .int .u64 0, .int .i64 0, .string ⟨#[]⟩, .string ⟨#[]⟩, .string ⟨#[]⟩, .slice none 0 0] 78) := ⟨_, rfl⟩
  obtain ⟨b5, hb5⟩ : ∃ b, b = w3.heap.size := ⟨_, rfl⟩
  have HG4 := Lib.hid (show Grew w3 w4 by rw [hw4]; exact grew_alloc w3 _)
  have HA4 := Lib.hid (show ArrV w4 b5 zeL by rw [hw4, hb5]; exact ArrV.made w3 _ _)
  go_upto_region 5 with fail
  rw [← hw4, ← hb5]
  clear hw4 hb5 x0 x1 x2 x3 x4 x5 x6
  obtain ⟨x0, x1, x2, x3, x4, x5, x6⟩ := ze_cells HA4.out
  have HV := Lib.hid (enc_event0 w4)
  go_upto_region 6 with (go_at_call 48; refine HV.out.mono ?_; rintro e w5 ⟨rfl, hG⟩; have HG5 := Lib.hid hG; clear hG)
  clear HV x0 x1 x2 x3 x4 x5 x6
  have HW5 := Lib.hid (HW3.out.grew (HG4.out.trans HG5.out))
  obtain ⟨A5, n5, c5, h1, h2, h3⟩ := HW5.out
  have c1 : w5.cell? ⟨g, 1, none⟩ = some (.bool true) := by rw [cell_blk h1]; rfl
  have f1 : w5.frozen? ⟨g, 1, none⟩ = false := Lib.frozen_of_heap h1 1
  clear h1 h2 h3
  go_wp2_with fail
  exact bodyPost_ret (v := .tuple #[]) (results_none rfl _ _ _) rfl ⟨⟨_, rfl⟩, ⟨_, HW5.out.setBad true⟩, grown_trans' (grown_trans' HG3.out (grown_of_grew2 (HG4.out.trans HG5.out) g)) (grown_set _ g 1 _)⟩
set_option maxHeartbeats 1000000 in
theorem enc_push9 (gx : Nat) (w : World) (hx : ZeAt w gx) :
    Calls Try.prog 30 #[.agg #[.int .u64 0, .slice (some ⟨gx, 0, none⟩) 9 9]] w fun e w' => ∃ A n c, e = .returned (.tuple #[.slice A n c, .int .i64 1]) ∧ Grew w w' := by
  obtain ⟨w1, hw1⟩ : ∃ W, W = w.alloc (.cells #[.int .u64 0, .slice (some ⟨gx, 0, none⟩) 9 9] 64) := ⟨_, rfl⟩
  obtain ⟨b1, hb1⟩ : ∃ b, b = w.heap.size := ⟨_, rfl⟩
  obtain ⟨w2, hw2⟩ : ∃ W, W = w1.alloc (.cells #[.slice none 0 0, .bool false] 93) := ⟨_, rfl⟩
  obtain ⟨g, hg⟩ : ∃ b, b = w1.heap.size := ⟨_, rfl⟩
  have HG1 := Lib.hid (show Grew w w1 by rw [hw1]; exact grew_alloc w _)
  have HG12 := Lib.hid (show Grew w1 w2 by rw [hw2]; exact grew_alloc w1 _)
  have HA1 := Lib.hid (show ArrV w1 b1 [.int .u64 0, .slice (some ⟨gx, 0, none⟩) 9 9] by rw [hw1, hb1]; exact ArrV.made w _ _)
  have HW2 := Lib.hid (show Wr w2 g [] false by rw [hw2, hg]; exact wr_new w1 false)
  have HE1 := Lib.hid (And.intro hw1 hb1)
  have HE2 := Lib.hid (And.intro hw2 hg)
  have Hgw := Lib.hid (show w.heap.size ≤ g ∧ g ≠ b1 by
    have h1 := HG1.out.size
    have h2 : w.heap.size < w1.heap.size := by rw [hw1]; simp
    exact ⟨by omega, by omega⟩)
  have HA2 := Lib.hid (HA1.out.grew HG12.out)
  have HX2 := Lib.hid (hx.grew (HG1.out.trans HG12.out))
  have Hgx := Lib.hid (show gx ≠ g by have := hx.1; have := Hgw.out.1; omega)
  have HN := Lib.hid (wr_number g 0 [] false w2 HW2.out (by decide) (by simp))
  rw [List.nil_append, show (false || decide (1099511627776 < 0)) = false by rfl] at HN
  clear hw1 hb1 hw2 hg hx
  have m0 : w2.cell? ⟨b1, 0, none⟩ = some (.int .u64 0) := HA2.out.cell (i := 0) (by simp)
  go_enter Try.func30, Try.ntmps30
  go_upto_region 1 with fail
  rw [← HE1.out.1, ← HE1.out.2]
  go_upto_region 2 with fail
  rw [← HE2.out.1, ← HE2.out.2]
  go_upto_region 3 with (go_at_call 39; refine HN.out.mono ?_; rintro x w3 ⟨⟨u, rfl⟩, hW, hg3⟩; have HW3 := Lib.hid hW; have HG3 := Lib.hid (new_bad w2 g hg3 (HG1.out.trans HG12.out) Hgw.out.1); have HA3 := Lib.hid (HA2.out.other hg3 (fun h => Hgw.out.2 (by injection h))); have HX3 := Lib.hid (HX2.out.other hg3 Hgx.out); clear hW hg3)
  clear m0 HN
  have m1 : w3.cell? ⟨b1, 1, none⟩ = some (.slice (some ⟨gx, 0, none⟩) 9 9) := HA3.out.cell (i := 1) (by simp)
  have HV := Lib.hid (wr_events9 g gx _ w3 HW3.out HX3.out Hgx.out (by decide +kernel))
  go_wp2_with (first
    | (go_at_call 42; refine HV.out.mono ?_; rintro x w4 ⟨⟨u2, rfl⟩, ⟨m, hW⟩, hg3⟩; have HW4 := Lib.hid hW; have HG4 := Lib.hid (new_bad w3 g hg3 HG3.out Hgw.out.1); clear hW hg3)
    | (go_at_call 40; refine (wr_end g _ _ w4 HW4.out).mono ?_; rintro x w6 ⟨A4, n4, c4, rfl, _, hG⟩; have HG6 := Lib.hid (HG4.out.trans hG); clear hG))
  go_ret2
  exact ⟨A4, n4, c4, rfl, HG6.out⟩
end Go.Proofs.Ytafhkjljalmheaa
