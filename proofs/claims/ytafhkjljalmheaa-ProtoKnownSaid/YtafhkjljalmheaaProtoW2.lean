/- Messages of numbers, encoded. -/
import Derived.Test.YtafhkjljalmheaaProtoW
import Derived.Test.YtafhkjljalmheaaArr
namespace Go.Proofs.Ytafhkjljalmheaa
open Go.RowKit
set_option linter.unusedVariables false
def encE (bad : Bool) : Int := if bad = true then 1 else 0
/-- what an encoding answers -/
def EncR (w : World) (l : List UInt8) (bad : Bool) (e : Ending) (w' : World) : Prop :=
  ∃ A n c, e = .returned (.tuple #[.slice A n c, .int .i64 (encE bad)]) ∧ (bad = false → Sl w' w'.heap.size A n c l) ∧ Grew w w'
theorem wr_end (g : Nat) (l : List UInt8) (bad : Bool) (w : World) (h : Wr w g l bad) :
    Calls Try.prog 40 #[.pointer (some ⟨g, 0, none⟩)] w (EncR w l bad) := by
  obtain ⟨A, n, c, h1, h2, h3⟩ := h
  have c0 : w.cell? ⟨g, 0, none⟩ = some (.slice A n c) := by rw [cell_blk h1]; rfl
  have c1 : w.cell? ⟨g, 1, none⟩ = some (.bool bad) := by rw [cell_blk h1]; rfl
  have H2 := Lib.hid h2
  clear h1 h2 h3
  go_enter Try.func40, Try.ntmps40
  cases bad
  · go_wp2_with fail
    go_ret2
    exact ⟨A, n, c, rfl, (fun _ => H2.out), Below.refl _ _⟩
  · go_wp2_with fail
    go_ret2
    exact ⟨none, 0, 0, rfl, (fun e => by cases e), Below.refl _ _⟩
theorem encR_grew {w w1 w' : World} {l : List UInt8} {bad : Bool} {e : Ending} (h : EncR w1 l bad e w') (hg : Grew w w1) : EncR w l bad e w' := by
  obtain ⟨A, n, c, h1, h2, h3⟩ := h
  exact ⟨A, n, c, h1, h2, hg.trans h3⟩
theorem new_bad (w : World) (g : Nat) {w' : World} (hg : w.grownBy w' (some g)) {w0 : World} (h0 : Grew w0 w) (hlt : w0.heap.size ≤ g) : Grew w0 w' := Below.grown h0 hg h0.size (fun k e => by injection e with e; omega)
theorem enc_pushack (v : Nat) (w : World) (hv : v < two64) :
    Calls Try.prog 33 #[.agg #[.int .u64 (v : Int)]] w (EncR w (BinP.enc v) (decide (1099511627776 < v))) := by
  obtain ⟨w1, hw1⟩ : ∃ W, W = w.alloc (.cells #[.int .u64 (v : Int)] 73) := ⟨_, rfl⟩
  obtain ⟨b1, hb1⟩ : ∃ b, b = w.heap.size := ⟨_, rfl⟩
  obtain ⟨w2, hw2⟩ : ∃ W, W = w1.alloc (.cells #[.slice none 0 0, .bool false] 93) := ⟨_, rfl⟩
  obtain ⟨g, hg⟩ : ∃ b, b = w1.heap.size := ⟨_, rfl⟩
  have HG1 := Lib.hid (show Grew w w1 by rw [hw1]; exact (Below.refl _ _).alloc (Nat.le_refl _) _)
  have HG12 := Lib.hid (show Grew w1 w2 by rw [hw2]; exact (Below.refl _ _).alloc (Nat.le_refl _) _)
  have HA1 := Lib.hid (show ArrV w1 b1 [.int .u64 (v : Int)] by rw [hw1, hb1]; exact ArrV.made w _ _)
  have HW2 := Lib.hid (show Wr w2 g [] false by rw [hw2, hg]; exact wr_new w1 false)
  have HE1 := Lib.hid (And.intro hw1 hb1)
  have HE2 := Lib.hid (And.intro hw2 hg)
  have Hgw := Lib.hid (show w.heap.size ≤ g by rw [hg]; exact HG1.out.size)
  have c0 := (HA1.out.grew HG12.out).cell (i := 0) (by simp)
  simp only [List.getElem_cons_zero] at c0
  have HN := Lib.hid (wr_number g v [] false w2 HW2.out hv (by simp))
  rw [List.nil_append, Bool.false_or] at HN
  clear hw1 hb1 hw2 hg
  go_enter Try.func33, Try.ntmps33
  go_upto_region 1 with fail
  rw [← HE1.out.1, ← HE1.out.2]
  go_upto_region 2 with fail
  rw [← HE2.out.1, ← HE2.out.2]
  go_wp2_with (first
    | (go_at_call 39; refine HN.out.mono ?_; rintro e w3 ⟨⟨u, rfl⟩, hW, hg3⟩; have HW3 := Lib.hid hW; have HG3 := Lib.hid (new_bad w2 g hg3 (HG1.out.trans HG12.out) Hgw.out); clear hW hg3)
    | (go_at_call 40; refine (wr_end g _ _ w3 HW3.out).mono ?_; rintro e w4 ⟨A4, n4, c4, rfl, hS, hG⟩; have HS4 := Lib.hid hS; have HG4 := Lib.hid (HG3.out.trans hG); clear hS hG))
  go_ret2
  exact ⟨A4, n4, c4, rfl, HS4.out, HG4.out⟩
theorem enc_pull (e c um : Nat) (most : Int) (b : Bool) (w : World) (he : e < two64) (hc : c < two64) (hu : IntKind.u64.wrap most = (um : Int)) (hul : um < two64) (hb : b = decide (most < 0 ∨ 1000 < most)) :
    Calls Try.prog 28 #[.agg #[.int .u64 (e : Int), .int .u64 (c : Int), .int .i64 most]] w (EncR w (BinP.enc e ++ BinP.enc c ++ BinP.enc um) (b || decide (1099511627776 < e) || decide (1099511627776 < c) || decide (1099511627776 < um))) := by
  obtain ⟨w1, hw1⟩ : ∃ W, W = w.alloc (.cells #[.int .u64 (e : Int), .int .u64 (c : Int), .int .i64 most] 53) := ⟨_, rfl⟩
  obtain ⟨b1, hb1⟩ : ∃ b, b = w.heap.size := ⟨_, rfl⟩
  obtain ⟨w2, hw2⟩ : ∃ W, W = w1.alloc (.cells #[.slice none 0 0, .bool b] 93) := ⟨_, rfl⟩
  obtain ⟨g, hg⟩ : ∃ b, b = w1.heap.size := ⟨_, rfl⟩
  have HG1 := Lib.hid (show Grew w w1 by rw [hw1]; exact (Below.refl _ _).alloc (Nat.le_refl _) _)
  have HG12 := Lib.hid (show Grew w1 w2 by rw [hw2]; exact (Below.refl _ _).alloc (Nat.le_refl _) _)
  have HA1 := Lib.hid (show ArrV w1 b1 [.int .u64 (e : Int), .int .u64 (c : Int), .int .i64 most] by rw [hw1, hb1]; exact ArrV.made w _ _)
  have HW2 := Lib.hid (show Wr w2 g [] b by rw [hw2, hg]; exact wr_new w1 b)
  have HE1 := Lib.hid (And.intro hw1 hb1)
  have HE2 := Lib.hid (And.intro hw2 hg)
  have Hgw := Lib.hid (show w.heap.size ≤ g ∧ g ≠ b1 by
    have h1 := HG1.out.size
    have h2 : w.heap.size < w1.heap.size := by rw [hw1]; simp
    exact ⟨by omega, by omega⟩)
  have HL := Lib.hid (And.intro (BinP.enc_len e) (And.intro (BinP.enc_len c) (BinP.enc_len um)))
  have HA2 := Lib.hid (HA1.out.grew HG12.out)
  have HN := Lib.hid (wr_number g e [] b w2 HW2.out he (by simp))
  rw [List.nil_append] at HN
  have HHC := Lib.hid hc
  have HHU := Lib.hid hul
  have hq : most < 0 ∧ b = true ∨ ¬ most < 0 ∧ 1000 < most ∧ b = true ∨ ¬ most < 0 ∧ ¬ 1000 < most ∧ b = false := by
    by_cases h1 : most < 0
    · exact .inl ⟨h1, by rw [hb]; simp [h1]⟩
    · by_cases h2 : 1000 < most
      · exact .inr (.inl ⟨h1, h2, by rw [hb]; simp [h2]⟩)
      · exact .inr (.inr ⟨h1, h2, by rw [hb]; simp; omega⟩)
  have HU := Lib.hid hu
  have m2 : w1.cell? ⟨b1, 2, none⟩ = some (.int .i64 most) := HA1.out.cell (i := 2) (by simp)
  clear hw1 hb1 hw2 hg hb hu hc hul
  go_enter Try.func28, Try.ntmps28
  go_upto_region 1 with fail
  rw [← HE1.out.1, ← HE1.out.2]
  rcases hq with ⟨i1, rfl⟩ | ⟨i1, i2, rfl⟩ | ⟨i1, i2, rfl⟩
  all_goals
    go_upto_region 2 with fail
    rw [← HE2.out.1, ← HE2.out.2]
    clear m2 i1
    try clear i2
    have m0 : w2.cell? ⟨b1, 0, none⟩ = some (.int .u64 (e : Int)) := HA2.out.cell (i := 0) (by simp)
    go_upto_region 3 with (go_at_call 39; refine HN.out.mono ?_; rintro x w3 ⟨⟨u, rfl⟩, hW, hg3⟩; have HW3 := Lib.hid hW; have HG3 := Lib.hid (new_bad w2 g hg3 (HG1.out.trans HG12.out) Hgw.out.1); have HA3 := Lib.hid (HA2.out.other hg3 (fun h => Hgw.out.2 (by injection h))); clear hW hg3)
    clear m0
    have m1 : w3.cell? ⟨b1, 1, none⟩ = some (.int .u64 (c : Int)) := HA3.out.cell (i := 1) (by simp)
    have HN2 := Lib.hid (wr_number g c _ _ w3 HW3.out HHC.out (by have := HL.out; omega))
    go_upto_region 4 with (go_at_call 39; refine HN2.out.mono ?_; rintro x w4 ⟨⟨u2, rfl⟩, hW, hg3⟩; have HW4 := Lib.hid hW; have HG4 := Lib.hid (new_bad w3 g hg3 HG3.out Hgw.out.1); have HA4 := Lib.hid (HA3.out.other hg3 (fun h => Hgw.out.2 (by injection h))); clear hW hg3)
    clear m1
    have m2 : w4.cell? ⟨b1, 2, none⟩ = some (.int .i64 most) := HA4.out.cell (i := 2) (by simp)
    have HN3 := Lib.hid (wr_number g um _ _ w4 HW4.out HHU.out (by have := HL.out; simp; omega))
    have hwr := HU.out
    go_wp2_with (first
      | (go_at_call 39; refine HN3.out.mono ?_; rintro x w5 ⟨⟨u3, rfl⟩, hW, hg3⟩; have HW5 := Lib.hid hW; have HG5 := Lib.hid (new_bad w4 g hg3 HG4.out Hgw.out.1); clear hW hg3)
      | (go_at_call 40; refine (wr_end g _ _ w5 HW5.out).mono ?_; rintro x w6 ⟨A4, n4, c4, rfl, hS, hG⟩; have HS4 := Lib.hid hS; have HG6 := Lib.hid (HG5.out.trans hG); clear hS hG))
    go_ret2
    exact ⟨A4, n4, c4, rfl, HS4.out, HG6.out⟩
end Go.Proofs.Ytafhkjljalmheaa
