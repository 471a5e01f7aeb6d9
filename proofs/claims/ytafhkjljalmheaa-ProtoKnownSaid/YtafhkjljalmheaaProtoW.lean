/- The writer of messages: numbers, the end. -/
import Derived.Test.YtafhkjljalmheaaBinLay
import Derived.Test.YtafhkjljalmheaaBinRd3
import Derived.Test.YtafhkjljalmheaaSl
import Derived.Test.YtafhkjljalmheaaExt
import Derived.Deep.CutBlock
namespace Go.Proofs.Ytafhkjljalmheaa
open Go.RowKit
set_option linter.unusedVariables false
/-- a writer that holds these bytes -/
def Wr (w : World) (g : Nat) (l : List UInt8) (bad : Bool) : Prop :=
  ∃ A n c, w.heap[g]? = some (.cells #[.slice A n c, .bool bad] 93 (0, 0)) ∧ Sl w w.heap.size A n c l ∧ ∀ ad, A = some ad → ad.block ≠ g
theorem Wr.lt {w : World} {g : Nat} {l : List UInt8} {bad : Bool} (h : Wr w g l bad) : g < w.heap.size := by obtain ⟨A, n, c, h, _⟩ := h; exact lt_of_blk h
theorem Wr.grew {w w' : World} {g : Nat} {l : List UInt8} {bad : Bool} (h : Wr w g l bad) (hg : Grew w w') : Wr w' g l bad := by
  obtain ⟨A, n, c, h1, h2, h3⟩ := h
  exact ⟨A, n, c, (hg.block g (lt_of_blk h1)).trans h1, h2.grew hg, h3⟩
/-- the place of the bytes, when others have made memory -/
theorem Wr.at2 {w w' : World} {g : Nat} {l : List UInt8} {bad : Bool} (h : Wr w g l bad) (hg : Below w.heap.size w w') : (∃ u, w'.cell? ⟨g, 0, none⟩ = some u) ∧ w'.frozen? ⟨g, 0, none⟩ = false := by
  obtain ⟨A, n, c, h1, _⟩ := h
  have h2 := (hg.block g (lt_of_blk h1)).trans h1
  exact ⟨⟨_, by rw [cell_blk h2]; rfl⟩, Lib.frozen_of_heap h2 0⟩
theorem grown_of_grew2 {w w' : World} (h : Grew w w') (g : Nat) : w.grownBy w' (some g) := ⟨h.os, h.tape, h.output, h.size, fun k hk _ => h.block k hk⟩
theorem wr_new (W : World) (bad : Bool) : Wr (W.alloc (.cells #[.slice none 0 0, .bool bad] 93)) W.heap.size [] bad :=
  ⟨none, 0, 0, heap_alloc_new W _, Sl.zero (Nat.zero_le _), fun ad e => by cases e⟩
theorem sl_other {w w' : World} {g n c : Nat} {A : Option Addr} {l : List UInt8} (h : Sl w w.heap.size A n c l) (hg : w.grownBy w' (some g)) (hne : ∀ ad, A = some ad → ad.block ≠ g) : Sl w' w'.heap.size A n c l :=
  ⟨h.1, h.2.1, h.2.2.1, h.2.2.2.but hg hne⟩
theorem Wr.setBad {w : World} {g : Nat} {l : List UInt8} {bad : Bool} (h : Wr w g l bad) (b : Bool) : Wr (w.setCell ⟨g, 1, none⟩ (.bool b)) g l b := by
  obtain ⟨A, n, c, h1, h2, h3⟩ := h
  exact ⟨A, n, c, heap_setCell_at w g 1 _ _ (0, 0) _ h1, sl_other h2 (grown_set w g 1 _) h3, h3⟩
theorem Wr.setBytes {w w' : World} {g n c : Nat} {l m : List UInt8} {bad : Bool} {A : Option Addr} (h : Wr w g l bad) (hg : Grew w w') (hO : OwnB w' w.heap.size A n c m) : Wr (w'.setCell ⟨g, 0, none⟩ (.slice A n c)) g m bad := by
  have hlt := h.lt
  obtain ⟨A', n', c', h1, h2, h3⟩ := h
  have hne : ∀ ad, A = some ad → ad.block ≠ g := fun ad e => by have := (Own.lt hO ad.block (by rw [e]; rfl)).1; omega
  exact ⟨A, n, c, heap_setCell_at w' g 0 _ _ (0, 0) _ ((hg.block g hlt).trans h1), sl_other hO.sl (grown_set w' g 0 _) hne, hne⟩
theorem wr_number (g v : Nat) (l : List UInt8) (bad : Bool) (w : World) (h : Wr w g l bad) (hv : v < two64) (hl : l.length ≤ 1000000) :
    Calls Try.prog 39 #[.pointer (some ⟨g, 0, none⟩), .int .u64 (v : Int)] w fun e w' => (∃ u, e = .returned u) ∧ Wr w' g (l ++ BinP.enc v) (bad || decide (1099511627776 < v)) ∧ w.grownBy w' (some g) := by
  obtain ⟨b, hb⟩ : ∃ b, b = (bad || decide (1099511627776 < v)) := ⟨_, rfl⟩
  rw [← hb]
  have HW := Lib.hid h
  have HW1 := Lib.hid (h.setBad b)
  have hcs : bad = true ∧ b = true ∨ bad = false ∧ b = true ∧ (1099511627776 : Int) < (v : Int) ∨ bad = false ∧ b = false ∧ ¬ (1099511627776 : Int) < (v : Int) := by
    cases bad
    · by_cases hlt : 1099511627776 < v
      · exact .inr (.inl ⟨rfl, by rw [hb]; simp [hlt], by omega⟩)
      · exact .inr (.inr ⟨rfl, by rw [hb]; simp [hlt], by omega⟩)
    · exact .inl ⟨rfl, by rw [hb]; rfl⟩
  have hg1 := grown_set w g 1 (.bool b)
  obtain ⟨A, n, c, h1, h2, h3⟩ := h
  have c0 : w.cell? ⟨g, 0, none⟩ = some (.slice A n c) := by rw [cell_blk h1]; rfl
  have c1 : w.cell? ⟨g, 1, none⟩ = some (.bool bad) := by rw [cell_blk h1]; rfl
  have f0 : w.frozen? ⟨g, 0, none⟩ = false := Lib.frozen_of_heap h1 0
  have f1 : w.frozen? ⟨g, 1, none⟩ = false := Lib.frozen_of_heap h1 1
  obtain ⟨w1, hw1⟩ : ∃ W, W = w.setCell ⟨g, 1, none⟩ (.bool b) := ⟨_, rfl⟩
  rw [← hw1] at HW1 hg1
  have HG1 := Lib.hid hg1
  have HE1 := Lib.hid hw1
  have hn := h2.1
  have d0 : w1.cell? ⟨g, 0, none⟩ = some (.slice A n c) := by rw [hw1, cell_blk (heap_setCell_at w g 1 _ _ (0, 0) _ h1)]; rfl
  have hr1 := (sl_other h2 hg1 h3).2.2.2
  have HU := Lib.hid (bin_uint A n c v l w1.heap.size w1 hn hr1 (Nat.le_refl _) (by omega) hv)
  clear h1 h2 h3 hg1 hr1 hb hw1 hn
  go_enter Try.func39, Try.ntmps39
  rcases hcs with ⟨rfl, rfl⟩ | ⟨rfl, rfl, i1⟩ | ⟨rfl, rfl, i1⟩
  all_goals
    go_upto_region 1 with fail
    rw [← HE1.out]
    clear c0 c1 f0 f1
    go_wp2_with (go_at_call 18; refine HU.out.mono ?_; rintro e w2 ⟨A2, n2, c2, rfl, hO, hG⟩; have HO2 := Lib.hid hO; have HG2 := Lib.hid (show Grew w1 w2 from hG); have hst := HW1.out.at2 hG; obtain ⟨⟨u2, d2⟩, f2⟩ := hst; clear hO hG)
    go_end0
    exact ⟨⟨_, rfl⟩, HW1.out.setBytes HG2.out HO2.out, grown_trans' (grown_trans' HG1.out (grown_of_grew2 HG2.out g)) (grown_set _ g 0 _)⟩
end Go.Proofs.Ytafhkjljalmheaa
