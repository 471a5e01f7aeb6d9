/- Have of a name that is none, encoded; events: which may be. -/
import Derived.Test.YtafhkjljalmheaaProtoN
namespace Go.Proofs.Ytafhkjljalmheaa
open Go.RowKit
set_option linter.unusedVariables false
set_option maxHeartbeats 1000000 in
theorem enc_have_x (gx : Nat) (w : World) (hx : w.cell? ⟨gx, 0, none⟩ = some (.string ⟨#[120]⟩)) (hgx : gx < w.heap.size) :
    Calls Try.prog 29 #[.agg #[.slice (some ⟨gx, 0, none⟩) 1 1]] w fun e w' => ∃ A n c, e = .returned (.tuple #[.slice A n c, .int .i64 1]) ∧ Grew w w' := by
  obtain ⟨w1, hw1⟩ : ∃ W, W = w.alloc (.cells #[.slice (some ⟨gx, 0, none⟩) 1 1] 60) := ⟨_, rfl⟩
  obtain ⟨b1, hb1⟩ : ∃ b, b = w.heap.size := ⟨_, rfl⟩
  obtain ⟨w2, hw2⟩ : ∃ W, W = w1.alloc (.cells #[.slice none 0 0, .bool false] 93) := ⟨_, rfl⟩
  obtain ⟨g, hg⟩ : ∃ b, b = w1.heap.size := ⟨_, rfl⟩
  have HG1 := Lib.hid (show Grew w w1 by rw [hw1]; exact grew_alloc w _)
  have HG12 := Lib.hid (show Grew w1 w2 by rw [hw2]; exact grew_alloc w1 _)
  have HA1 := Lib.hid (show ArrV w1 b1 [.slice (some ⟨gx, 0, none⟩) 1 1] by rw [hw1, hb1]; exact ArrV.made w _ _)
  have HW2 := Lib.hid (show Wr w2 g [] false by rw [hw2, hg]; exact wr_new w1 false)
  have HE1 := Lib.hid (And.intro hw1 hb1)
  have HE2 := Lib.hid (And.intro hw2 hg)
  have Hgw := Lib.hid (show w.heap.size ≤ g by rw [hg]; exact HG1.out.size)
  have c0 : w2.cell? ⟨b1, 0, none⟩ = some (.slice (some ⟨gx, 0, none⟩) 1 1) := (HA1.out.grew HG12.out).cell (i := 0) (by simp)
  have HG2 := Lib.hid (HG1.out.trans HG12.out)
  have HN := Lib.hid (wr_names_x g gx w2 HW2.out (by rw [Below.cell HG2.out (p := ⟨gx, 0, none⟩) hgx]; exact hx) ⟨Nat.lt_of_lt_of_le hgx HG2.out.size, by have := Hgw.out; omega⟩)
  clear hw1 hb1 hw2 hg hx
  go_enter Try.func29, Try.ntmps29
  go_upto_region 1 with fail
  rw [← HE1.out.1, ← HE1.out.2]
  go_upto_region 2 with fail
  rw [← HE2.out.1, ← HE2.out.2]
  go_wp2_with (first
    | (go_at_call 41; refine HN.out.mono ?_; rintro e w3 ⟨⟨u, rfl⟩, ⟨l, hW⟩, hg3⟩; have HW3 := Lib.hid hW; have HG3 := Lib.hid (new_bad w2 g hg3 HG2.out Hgw.out); clear hW hg3)
    | (go_at_call 40; refine (wr_end g _ _ w3 HW3.out).mono ?_; rintro e w4 ⟨A4, n4, c4, rfl, _, hG⟩; have HG4 := Lib.hid (HG3.out.trans hG); clear hG))
  go_ret2
  exact ⟨A4, n4, c4, rfl, HG4.out⟩
theorem dot_good (dev : Int) (n : Nat) (b : Bool) (w : World) (h : dev = 0 ∧ n = 1 ∧ b = true ∨ dev = 0 ∧ n = 0 ∧ b = false) :
    Calls Try.prog 52 #[.agg #[.int .i64 dev, .int .u64 (n : Int)]] w fun e w' => e = .returned (.bool b) ∧ Grew w w' := by
  rcases h with ⟨rfl, rfl, rfl⟩ | ⟨rfl, rfl, rfl⟩
  · go_enter Try.func52, Try.ntmps52
    go_wp2_with fail
    go_ret
    exact ⟨rfl, grew_alloc w _⟩
  · go_enter Try.func52, Try.ntmps52
    go_wp2_with fail
    go_ret
    exact ⟨rfl, grew_alloc w _⟩
theorem names_good (w : World) : Calls Try.prog 53 #[.string ⟨#[99]⟩, .string ⟨#[102]⟩, .string ⟨#[]⟩] w fun e w' => e = .returned (.bool true) ∧ w = w' := by
  go_enter Try.func53, Try.ntmps53
  go_wp2_with fail
  go_ret
  exact ⟨rfl, rfl⟩
end Go.Proofs.Ytafhkjljalmheaa
