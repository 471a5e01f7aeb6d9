/- Events: the one that may be and the one that may not be. -/
import Derived.Test.YtafhkjljalmheaaProtoE
namespace Go.Proofs.Ytafhkjljalmheaa
open Go.RowKit
set_option linter.unusedVariables false
/-- the event that the examples send -/
def evL : List Value := [.int .i64 0, .int .u64 1, .int .i64 1, .string ⟨#[99]⟩, .string ⟨#[102]⟩, .string ⟨#[]⟩, .slice none 0 0]
theorem ev_cells {W : World} {g : Nat} (h : ArrV W g evL) : W.cell? ⟨g, 0, none⟩ = some (.int .i64 0) ∧ W.cell? ⟨g, 1, none⟩ = some (.int .u64 1) ∧ W.cell? ⟨g, 2, none⟩ = some (.int .i64 1) ∧ W.cell? ⟨g, 3, none⟩ = some (.string ⟨#[99]⟩) ∧ W.cell? ⟨g, 4, none⟩ = some (.string ⟨#[102]⟩) ∧ W.cell? ⟨g, 5, none⟩ = some (.string ⟨#[]⟩) ∧ W.cell? ⟨g, 6, none⟩ = some (.slice none 0 0) :=
  ⟨h.cell (i := 0) (by decide), h.cell (i := 1) (by decide), h.cell (i := 2) (by decide), h.cell (i := 3) (by decide), h.cell (i := 4) (by decide), h.cell (i := 5) (by decide), h.cell (i := 6) (by decide)⟩
set_option maxHeartbeats 1000000 in
theorem crdt_good1 (w : World) : Calls Try.prog 51 #[.agg #[.int .i64 0, .int .u64 1, .int .i64 1, .string ⟨#[99]⟩, .string ⟨#[102]⟩, .string ⟨#[]⟩, .slice none 0 0]] w fun e w' => e = .returned (.bool true) ∧ Grew w w' := by
  obtain ⟨w1, hw1⟩ : ∃ W, W = w.alloc (.cells #[.int .i64 0, .int .u64 1, .int .i64 1, .string ⟨#[99]⟩, .string ⟨#[102]⟩, .string ⟨#[]⟩, .slice none 0 0] 78) := ⟨_, rfl⟩
  obtain ⟨b1, hb1⟩ : ∃ b, b = w.heap.size := ⟨_, rfl⟩
  have HG1 := Lib.hid (show Grew w w1 by rw [hw1]; exact grew_alloc w _)
  have HA1 := Lib.hid (show ArrV w1 b1 evL by rw [hw1, hb1]; exact ArrV.made w _ _)
  have HE := Lib.hid (And.intro hw1 hb1)
  have HD := Lib.hid (dot_good 0 1 true w1 (.inl ⟨rfl, rfl, rfl⟩))
  obtain ⟨c0, c1, c2, c3, c4, c5, c6⟩ := ev_cells HA1.out
  clear hw1 hb1
  go_enter Try.func51, Try.ntmps51
  go_upto_region 1 with fail
  rw [← HE.out.1, ← HE.out.2]
  go_upto_region 3 with (first
    | (go_at_call 52; refine HD.out.mono ?_; rintro e w2 ⟨rfl, hG⟩; have HG2 := Lib.hid hG; clear hG c0 c1 c2 c3 c4 c5 c6; obtain ⟨c0, c1, c2, c3, c4, c5, c6⟩ := ev_cells (HA1.out.grew HG2.out))
    | (go_at_call 53; refine (names_good w2).mono ?_; rintro e w3 ⟨rfl, rfl⟩))
  go_wp2_with fail
  refine wp_loop_rounds 1 ?_
  rw [rounds_succ]
  go_wp2_with fail
  go_ret
  exact ⟨rfl, HG1.out.trans HG2.out⟩
theorem crdt_good0 (w : World) : Calls Try.prog 51 #[.agg #[.int .i64 0, .int .u64 0, .int .i64 0, .string ⟨#[]⟩, .string ⟨#[]⟩, .string ⟨#[]⟩, .slice none 0 0]] w fun e w' => e = .returned (.bool false) ∧ Grew w w' := by
  obtain ⟨w1, hw1⟩ : ∃ W, W = w.alloc (.cells #[.int .i64 0, .int .u64 0, .int .i64 0, .string ⟨#[]⟩, .string ⟨#[]⟩, .string ⟨#[]⟩, .slice none 0 0] 78) := ⟨_, rfl⟩
  obtain ⟨b1, hb1⟩ : ∃ b, b = w.heap.size := ⟨_, rfl⟩
  have HG1 := Lib.hid (show Grew w w1 by rw [hw1]; exact grew_alloc w _)
  have hA : ArrV w1 b1 [.int .i64 0, .int .u64 0, .int .i64 0, .string ⟨#[]⟩, .string ⟨#[]⟩, .string ⟨#[]⟩, .slice none 0 0] := by rw [hw1, hb1]; exact ArrV.made w _ _
  have c0 : w1.cell? ⟨b1, 0, none⟩ = some (.int .i64 0) := hA.cell (i := 0) (by simp)
  have c1 : w1.cell? ⟨b1, 1, none⟩ = some (.int .u64 0) := hA.cell (i := 1) (by simp)
  have HE := Lib.hid (And.intro hw1 hb1)
  have HD := Lib.hid (dot_good 0 0 false w1 (.inr ⟨rfl, rfl, rfl⟩))
  clear hw1 hb1 hA
  go_enter Try.func51, Try.ntmps51
  go_upto_region 1 with fail
  rw [← HE.out.1, ← HE.out.2]
  go_wp2_with (go_at_call 52; refine HD.out.mono ?_; rintro e w2 ⟨rfl, hG⟩; have HG2 := Lib.hid hG; clear hG)
  go_ret
  exact ⟨rfl, HG1.out.trans HG2.out⟩
end Go.Proofs.Ytafhkjljalmheaa
