/- The walks of frame.Append and the reference's Frame. -/
import Derived.Test.YtkcadkkbgahgaaaFrame
import Derived.Test.YtkcadkkbgahgaaaLists
namespace Go.Proofs.Ytkcadkkbgahgaaa
open Go.RowKit
set_option linter.unusedVariables false
set_option maxRecDepth 4000 in
theorem frame_append_no (A : Option Addr) (n c : Nat) (A2 : Option Addr) (n2 c2 : Nat) (w : World) (h : 65536 < n2) :
    Calls Try.prog 20 #[.slice A n c, .slice A2 n2 c2] w fun e w' => e = .returned (.tuple #[.slice none 0 0, .int .i64 2]) ∧ w = w' := by
  have h1 : (65536 : Int) < (n2 : Int) := by omega
  go_enter Try.func20, Try.ntmps20
  go_wp2_with fail
  go_ret2
  exact ⟨rfl, rfl⟩
set_option maxRecDepth 4000 in
theorem frame_append (A : Option Addr) (n c : Nat) (l : List UInt8) (A2 : Option Addr) (n2 c2 : Nat) (p : List UInt8) (w : World) (h1 : Sl w w.heap.size A n c l) (h2 : Sl w w.heap.size A2 n2 c2 p) (hp : n2 ≤ 65536) (hn : n ≤ 70368744177664) :
    Calls Try.prog 20 #[.slice A n c, .slice A2 n2 c2] w fun e w' => ∃ A' n' c', e = .returned (.tuple #[.slice A' n' c', .int .i64 0]) ∧ OwnB w' w.heap.size A' n' c' (l ++ FrameP.frame p) ∧ Below w.heap.size w w' := by
  have hl2 := h2.1
  subst hl2
  have hlen : ((p.length : Nat) : Int) % 4294967296 = bv32 (FrameP.len32 p.length) := by unfold bv32; rw [FrameP.len32_toNat (by omega)]; omega
  have hw1 : ¬ (65536 : Int) < (p.length : Int) := by omega
  have hlen' : ((p.length : Nat) : Int) = bv32 (FrameP.len32 p.length) := by unfold bv32; rw [FrameP.len32_toNat (by omega)]
  have HL := Lib.hid hlen'
  clear hlen hlen'
  go_enter Try.func20, Try.ntmps20
  go_wp2_with fail
  rw [HL.out]
  refine (frame_number _ _).mono ?_
  rintro e w1 ⟨A3, n3, c3, rfl, hO3, hB3⟩
  have hn3 : n3 = 4 := by have := hO3.len; simpa [FrameP.le4_len] using this.symm
  subst hn3
  have h13 := h1.below hB3
  have h23 := h2.below hB3
  have hs3 := hB3.size
  go_wp2_with fail
  refine (frame_sum A3 4 c3 w1.heap.size _ A2 p.length c2 w.heap.size p w1 rfl hO3.row (by decide) rfl h23.2.2.2 (by unfold maxLen; omega)).mono ?_
  rintro e w2 ⟨rfl, rfl⟩
  go_wp2_with fail
  refine (frame_number _ _).mono ?_
  rintro e w2 ⟨A4, n4, c4, rfl, hO4, hB4⟩
  have hn4 : n4 = 4 := by have := hO4.len; simpa [FrameP.le4_len] using this.symm
  subst hn4
  have hs4 := hB4.size
  have h14 := (h13.below (hB4.mono hs3)).more (Nat.le_trans hs3 hs4)
  have h24 := (h23.below (hB4.mono hs3)).more (Nat.le_trans hs3 hs4)
  have h34 := hO3.sl.grew hB4
  have h44 := hO4.sl
  go_wp2_with fail
  refine (concat8 _ 4 4 (w2.heap.size + 1) [l, FrameP.le4 (FrameP.len32 p.length), FrameP.le4 (FrameP.sum (FrameP.le4 (FrameP.len32 p.length)) p), p] _ rfl (by decide) (LRow.build w2 _ _ _ _ ?_) (by simp) ?_).mono ?_
  · intro i x hi
    match i, hi with
    | 0, hi => injection hi with hi; subst hi; exact ⟨_, _, _, rfl, h14⟩
    | 1, hi => injection hi with hi; subst hi; exact ⟨_, _, _, rfl, h34⟩
    | 2, hi => injection hi with hi; subst hi; exact ⟨_, _, _, rfl, h44⟩
    | 3, hi => injection hi with hi; subst hi; exact ⟨_, _, _, rfl, h24⟩
  · have := h1.1
    simp [FrameP.le4_len]
    omega
  rintro e w5 ⟨A5, n5, c5, rfl, hO5, hB5⟩
  go_wp2_with fail
  go_ret2
  have hB24 : Below w.heap.size w w2 := hB3.trans (hB4.mono hs3)
  have hB25 : Below w.heap.size w w5 := (hB24.alloc hB24.size _).trans (hB5.mono (by simp; omega))
  refine ⟨A5, n5, c5, rfl, ?_, hB25⟩
  have e : [l, FrameP.le4 (FrameP.len32 p.length), FrameP.le4 (FrameP.sum (FrameP.le4 (FrameP.len32 p.length)) p), p].flatten = l ++ FrameP.frame p := by simp [FrameP.frame]
  rw [e] at hO5
  exact Own.lower hO5 (by simp; omega)
end Go.Proofs.Ytkcadkkbgahgaaa
