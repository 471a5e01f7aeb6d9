/- The walk of the reference's Frame. -/
import Derived.Test.YtkcadkkbgahgaaaFrame2
namespace Go.Proofs.Ytkcadkkbgahgaaa
open Go.RowKit
set_option linter.unusedVariables false
theorem OwnB.other {w w' : World} {base : Nat} {A : Option Addr} {n cap : Nat} {l : List UInt8} (h : OwnB w base A n cap l) {row : Option Nat} (hg : w.grownBy w' row) (hne : ∀ g, blk A = some g → row ≠ some g) : OwnB w' base A n cap l :=
  Own.keep h fun g e => hg.block g (Own.lt h g e).2 (fun e2 => hne g e e2.symm)
theorem OwnB.lt {w : World} {base : Nat} {A : Option Addr} {n cap : Nat} {l : List UInt8} (h : OwnB w base A n cap l) : ∀ g, blk A = some g → base ≤ g ∧ g < w.heap.size := Own.lt h
set_option maxRecDepth 4000 in
set_option maxHeartbeats 1000000 in
theorem ref_frame (A2 : Option Addr) (n2 c2 B : Nat) (p : List UInt8) (w : World) (h2 : Sl w B A2 n2 c2 p) (hB : B ≤ w.heap.size) (hp : n2 ≤ 1000000) :
    Calls Try.prog 22 #[.slice A2 n2 c2] w (GivesB w (FrameP.frame p)) := by
  have hl2 := h2.1
  subst hl2
  have hlen' : ((p.length : Nat) : Int) = bv32 (FrameP.len32 p.length) := by unfold bv32; rw [FrameP.len32_toNat (by omega)]
  have HL := Lib.hid hlen'
  clear hlen'
  go_enter Try.func22, Try.ntmps22
  go_wp2_with fail
  rw [HL.out]
  refine (ref_four _ _).mono ?_
  rintro e w1 ⟨A3, n3, c3, rfl, hO3, hB3⟩
  have hn3 : n3 = 4 := by have := hO3.len; simpa [FrameP.le4_len] using this.symm
  subst hn3
  have h23 := True.intro
  have hs3 := hB3.size
  obtain ⟨len, hlen⟩ : ∃ x, x = FrameP.le4 (FrameP.len32 p.length) := ⟨_, rfl⟩
  have hl4 : len.length = 4 := by rw [hlen]; rfl
  rw [← hlen] at hO3
  have HLEN := Lib.hid hlen
  have HL4 := Lib.hid hl4
  clear hlen hl4 h23
  have hE1 := OwnB.empty w1 w.heap.size hs3
  have hB1 := hB3.alloc hs3 (.cells #[] 5)
  go_wp2_with (first
    | (at_builtin; refine wpList_app8 rfl (.tmp 8) (.tmp 9) 25 rfl (.inl ⟨_, Try.underlying25⟩) w.heap.size _ _ _ [] rfl hE1 4 len (Src.slice (by simp [HL4.out]) (hO3.alloc _).row) (.inl (by omega)) hB1.size ?_; intro A5 cap5 w2 hO5 hg5 hB5 hb5; simp only [List.nil_append, Nat.zero_add] at hO5; have hO35 := ((hO3.alloc (.cells #[] 5)).other hg5 (fun g e e2 => by have := (hO3.lt g e).2; simp [blk] at e2; omega)).alloc (.cells #[] 5); have hB2 := hB1.trans hB5; have hE2 := OwnB.empty w2 w.heap.size hB2.size; have hBa2 := hB2.alloc hB2.size (.cells #[] 5); clear hE1 hg5 hB5 hb5 hO3 hB1)
    | (at_builtin; refine wpList_app8 rfl (.tmp 11) (.tmp 12) 25 rfl (.inl ⟨_, Try.underlying25⟩) w.heap.size _ _ _ [] rfl hE2 4 len (Src.slice (by simp [HL4.out]) hO35.row) (.inl (by omega)) hBa2.size ?_; intro A6 cap6 w3 hO6 hg6 hB6 hb6; simp only [List.nil_append, Nat.zero_add] at hO6; have hO56 := (hO5.alloc (.cells #[] 5)).other hg6 (fun g e e2 => by have := (hO5.lt g e).2; simp [blk] at e2; omega); have hd6 : ∀ g, blk A5 = some g → blk A6 ≠ some g := (fun g e e2 => by have := (hO5.lt g e).2; rcases hb6 with h | h <;> rw [h] at e2 <;> simp [blk] at e2 <;> omega); have hBw3 := hBa2.trans hB6; have h33 := h2.below (hBw3.mono hB); clear hE2 hg6 hB6 hb6 hO35 hBa2 hB2 hO5)
    | (at_builtin; refine wpList_app8 rfl (.tmp 13) (.tmp 14) 25 rfl (.inl ⟨_, Try.underlying25⟩) w.heap.size _ _ _ len rfl hO6 p.length p (Src.slice (by simp) h33.2.2.2) (.inl (by omega)) hBw3.size ?_; intro A7 cap7 w4 hO7 hg7 hB7 hb7; have hO57 := hO56.other hg7 (fun g e e2 => hd6 g e e2); have hBw4 := hBw3.trans hB7; clear hg7 hB7 hb7 hO6 hO56 hd6 hBw3 h33))
  refine (ref_sum A7 _ cap7 (len ++ p) w4.heap.size w4 hO7.len hO7.row (by have := hO7.le; omega)).mono ?_
  rintro e w5 ⟨rfl, rfl⟩
  go_wp2_with fail
  refine (ref_four _ _).mono ?_
  rintro e w5 ⟨A8, n8, c8, rfl, hO8, hB8⟩
  have hn8 : n8 = 4 := by have := hO8.len; simpa [FrameP.le4_len] using this.symm
  subst hn8
  have hO58 := hO57.below_all hB8
  have hBw5 := hBw4.trans (hB8.mono hBw4.size)
  clear hO57 hB8 hBw4 hO7
  have hsum : CrcP.sum (len ++ p) = FrameP.sum (FrameP.le4 (FrameP.len32 p.length)) p := by rw [HLEN.out, CrcP.sum_append]; rfl
  rw [hsum] at hO8
  obtain ⟨sm, hsm⟩ : ∃ x, x = FrameP.le4 (FrameP.sum (FrameP.le4 (FrameP.len32 p.length)) p) := ⟨_, rfl⟩
  rw [← hsm] at hO8
  have HSM := Lib.hid hsm
  have hsml : sm.length = 4 := by rw [hsm]; rfl
  have HSML := Lib.hid hsml
  clear hsm hsml hsum
  go_wp2_with (first
    | (at_builtin; refine wpList_app8 rfl (.tmp 10) (.tmp 17) 25 rfl (.inl ⟨_, Try.underlying25⟩) w.heap.size _ _ _ len rfl hO58 4 sm (Src.slice (by simp [HSML.out]) hO8.row) (.inl (by omega)) hBw5.size ?_; intro A9 cap9 w6 hO9 hg9 hB9 hb9; have hBw6 := hBw5.trans hB9; have h36 := h2.below (hBw6.mono hB); clear hg9 hB9 hb9 hO58 hO8 hBw5)
    | (at_builtin; refine wpList_app8 rfl (.tmp 18) (.tmp 19) 25 rfl (.inl ⟨_, Try.underlying25⟩) w.heap.size _ _ _ (len ++ sm) rfl hO9 p.length p (Src.slice (by simp) h36.2.2.2) (.inl (by omega)) hBw6.size ?_; intro A10 cap10 w7 hO10 hg10 hB10 hb10; have hBw7 := hBw6.trans hB10; clear hg10 hB10 hb10 hO9 hBw6))
  go_ret
  refine ⟨A10, _, cap10, rfl, ?_, hBw7⟩
  have e : (len ++ sm) ++ p = FrameP.frame p := by rw [HLEN.out, HSM.out, List.append_assoc]; rfl
  rw [← e]
  exact hO10
end Go.Proofs.Ytkcadkkbgahgaaa
