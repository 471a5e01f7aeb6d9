/- The walks of frame.number, read and sum (and the reference's four, number): what they compute. -/
import Derived.Test.YtkcadkkbgahgaaaClone
import Derived.Test.YtkcadkkbgahgaaaCrcRef
import Derived.Test.YtkcadkkbgahgaaaFramePlain
import Derived.Deep.QuietTactic
import Derived.BigQuiet
namespace Go.Proofs.Ytkcadkkbgahgaaa
open Go.RowKit
set_option linter.unusedVariables false
theorem own_le4 (s : BitVec 32) (w : World) : OwnB (w.alloc (.cells #[.int .u8 (bv32 s % 256), .int .u8 (bv32 s / 256 % 256), .int .u8 (bv32 s / 65536 % 256), .int .u8 (bv32 s / 16777216 % 256)] 5)) w.heap.size (some ⟨w.heap.size, 0, none⟩) 4 4 (FrameP.le4 s) := by
  refine Own.made w _ _ (0, 0) 1 4 4 _ (Nat.le_refl _) rfl (Nat.le_refl _) (by decide) (by simp) (.inr rfl) ?_
  have e0 : bv32 s % 256 = ((byteOf s 0).toNat : Int) := by rw [byteOf_toNat]; simp
  have e1 : bv32 s / 256 % 256 = ((byteOf s 1).toNat : Int) := by rw [byteOf_toNat]; rfl
  have e2 : bv32 s / 65536 % 256 = ((byteOf s 2).toNat : Int) := by rw [byteOf_toNat]; rfl
  have e3 : bv32 s / 16777216 % 256 = ((byteOf s 3).toNat : Int) := by rw [byteOf_toNat]; rfl
  rw [e0, e1, e2, e3]
  intro j u hu
  rw [← Array.getElem?_toList]
  exact hu
theorem frame_number (s : BitVec 32) (w : World) : Calls Try.prog 26 #[.int .u32 (bv32 s)] w (GivesB w (FrameP.le4 s)) := by
  go_enter Try.func26, Try.ntmps26
  go_wp2_with fail
  go_ret
  exact ⟨_, _, _, rfl, own_le4 s w, (Below.refl _ _).alloc (Nat.le_refl _) _⟩
theorem ref_four (s : BitVec 32) (w : World) : Calls Try.prog 31 #[.int .u32 (bv32 s)] w (GivesB w (FrameP.le4 s)) := by
  go_enter Try.func31, Try.ntmps31
  go_wp2_with fail
  go_ret
  exact ⟨_, _, _, rfl, own_le4 s w, (Below.refl _ _).alloc (Nat.le_refl _) _⟩
theorem or_apart (a b k : Nat) (ha : a < 2 ^ k) (h : a + b * 2 ^ k < 4294967296) : bits .or .u32 (a : Int) ((b * 2 ^ k : Nat) : Int) = ((a + b * 2 ^ k : Nat) : Int) := by
  rw [u32_or_nat _ _ (by omega) (by omega), Nat.or_comm, Nat.mul_comm b, ← Nat.two_pow_add_eq_or_of_lt ha, Nat.add_comm]
theorem or_four (a b x y : UInt8) : bits .or .u32 (bits .or .u32 (bits .or .u32 (a.toNat : Int) ((b.toNat : Int) * 256)) ((x.toNat : Int) * 65536)) ((y.toNat : Int) * 16777216) = bv32 (FrameP.num4 a b x y) := by
  have ha := a.toNat_lt; have hb := b.toNat_lt; have hx := x.toNat_lt; have hy := y.toNat_lt
  unfold bv32
  rw [FrameP.num4_toNat]
  have e1 := or_apart a.toNat b.toNat 8 (by omega) (by omega)
  have e2 := or_apart (a.toNat + b.toNat * 2 ^ 8) x.toNat 16 (by omega) (by omega)
  have e3 := or_apart (a.toNat + b.toNat * 2 ^ 8 + x.toNat * 2 ^ 16) y.toNat 24 (by omega) (by omega)
  have f1 : ((b.toNat : Int) * 256) = ((b.toNat * 2 ^ 8 : Nat) : Int) := by omega
  have f2 : ((x.toNat : Int) * 65536) = ((x.toNat * 2 ^ 16 : Nat) : Int) := by omega
  have f3 : ((y.toNat : Int) * 16777216) = ((y.toNat * 2 ^ 24 : Nat) : Int) := by omega
  rw [f1, f2, f3, e1, e2, e3]
  congr 1
  omega
theorem frame_read (A : Option Addr) (n c B : Nat) (l : List UInt8) (w : World) (hn : l.length = n) (h4 : 4 ≤ n) (hc : c ≤ maxLen) (hr : Row w B A (l.map b8)) :
    Calls Try.prog 29 #[.slice A n c] w fun e w' => e = .returned (.int .u32 (bv32 (FrameP.at4 l 0))) ∧ ∃ k, w' = w.drewN k := by
  subst hn
  match l, h4 with
  | a :: b :: x :: y :: t, _ =>
  obtain ⟨ad, rfl, _, h0⟩ := hr 0 (b8 a) rfl
  obtain ⟨ad', e, _, h1⟩ := hr 1 (b8 b) rfl
  injection e with e; subst e
  obtain ⟨ad', e, _, h2⟩ := hr 2 (b8 x) rfl
  injection e with e; subst e
  obtain ⟨ad', e, _, h3⟩ := hr 3 (b8 y) rfl
  injection e with e; subst e
  have ha := a.toNat_lt; have hb := b.toNat_lt; have hx := x.toNat_lt; have hy := y.toNat_lt
  obtain ⟨n, hn⟩ : ∃ n, n = (a :: b :: x :: y :: t).length := ⟨_, rfl⟩
  have i0 : 0 < n := by simp at hn; omega
  have i1 : (1 : Int) < (n : Int) := by simp at hn; omega
  have i2 : (2 : Int) < (n : Int) := by simp at hn; omega
  have i3 : (3 : Int) < (n : Int) := by simp at hn; omega
  rw [← hn]
  have c0 : w.cell? ad = some (b8 a) := h0
  have c1 : w.cell? ⟨ad.block, ad.off + 1, none⟩ = some (b8 b) := h1
  have c2 : w.cell? ⟨ad.block, ad.off + 2, none⟩ = some (b8 x) := h2
  have c3 : w.cell? ⟨ad.block, ad.off + 3, none⟩ = some (b8 y) := h3
  clear hr hn h0 h1 h2 h3
  go_enter Try.func29, Try.ntmps29
  go_wp2_with fail
  go_quiet (fail)
  go_wp2_with fail
  go_ret
  exact ⟨by rw [FrameP.at4_0, ← or_four]; rfl, _, rfl⟩
theorem ref_number (A : Option Addr) (n c B : Nat) (l : List UInt8) (w : World) (hn : l.length = n) (h4 : 4 ≤ n) (hc : c ≤ maxLen) (hr : Row w B A (l.map b8)) :
    Calls Try.prog 34 #[.slice A n c] w fun e w' => e = .returned (.int .u32 (bv32 (FrameP.at4 l 0))) ∧ ∃ k, w' = w.drewN k := by
  subst hn
  match l, h4 with
  | a :: b :: x :: y :: t, _ =>
  obtain ⟨ad, rfl, _, h0⟩ := hr 0 (b8 a) rfl
  obtain ⟨ad', e, _, h1⟩ := hr 1 (b8 b) rfl
  injection e with e; subst e
  obtain ⟨ad', e, _, h2⟩ := hr 2 (b8 x) rfl
  injection e with e; subst e
  obtain ⟨ad', e, _, h3⟩ := hr 3 (b8 y) rfl
  injection e with e; subst e
  have ha := a.toNat_lt; have hb := b.toNat_lt; have hx := x.toNat_lt; have hy := y.toNat_lt
  obtain ⟨n, hn⟩ : ∃ n, n = (a :: b :: x :: y :: t).length := ⟨_, rfl⟩
  have i0 : 0 < n := by simp at hn; omega
  have i1 : (1 : Int) < (n : Int) := by simp at hn; omega
  have i2 : (2 : Int) < (n : Int) := by simp at hn; omega
  have i3 : (3 : Int) < (n : Int) := by simp at hn; omega
  rw [← hn]
  have c0 : w.cell? ad = some (b8 a) := h0
  have c1 : w.cell? ⟨ad.block, ad.off + 1, none⟩ = some (b8 b) := h1
  have c2 : w.cell? ⟨ad.block, ad.off + 2, none⟩ = some (b8 x) := h2
  have c3 : w.cell? ⟨ad.block, ad.off + 3, none⟩ = some (b8 y) := h3
  clear hr hn h0 h1 h2 h3
  go_enter Try.func34, Try.ntmps34
  go_wp2_with fail
  go_quiet (fail)
  go_wp2_with fail
  go_ret
  exact ⟨by rw [FrameP.at4_0, ← or_four]; rfl, _, rfl⟩
theorem frame_sum (A : Option Addr) (n c B : Nat) (l : List UInt8) (A2 : Option Addr) (n2 c2 B2 : Nat) (l2 : List UInt8) (w : World) (hn : l.length = n) (hr : Row w B A (l.map b8)) (hm : n ≤ maxLen) (hn2 : l2.length = n2) (hr2 : Row w B2 A2 (l2.map b8)) (hm2 : n2 ≤ maxLen) :
    Calls Try.prog 28 #[.slice A n c, .slice A2 n2 c2] w fun e w' => e = .returned (.int .u32 (bv32 (FrameP.sum l l2))) ∧ w = w' := by
  have h1 := Lib.hid (crc_sum A n c l B w hn hr hm)
  have h2 := Lib.hid (crc_more A2 n2 c2 (CrcP.sum l) l2 B2 w hn2 hr2 hm2)
  clear hn hr hn2 hr2
  go_enter Try.func28, Try.ntmps28
  go_wp2_with fail
  refine h1.out.mono ?_
  rintro e w' ⟨rfl, rfl⟩
  go_wp2_with fail
  refine h2.out.mono ?_
  rintro e w' ⟨rfl, rfl⟩
  go_wp2_with fail
  go_ret
  exact ⟨rfl, rfl⟩
end Go.Proofs.Ytkcadkkbgahgaaa
