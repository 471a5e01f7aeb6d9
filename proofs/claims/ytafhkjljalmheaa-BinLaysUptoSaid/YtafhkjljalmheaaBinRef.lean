/- The walks of rolodexref3.Uint and Text: the same bytes as the program's. -/
import Derived.Test.YtafhkjljalmheaaBinLay
namespace Go.Proofs.Ytafhkjljalmheaa
open Go.RowKit
set_option linter.unusedVariables false
theorem OwnB.one (w : World) (base : Nat) (x : UInt8) (hb : base ≤ w.heap.size) : OwnB (w.alloc (.cells #[b8 x] 5)) base (some ⟨w.heap.size, 0, none⟩) 1 1 [x] :=
  Own.made w #[b8 x] _ (0, 0) 1 1 1 [b8 x] hb rfl (Nat.le_refl _) (by decide) (Nat.le_refl _) (.inr rfl) (fun j u hu => by rw [← Array.getElem?_toList]; exact hu)
theorem rem_byte (v : Nat) : ∃ x : UInt8, (v : Int) % 128 + 128 = (x.toNat : Int) ∧ x = UInt8.ofNat (v % 128 + 128) :=
  ⟨_, by rw [UInt8.toNat_ofNat']; omega, rfl⟩
set_option maxRecDepth 4000 in
set_option maxHeartbeats 400000 in
theorem ref_uint (f : Nat) : ∀ (v : Nat) (w : World), f ≤ 9 → v < 128 ^ (f + 1) → v < two64 → Calls Try.prog 20 #[.int .u64 (v : Int)] w (GivesB w (BinP.encF (f + 1) v)) := by
  induction f with
  | zero =>
    intro v w _ hv h64
    have hv : v < 128 := by simpa using hv
    obtain ⟨x, rfl⟩ : ∃ x : UInt8, v = x.toNat := ⟨UInt8.ofNat v, by rw [UInt8.toNat_ofNat']; omega⟩
    have hx := x.toNat_lt
    clear h64
    go_enter Try.func20, Try.ntmps20
    go_wp2_with fail
    go_ret
    refine ⟨_, _, _, rfl, ?_, (Below.refl _ _).alloc (Nat.le_refl _) _⟩
    rw [BinP.encF_last _ _ hv, UInt8.ofNat_toNat]
    exact OwnB.one w w.heap.size x (Nat.le_refl _)
  | succ f ih =>
    intro v w hf hv h64
    by_cases hlt : v < 128
    · obtain ⟨x, rfl⟩ : ∃ x : UInt8, v = x.toNat := ⟨UInt8.ofNat v, by rw [UInt8.toNat_ofNat']; omega⟩
      have hx := x.toNat_lt
      clear h64 hv ih
      go_enter Try.func20, Try.ntmps20
      go_wp2_with fail
      go_ret
      refine ⟨_, _, _, rfl, ?_, (Below.refl _ _).alloc (Nat.le_refl _) _⟩
      rw [BinP.encF_last _ _ hlt, UInt8.ofNat_toNat]
      exact OwnB.one w w.heap.size x (Nat.le_refl _)
    · obtain ⟨x, hx, hxe⟩ := rem_byte v
      have HX := Lib.hid hxe
      have hih := fun W => ih (v / 128) W (by omega) (by rw [Nat.pow_succ] at hv; omega) (by omega)
      have IH := Lib.hid hih
      have hO1 := OwnB.one w w.heap.size x (Nat.le_refl _)
      have hwl : v / 128 < two64 := by omega
      have HW := Lib.hid hwl
      clear hxe ih hih h64 hv hwl
      go_enter Try.func20, Try.ntmps20
      go_wp2_with fail
      rw [show (v : Int) / 128 = ((v / 128 : Nat) : Int) from by omega, wrap_u64n HW.out]
      refine (IH.out _).mono ?_
      rintro e w1 ⟨A1, n1, cap1, rfl, hO2, hB1⟩
      have hr1 := hO2.row
      have hO3 := hO1.below_all hB1
      have hl1 : n1 ≤ 10 := by have := hO2.len; have := BinP.encF_len (f + 1) (v / 128); omega
      have hs := hB1.size
      simp at hs
      go_wp2_with (at_builtin; go_loud (refine wpList_app8 rfl (.tmp 12) (.tmp 15) 25 rfl (.inl ⟨_, Try.underlying25⟩) w.heap.size _ _ _ [x] rfl hO3 n1 _ (Src.slice (by rw [List.length_map, Nat.mul_one]; exact hO2.len) hr1) (.inl (by omega)) (by omega) ?_; intro A3 cap3 w3 hO4 hg3 hB3 hb3))
      go_ret
      have e : BinP.encF (f + 1 + 1) v = [x] ++ BinP.encF (f + 1) (v / 128) := by rw [BinP.encF_split _ _ (by omega), HX.out]; rfl
      exact ⟨A3, _, cap3, rfl, by rw [e]; exact hO4, (((Below.refl _ _).alloc (Nat.le_refl _) _).trans (hB1.mono (by simp))).trans hB3⟩
theorem ref_enc (v : Nat) (w : World) (h : v < two64) : Calls Try.prog 20 #[.int .u64 (v : Int)] w (GivesB w (BinP.enc v)) :=
  ref_uint 9 v w (by omega) (by have := two64_eq; omega) h
set_option maxRecDepth 4000 in
set_option maxHeartbeats 400000 in
theorem ref_text (s : List UInt8) (w : World) (hm : s.length + 10 ≤ 140737488355328) : Calls Try.prog 21 #[.string ⟨s.toArray⟩] w (GivesB w (BinP.text s)) := by
  have hl := BinP.enc_len s.length
  have h1 := ref_enc s.length w (by have := two64_eq; omega)
  have H1 := Lib.hid h1
  clear h1
  go_enter Try.func21, Try.ntmps21
  go_wp2_with fail
  refine H1.out.mono ?_
  rintro e w1 ⟨A1, n1, cap1, rfl, hO1, hB1⟩
  have hs := hB1.size
  have hn1 : n1 ≤ 10 := by have := hO1.len; omega
  go_wp2_with (at_builtin; go_loud (refine wpList_app8 rfl (.tmp 6) (.tmp 7) 9 rfl (.inr Try.underlying9) w.heap.size _ _ _ (BinP.enc s.length) rfl hO1 s.length s (Src.str s) (.inl (by omega)) hs ?_; intro A3 cap3 w3 hO3 hg3 hB3 hb3))
  go_ret
  exact ⟨A3, _, cap3, rfl, hO3, hB1.trans hB3⟩
end Go.Proofs.Ytafhkjljalmheaa
