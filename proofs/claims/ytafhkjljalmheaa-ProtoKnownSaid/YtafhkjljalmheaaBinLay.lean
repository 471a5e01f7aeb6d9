/- The walks of bin.Uint and bin.Text: a number's, a text's bytes behind the bytes that were there. -/
import Derived.Test.YtafhkjljalmheaaClone
import Derived.Test.YtafhkjljalmheaaBinPlain
namespace Go.Proofs.Ytafhkjljalmheaa
open Go.RowKit
set_option linter.unusedVariables false
theorem or128_key : ∀ x : Fin 256, x.val ||| 128 = x.val % 128 + 128 := by decide +kernel
theorem or128 (v : Nat) : bits .or .u8 ((v : Int) % 256) 128 = ((UInt8.ofNat (v % 128 + 128)).toNat : Int) := by
  have e : (v : Int) % 256 = ((v % 256 : Nat) : Int) := by omega
  have h := or128_key ⟨v % 256, Nat.mod_lt _ (by decide)⟩
  simp only at h
  rw [e, show (128 : Int) = ((128 : Nat) : Int) from rfl, u8_or_nat _ _ (by omega) (by omega), UInt8.toNat_ofNat', h]
  omega
theorem byte_mod (v : Nat) : (v : Int) % 256 = ((UInt8.ofNat v).toNat : Int) := by
  rw [UInt8.toNat_ofNat']; omega
theorem cast_div128 (v : Nat) : (v : Int) / 128 = ((v / 128 : Nat) : Int) := by omega
set_option maxRecDepth 4000 in
set_option maxHeartbeats 400000 in
theorem bin_uint (A : Option Addr) (n c v : Nat) (l : List UInt8) (B : Nat) (w : World) (hn : l.length = n) (hr : Row w B A (l.map b8)) (hB : B ≤ w.heap.size) (hm : n + 10 ≤ 140737488355328) (hv : v < two64) :
    Calls Try.prog 18 #[.slice A n c, .int .u64 (v : Int)] w (GivesB w (l ++ BinP.enc v)) := by
  subst hn
  have HV := Lib.hid hv
  clear hv
  go_enter Try.func18, Try.ntmps18
  go_wp2_with fail
  refine (clone8 A l.length c l B w rfl hr hB (by omega)).mono ?_
  rintro e w1 ⟨A1, n1, cap1, rfl, hO1, hB1⟩
  go_wp2_with fail
  go_loopw [0, 1] (fun s x wr => ∃ f cur A2 n2 cap2 out, x = .int .u64 ((cur : Nat) : Int) ∧ f ≤ 9 ∧ cur < 128 ^ (f + 1) ∧ cur < two64 ∧ out ++ BinP.encF (f + 1) cur = l ++ BinP.enc v ∧ s = .slice A2 n2 cap2 ∧ OwnB wr w.heap.size A2 n2 cap2 out ∧ n2 + (f + 1) ≤ l.length + 10 ∧ Below w.heap.size w wr) (fun _ x _ => (intOf x).toNat)
  case atStart => exact ⟨9, v, A1, n1, cap1, l, rfl, by omega, by have := two64_eq; have := HV.out; omega, HV.out, rfl, rfl, hO1, by have := hO1.len; omega, hB1⟩
  case round =>
    obtain ⟨f, cur, A2, n2, cap2, out, rfl, hf, hcf, hc64, he, rfl, hO, hol, hBr⟩ := hrel
    have HE := Lib.hid he
    have HCF := Lib.hid hcf
    have HC64 := Lib.hid hc64
    clear he hO1 hB1 hcf hc64
    have hs := hBr.size
    by_cases hge : 128 ≤ cur
    · obtain ⟨x, hx, hxe⟩ : ∃ x : UInt8, bits .or .u8 ((cur : Int) % 256) 128 = (x.toNat : Int) ∧ x = UInt8.ofNat (cur % 128 + 128) := ⟨_, or128 cur, rfl⟩
      have HX := Lib.hid hxe
      clear hxe
      go_wp2_with (at_builtin; go_loud (refine wpList_app8 rfl (.tmp 11) (.tmp 15) 25 rfl (.inl ⟨_, Try.underlying25⟩) w.heap.size _ _ _ out rfl (hO.alloc _) 1 [x] (Src.slice rfl (Row.new _ _ _ _ (wr.heap.size + 1) _ rfl (by omega) _ rfl)) (.inr ⟨rfl, by omega⟩) (by simp; omega) ?_; intro A3 cap3 w3 hO3 hg3 hB3 hb3))
      go_wp2_with fail
      go_roundw
      case rel =>
        have hge0 := HCF.out
        rw [Nat.pow_succ] at hge0
        obtain ⟨g, rfl⟩ : ∃ g, f = g + 1 := by
          rcases f with _ | g
          · simp at hge0; omega
          · exact ⟨g, rfl⟩
        refine ⟨g, cur / 128, A3, n2 + 1, cap3, out ++ [x], ?_, by omega, by omega, by have := HC64.out; omega, ?_, rfl, hO3, by omega, (hBr.alloc (by omega) _).trans hB3⟩
        · congr 1
        · rw [← HE.out, BinP.encF_split _ _ hge, HX.out]; simp
      case measure => simp [intOf]; omega
    · obtain ⟨x, rfl⟩ : ∃ x : UInt8, cur = x.toNat := ⟨UInt8.ofNat cur, by rw [UInt8.toNat_ofNat']; omega⟩
      go_wp2_with (at_builtin; go_loud (refine wpList_app8 rfl (.tmp 17) (.tmp 20) 25 rfl (.inl ⟨_, Try.underlying25⟩) w.heap.size _ _ _ out rfl (hO.alloc _) 1 [x] (Src.slice rfl (Row.new _ _ _ _ (wr.heap.size + 1) _ rfl (by omega) _ rfl)) (.inr ⟨rfl, by omega⟩) (by simp; omega) ?_; intro A3 cap3 w3 hO3 hg3 hB3 hb3))
      go_ret
      have e : out ++ [x] = l ++ BinP.enc v := by rw [← HE.out, BinP.encF_last _ _ (by omega)]; simp
      exact ⟨A3, _, cap3, rfl, by rw [← e]; exact hO3, (hBr.alloc (by omega) _).trans hB3⟩
set_option maxRecDepth 4000 in
set_option maxHeartbeats 400000 in
theorem bin_text (A : Option Addr) (n c : Nat) (l s : List UInt8) (B : Nat) (w : World) (hn : l.length = n) (hr : Row w B A (l.map b8)) (hB : B ≤ w.heap.size) (hm : n + s.length + 10 ≤ 140737488355328) :
    Calls Try.prog 19 #[.slice A n c, .string ⟨s.toArray⟩] w (GivesB w (l ++ BinP.text s)) := by
  subst hn
  have hl := BinP.enc_len s.length
  have h1 := bin_uint A l.length c s.length l B w rfl hr hB (by omega) (by have := two64_eq; omega)
  have H1 := Lib.hid h1
  clear h1 hr
  go_enter Try.func19, Try.ntmps19
  go_wp2_with fail
  refine H1.out.mono ?_
  rintro e w1 ⟨A1, n1, cap1, rfl, hO1, hB1⟩
  have hs := hB1.size
  have hn1 : n1 ≤ l.length + 10 := by have := hO1.len; rw [List.length_append] at this; omega
  go_wp2_with (at_builtin; go_loud (refine wpList_app8 rfl (.tmp 9) (.tmp 10) 9 rfl (.inr Try.underlying9) w.heap.size _ _ _ (l ++ BinP.enc s.length) rfl hO1 s.length s (Src.str s) (.inl (by omega)) hs ?_; intro A3 cap3 w3 hO3 hg3 hB3 hb3))
  go_ret
  have e : l ++ BinP.text s = l ++ BinP.enc s.length ++ s := by unfold BinP.text; simp
  exact ⟨A3, _, cap3, rfl, by rw [e]; exact hO3, hB1.trans hB3⟩
end Go.Proofs.Ytafhkjljalmheaa
