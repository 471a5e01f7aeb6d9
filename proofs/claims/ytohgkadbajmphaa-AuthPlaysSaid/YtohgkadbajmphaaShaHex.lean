/- The walks of sha.Hex, digit, Read, Equal. -/
import Derived.Test.YtohgkadbajmphaaShaMac
import Derived.Test.YtohgkadbajmphaaSt
import Derived.Test.YtohgkadbajmphaaStep
namespace Go.Proofs.Ytohgkadbajmphaa
open Go.RowKit
set_option linter.unusedVariables false
attribute [local irreducible] wpStill
theorem hex_idx (W : World) : ∀ n : Nat, n < 16 → (Instr.index 9 (.string ⟨#[48, 49, 50, 51, 52, 53, 54, 55, 56, 57, 97, 98, 99, 100, 101, 102]⟩) (.int .u8 (n : Int))).run Try.prog W = .ok (b8 (ShaP.hexd n)) W
  | 0, _ => by kernel_rfl
  | 1, _ => by kernel_rfl
  | 2, _ => by kernel_rfl
  | 3, _ => by kernel_rfl
  | 4, _ => by kernel_rfl
  | 5, _ => by kernel_rfl
  | 6, _ => by kernel_rfl
  | 7, _ => by kernel_rfl
  | 8, _ => by kernel_rfl
  | 9, _ => by kernel_rfl
  | 10, _ => by kernel_rfl
  | 11, _ => by kernel_rfl
  | 12, _ => by kernel_rfl
  | 13, _ => by kernel_rfl
  | 14, _ => by kernel_rfl
  | 15, _ => by kernel_rfl
  | n + 16, h => by omega
theorem u8_and_15 (x : UInt8) : bits .and .u8 (x.toNat : Int) 15 = ((x.toNat % 16 : Nat) : Int) := by
  have hx := x.toNat_lt
  rw [show (15 : Int) = ((15 : Nat) : Int) from rfl, u8_and_nat _ _ hx (by omega), show 15 = 2 ^ 4 - 1 from rfl, Nat.and_two_pow_sub_one_eq_mod]
set_option maxHeartbeats 400000 in
theorem sha_hex (l : List UInt8) (hl : l.length = 32) (w : World) :
    Calls Try.prog 25 #[.agg (l.map b8).toArray] w fun e w' => e = .returned (.string ⟨(ShaP.hex l).toArray⟩) ∧ Below w.heap.size w w' := by
  obtain ⟨C, hC⟩ : ∃ C, C = l.map b8 := ⟨_, rfl⟩
  rw [← hC]
  have HC := Lib.hid hC
  have HL := Lib.hid hl
  have hA := ArrV.made w C.toArray 23
  have HRG := Lib.hid (show (w.alloc (.cells C.toArray 23)).rangeAt w.heap.size 0 C from hA.range)
  have HIN := Lib.hid (show (Try.prog.info? 23).map (·.size) = some C.length by rw [hC, List.length_map, hl]; kernel_rfl)
  have hB1 : Below w.heap.size w (w.alloc (.cells C.toArray 23)) := (Below.refl _ _).alloc (Nat.le_refl _) _
  clear hC hl hA
  go_enter Try.func25, Try.ntmps25
  go_wp2_with (first
    | (refine wpList_value (o := ⟨some 1, _, _, _, _, _⟩) (v := .pointer (some ⟨w.heap.size, 0, none⟩)) (w' := w.alloc (.cells C.toArray 23)) rfl (by kernel_rfl) ?_)
    | (refine wpList_load_mid rfl 23 (.tmp 1) rfl w.heap.size 0 rfl C _ HRG.out Try.underlying23 rfl HIN.out ?_))
  clear HRG HIN
  go_loopw [3, 7] (fun f i wy => ∃ (k : Nat) (A : Option Addr) (n c : Nat), k ≤ 32 ∧ i = .int .i64 (k : Int) ∧ f = .slice A n c ∧ OwnB wy w.heap.size A n c (ShaP.hex (l.take k)) ∧ Below w.heap.size w wy) (fun _ i _ => 32 - (intOf i).toNat)
  case atStart => exact ⟨0, none, 0, 0, Nat.zero_le _, rfl, rfl, Own.nil _ _ _ _, hB1⟩
  case round =>
    obtain ⟨k, A, n, c, hk, rfl, rfl, hO, hB⟩ := hrel
    by_cases hlt : k < 32
    · have hkl : k < l.length := by rw [HL.out]; exact hlt
      obtain ⟨x, hx⟩ : ∃ x, x = l[k] := ⟨_, rfl⟩
      have hn : n ≤ 64 := by have := hO.len; rw [ShaP.hex_len, List.length_take] at this; omega
      have hix := run_index_array (P := Try.prog) 23 5 32 C.toArray .i64 k (b8 x) Try.underlying23 (by kernel_rfl) (fun _ => by kernel_rfl) hlt (by rw [HC.out, hx]; simp [hkl])
      have HT := Lib.hid (show ShaP.hex (l.take k) ++ [ShaP.hexd (x.toNat / 16), ShaP.hexd (x.toNat % 16)] = ShaP.hex (l.take (k + 1)) by rw [List.take_succ_eq_append_getElem hkl, ShaP.hex_snoc, hx])
      have hI : (k : Int) < 32 := by omega
      have hx8 := x.toNat_lt
      obtain ⟨p, hp⟩ : ∃ p, p = x.toNat / 16 := ⟨_, rfl⟩
      obtain ⟨q, hq⟩ : ∃ q, q = x.toNat % 16 := ⟨_, rfl⟩
      have g1 : bits .and .u8 (x.toNat : Int) 15 = (q : Int) := by rw [u8_and_15, hq]
      have g2 : (x.toNat : Int) / 16 = (p : Int) := by omega
      have g3 := fun W => hex_idx W p (by omega)
      have g4 := fun W => hex_idx W q (by omega)
      rw [← hp, ← hq] at HT
      have G := Lib.hid (And.intro g1 (And.intro g2 (And.intro g3 g4)))
      clear hx hp hq g1 g2 g3 g4
      obtain ⟨g1, g2, g3, g4⟩ := G.out
      have HO := Lib.hid ((hO.drewN 1).alloc (.cells #[b8 (ShaP.hexd p), b8 (ShaP.hexd q)] 5))
      have hR : Row ((wr.drewN 1).alloc (.cells #[b8 (ShaP.hexd p), b8 (ShaP.hexd q)] 5)) (wr.heap.size + 1) (some ⟨wr.heap.size, 0, none⟩) ([ShaP.hexd p, ShaP.hexd q].map b8) := Row.new (wr.drewN 1) _ _ _ _ _ rfl (Nat.lt_succ_self _) _ rfl
      have hBn : Below w.heap.size w ((wr.drewN 1).alloc (.cells #[b8 (ShaP.hexd p), b8 (ShaP.hexd q)] 5)) := (hB.trans ((Grew.drewN wr 1).mono hB.size)).alloc (by have := hB.size; simpa using this) _
      go_upto_region 5 with fail
      go_region_law (refine step_app8 rfl (.tmp 10) (.tmp 17) 31 rfl (.inl ⟨_, Try.underlying31⟩) w.heap.size _ _ _ _ rfl HO.out 2 [ShaP.hexd p, ShaP.hexd q] (Src.slice (by simp) hR) (by omega) hBn.size ?_; intro A8 cap8 w8 hO8 hg8 hB8)
      all_goals
        go_wp2
        go_roundw
        case rel => exact ⟨k + 1, A8, _, cap8, by omega, by go_num, rfl, by rw [← HT.out]; exact hO8, hBn.trans hB8⟩
        case measure => simp [intOf]; omega
    · obtain rfl : k = 32 := by omega
      rw [List.take_of_length_le (by rw [HL.out]; omega)] at hO
      have hlen := hO.len
      go_wp2_with (refine wpList_str8 A n c wr.heap.size (ShaP.hex l) rfl rfl hlen hO.row ?_)
      go_ret
      exact ⟨rfl, hB⟩
theorem sha_digit (x : UInt8) (w : World) : Calls Try.prog 39 #[b8 x] w fun e w' => e = .returned (b8 (ShaP.dig x)) ∧ w = w' := by
  have hx := x.toNat_lt
  by_cases h1 : 48 ≤ x.toNat ∧ x.toNat ≤ 57
  · have HD : ShaP.dig x = UInt8.ofNat (x.toNat - 48) := by unfold ShaP.dig; rw [if_pos h1]
    have HV := Lib.hid (show Value.int .u8 ((x.toNat : Int) - 48) = b8 (ShaP.dig x) by rw [HD]; unfold b8; rw [UInt8.toNat_ofNat']; congr 1; omega)
    have i1 : (48 : Int) ≤ x.toNat := by omega
    have i2 : (x.toNat : Int) ≤ 57 := by omega
    clear HD h1
    go_enter Try.func39, Try.ntmps39
    go_wp2
    go_ret
    exact ⟨by rw [← HV.out]; rfl, rfl⟩
  · by_cases h2 : 97 ≤ x.toNat ∧ x.toNat ≤ 102
    · have HD : ShaP.dig x = UInt8.ofNat (x.toNat - 87) := by unfold ShaP.dig; rw [if_neg h1, if_pos h2]
      have HV := Lib.hid (show Value.int .u8 ((x.toNat : Int) - 97 + 10) = b8 (ShaP.dig x) by rw [HD]; unfold b8; rw [UInt8.toNat_ofNat']; congr 1; omega)
      have i0 : ¬ (x.toNat : Int) ≤ 57 := by omega
      have i1 : (97 : Int) ≤ x.toNat := by omega
      have i2 : (x.toNat : Int) ≤ 102 := by omega
      clear HD h1 h2
      go_enter Try.func39, Try.ntmps39
      go_wp2
      go_ret
      exact ⟨by rw [← HV.out]; rfl, rfl⟩
    · have HD : ShaP.dig x = 255 := by unfold ShaP.dig; rw [if_neg h1, if_neg h2]
      have HV := Lib.hid (show Value.int .u8 255 = b8 (ShaP.dig x) by rw [HD]; rfl)
      have hc : x.toNat < 48 ∨ (57 < x.toNat ∧ x.toNat < 97) ∨ 102 < x.toNat := by omega
      clear HD h1 h2
      rcases hc with i1 | ⟨i1, i2⟩ | i1
      · have j1 : ¬ (48 : Int) ≤ x.toNat := by omega
        have j2 : ¬ (97 : Int) ≤ x.toNat := by omega
        go_enter Try.func39, Try.ntmps39
        go_wp2
        go_ret
        exact ⟨by rw [← HV.out]; rfl, rfl⟩
      · have j0 : (48 : Int) ≤ x.toNat := by omega
        have j1 : ¬ (x.toNat : Int) ≤ 57 := by omega
        have j2 : ¬ (97 : Int) ≤ x.toNat := by omega
        go_enter Try.func39, Try.ntmps39
        go_wp2
        go_ret
        exact ⟨by rw [← HV.out]; rfl, rfl⟩
      · have j0 : (48 : Int) ≤ x.toNat := by omega
        have j1 : ¬ (x.toNat : Int) ≤ 57 := by omega
        have j2 : (97 : Int) ≤ x.toNat := by omega
        have j3 : ¬ (x.toNat : Int) ≤ 102 := by omega
        go_enter Try.func39, Try.ntmps39
        go_wp2
        go_ret
        exact ⟨by rw [← HV.out]; rfl, rfl⟩
end Go.Proofs.Ytohgkadbajmphaa
