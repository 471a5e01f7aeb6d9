/- The walks of rolodexref2.Hex and Digits. -/
import Derived.Test.YtohgkadbajmphaaShaRead
namespace Go.Proofs.Ytohgkadbajmphaa
open Go.RowKit
set_option linter.unusedVariables false
set_option maxHeartbeats 1000000 in
theorem ref_hex (A : Option Addr) (n0 c0 B : Nat) (l : List UInt8) (w : World) (h : Sl w B A n0 c0 l) (hB : B ≤ w.heap.size) (hm : n0 ≤ 70368744177664) :
    Calls Try.prog 26 #[.slice A n0 c0] w fun e w' => e = .returned (.string ⟨(ShaP.hex l).toArray⟩) ∧ Below w.heap.size w w' := by
  obtain ⟨hn0, hc0, hcm, hr⟩ := id h
  subst hn0
  unfold maxLen at hcm
  have HR := Lib.hid hr
  clear hr h
  go_enter Try.func26, Try.ntmps26
  go_wp2_with (refine wpList_make8 w.heap.size 0 .i64 .i64 rfl rfl rfl (Nat.le_refl _) (by omega) ?_; intro w1 hO1 hB1 hz1)
  go_loopw [3, 4] (fun f i wy => ∃ (k : Nat) (A' : Option Addr) (n c : Nat), k ≤ l.length ∧ i = .int .i64 (k : Int) ∧ f = .slice A' n c ∧ OwnB wy w.heap.size A' n c (ShaP.hex (l.take k)) ∧ Below w.heap.size w wy) (fun _ i _ => l.length - (intOf i).toNat)
  case atStart => exact ⟨0, _, 0, 0, Nat.zero_le _, rfl, rfl, hO1, hB1⟩
  case round =>
    obtain ⟨k, A', n, c, hk, rfl, rfl, hO, hBr⟩ := hrel
    by_cases hlt : k < l.length
    · obtain ⟨ad, e0, hab, hcell⟩ := HR.out.at_ k (by simpa using hlt)
      subst e0
      obtain ⟨x, hx⟩ : ∃ x, x = l[k] := ⟨_, rfl⟩
      have hcx : wr.cell? (ad.add k) = some (b8 x) := (Below.cell hBr (p := ad.add k) (by rw [add_block]; omega)).trans (by rw [hcell, hx]; simp)
      have hn : n ≤ 140737488355326 := by have := hO.len; rw [ShaP.hex_len, List.length_take] at this; omega
      have HT := Lib.hid (show ShaP.hex (l.take k) ++ [ShaP.hexd (x.toNat / 16), ShaP.hexd (x.toNat % 16)] = ShaP.hex (l.take (k + 1)) by rw [List.take_succ_eq_append_getElem hlt, ShaP.hex_snoc, hx])
      have hI : (k : Int) < (l.length : Int) := by omega
      have hx8 := x.toNat_lt
      obtain ⟨p, hp⟩ : ∃ p, p = x.toNat / 16 := ⟨_, rfl⟩
      obtain ⟨q, hq⟩ : ∃ q, q = x.toNat % 16 := ⟨_, rfl⟩
      have g1 : bits .and .u8 (x.toNat : Int) 15 = (q : Int) := by rw [u8_and_15, hq]
      have g2 : (x.toNat : Int) / 16 = (p : Int) := by omega
      have g3 := fun W => hex_idx W p (by omega)
      have g4 := fun W => hex_idx W q (by omega)
      rw [← hp, ← hq] at HT
      have HO := Lib.hid ((hO.drewN 1).alloc (.cells #[b8 (ShaP.hexd p), b8 (ShaP.hexd q)] 5))
      have hRr : Row ((wr.drewN 1).alloc (.cells #[b8 (ShaP.hexd p), b8 (ShaP.hexd q)] 5)) (wr.heap.size + 1) (some ⟨wr.heap.size, 0, none⟩) ([ShaP.hexd p, ShaP.hexd q].map b8) := Row.new (wr.drewN 1) _ _ _ _ _ rfl (Nat.lt_succ_self _) _ rfl
      have hBn : Below w.heap.size w ((wr.drewN 1).alloc (.cells #[b8 (ShaP.hexd p), b8 (ShaP.hexd q)] 5)) := (hBr.trans ((Grew.drewN wr 1).mono hBr.size)).alloc (by have := hBr.size; simpa using this) _
      clear hx hp hq hcell hO
      go_upto_region 5 with fail
      go_region_law (refine step_app8 rfl (.tmp 12) (.tmp 25) 31 rfl (.inl ⟨_, Try.underlying31⟩) w.heap.size _ _ _ _ rfl HO.out 2 [ShaP.hexd p, ShaP.hexd q] (Src.slice (by simp) hRr) (by omega) hBn.size ?_; intro A8 cap8 w8 hO8 hg8 hB8)
      all_goals
        go_wp2
        go_roundw
        case rel => exact ⟨k + 1, A8, _, cap8, by omega, by go_num, rfl, by rw [← HT.out]; exact hO8, hBn.trans hB8⟩
        case measure => simp [intOf]; omega
    · obtain rfl : k = l.length := by omega
      rw [List.take_of_length_le (Nat.le_refl _)] at hO
      have hlen := hO.len
      go_wp2_with (refine wpList_str8 A' n c wr.heap.size (ShaP.hex l) rfl rfl hlen hO.row ?_)
      go_ret
      exact ⟨rfl, hBr⟩
set_option maxHeartbeats 1000000 in
theorem ref_digits (l : List UInt8) (m : Nat) (w : World) (hm : l.length ≤ maxLen) :
    Calls Try.prog 27 #[.string ⟨l.toArray⟩, .int .i64 (m : Int)] w fun e w' => e = .returned (.bool (l.all ShaP.isd && decide (l.length = m))) ∧ w = w' := by
  have hsz : (⟨l.toArray⟩ : ByteArray).size = l.length := by show l.toArray.size = _; simp
  unfold maxLen at hm
  go_enter Try.func27, Try.ntmps27
  go_wp2_with fail
  go_loop [5] (fun i => ∃ k : Nat, k ≤ l.length ∧ i = .int .i64 (k : Int) ∧ (l.take k).all ShaP.isd = true) (fun i => l.length - (intOf i).toNat)
  case atStart => exact ⟨0, Nat.zero_le _, rfl, rfl⟩
  case round =>
    obtain ⟨k, hk, rfl, hall⟩ := hrel
    have HALL := Lib.hid hall
    clear hall
    by_cases hlt : k < l.length
    · obtain ⟨x, hx⟩ : ∃ x, x = l[k] := ⟨_, rfl⟩
      have hix := run_index_text l k x (by rw [hx]; exact List.getElem?_eq_getElem hlt)
      have hI : (k : Int) < (l.length : Int) := by omega
      have hx8 := x.toNat_lt
      have HX := Lib.hid hx
      clear hx
      by_cases hg : ShaP.isd x = true
      · have HT := Lib.hid (show (l.take (k + 1)).all ShaP.isd = true by rw [List.take_succ_eq_append_getElem hlt, List.all_append, HALL.out, ← HX.out]; simp [hg])
        have hd := of_decide_eq_true hg
        by_cases h1 : 48 ≤ x.toNat ∧ x.toNat ≤ 57
        · have j1 : (48 : Int) ≤ x.toNat := by omega
          have j2 : (x.toNat : Int) ≤ 57 := by omega
          clear hg hd h1
          go_wp2_with fail
          go_round
          case rel => exact ⟨k + 1, by omega, by go_num, HT.out⟩
          case measure => simp [intOf]; omega
        · have j0 : (48 : Int) ≤ x.toNat := by omega
          have j1 : ¬ (x.toNat : Int) ≤ 57 := by omega
          have j2 : (97 : Int) ≤ x.toNat := by omega
          have j3 : (x.toNat : Int) ≤ 102 := by omega
          clear hg hd h1
          go_wp2_with fail
          go_round
          case rel => exact ⟨k + 1, by omega, by go_num, HT.out⟩
          case measure => simp [intOf]; omega
      · have hg0 : ShaP.isd x = false := by simpa using hg
        have HF := Lib.hid (show (l.all ShaP.isd && decide (l.length = m)) = false by
          have := ShaP.not_all l k x (by rw [HX.out]; exact List.getElem?_eq_getElem hlt) hg0
          simp [this])
        have hd := of_decide_eq_false hg0
        have hc : x.toNat < 48 ∨ (57 < x.toNat ∧ x.toNat < 97) ∨ 102 < x.toNat := by omega
        clear hg hg0 hd
        rcases hc with i1 | ⟨i1, i2⟩ | i1
        · have j1 : ¬ (48 : Int) ≤ x.toNat := by omega
          have j2 : ¬ (97 : Int) ≤ x.toNat := by omega
          clear i1
          go_wp2_with fail
          go_ret
          exact ⟨by rw [HF.out]; rfl, rfl⟩
        · have j0 : (48 : Int) ≤ x.toNat := by omega
          have j1 : ¬ (x.toNat : Int) ≤ 57 := by omega
          have j2 : ¬ (97 : Int) ≤ x.toNat := by omega
          clear i1 i2
          go_wp2_with fail
          go_ret
          exact ⟨by rw [HF.out]; rfl, rfl⟩
        · have j0 : (48 : Int) ≤ x.toNat := by omega
          have j1 : ¬ (x.toNat : Int) ≤ 57 := by omega
          have j2 : (97 : Int) ≤ x.toNat := by omega
          have j3 : ¬ (x.toNat : Int) ≤ 102 := by omega
          clear i1
          go_wp2_with fail
          go_ret
          exact ⟨by rw [HF.out]; rfl, rfl⟩
    · obtain rfl : k = l.length := by omega
      have HF := Lib.hid (show (l.all ShaP.isd && decide (l.length = m)) = ((l.length : Int) == (m : Int)) by
        have h1 := HALL.out
        rw [List.take_of_length_le (Nat.le_refl _)] at h1
        rw [h1, Bool.true_and, Bool.eq_iff_iff, decide_eq_true_iff, beq_iff_eq]
        omega)
      go_wp2_with fail
      go_ret
      exact ⟨by rw [HF.out]; rfl, rfl⟩
end Go.Proofs.Ytohgkadbajmphaa
