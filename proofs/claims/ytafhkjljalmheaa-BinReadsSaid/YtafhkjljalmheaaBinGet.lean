/- The walks of rolodexref3.Get, Small and String: what bytes begin with. -/
import Derived.Test.YtafhkjljalmheaaBinRd3
namespace Go.Proofs.Ytafhkjljalmheaa
open Go.RowKit
set_option linter.unusedVariables false
/-- a slice of bytes that holds l, below block B -/
def Sl (w : World) (B : Nat) (A : Option Addr) (n c : Nat) (l : List UInt8) : Prop := l.length = n ∧ n ≤ c ∧ c ≤ maxLen ∧ Row w B A (l.map b8)
theorem Sl.nil (w : World) (B : Nat) : Sl w B none 0 0 [] := ⟨rfl, Nat.le_refl _, Nat.zero_le _, Row.nil⟩
theorem Sl.below {w w' : World} {B : Nat} {A : Option Addr} {n c : Nat} {l : List UInt8} (h : Sl w B A n c l) (hb : Below B w w') : Sl w' B A n c l := ⟨h.1, h.2.1, h.2.2.1, h.2.2.2.below hb⟩
/-- what Get answers -/
def Got (w : World) (B : Nat) (l : List UInt8) (e : Ending) : Prop :=
  (BinP.num l = none ∧ ∃ v A n c, e = .returned (.tuple #[.int .u64 v, .slice A n c, .bool false])) ∨
  (∃ v k A n c, BinP.num l = some (v, k) ∧ e = .returned (.tuple #[.int .u64 (v : Int), .slice A n c, .bool true]) ∧ Sl w B A n c (l.drop k))
theorem add_round (acc : Nat) (x : UInt8) (k : Nat) (h : acc + x.toNat % 128 * 2 ^ (7 * k) < two64) :
    IntKind.u64.wrap ((acc : Int) + IntKind.u64.wrap ((x.toNat : Int) % 128 * 2 ^ (7 * k))) = ((acc + x.toNat % 128 * 2 ^ (7 * k) : Nat) : Int) := by
  have e : (x.toNat : Int) % 128 * 2 ^ (7 * k) = ((x.toNat % 128 * 2 ^ (7 * k) : Nat) : Int) := by
    rw [Int.natCast_mul, Int.natCast_emod, Int.natCast_pow]; rfl
  rw [e, wrap_u64n (by omega), ← Int.natCast_add, wrap_u64n h]
theorem add_round9 (acc : Nat) (x : UInt8) (h : acc + x.toNat % 128 * 2 ^ (7 * 9) < two64) :
    IntKind.u64.wrap ((acc : Int) + (x.toNat : Int) % 128 * 9223372036854775808) = ((acc + x.toNat % 128 * 2 ^ (7 * 9) : Nat) : Int) := by
  have e : (acc : Int) + (x.toNat : Int) % 128 * 9223372036854775808 = ((acc + x.toNat % 128 * 2 ^ (7 * 9) : Nat) : Int) := by
    have e2 : (2 : Nat) ^ (7 * 9) = 9223372036854775808 := by rfl
    rw [e2]
    omega
  rw [e, wrap_u64n h]
theorem wrap_i64s (k c : Nat) (h : k < c) (hc : c ≤ 2 ^ 63 - 1) : IntKind.i64.wrap ((k : Int) + 1) = ((k + 1 : Nat) : Int) := by
  rw [IntWalk.i64_in _ (by omega)]; omega
set_option maxRecDepth 4000 in
set_option maxHeartbeats 400000 in
theorem ref_get (A : Option Addr) (n c : Nat) (l : List UInt8) (B : Nat) (w : World) (h : Sl w B A n c l) :
    Calls Try.prog 22 #[.slice A n c] w fun e w' => Got w B l e ∧ ∃ k, w' = w.drewN k := by
  obtain ⟨hn, hnc, hcm, hr⟩ := h
  subst hn
  unfold maxLen at hcm
  have HNL : Hid (∀ k acc, BinP.numF k acc (l.drop k) = BinP.num l → (k = 10 ∨ k = l.length) → BinP.num l = none) := Lib.hid (by
    intro k acc h hk
    rcases hk with rfl | rfl
    · rw [← h, numF_ten]
    · rw [← h, List.drop_length]; rfl)
  go_enter Try.func22, Try.ntmps22
  go_wp2_with fail
  go_loop [5, 6] (fun v i => ∃ k acc : Nat, k ≤ 10 ∧ k ≤ l.length ∧ i = .int .i64 (k : Int) ∧ v = .int .u64 (acc : Int) ∧ BinP.numF k acc (l.drop k) = BinP.num l ∧ (k ≤ 9 → acc < 2 ^ (7 * k))) (fun _ i => 10 - (intOf i).toNat)
  case atStart => exact ⟨0, 0, by omega, by omega, rfl, rfl, rfl, by omega⟩
  case round =>
    obtain ⟨k, acc, hk10, hkl, rfl, rfl, hnum, hacc⟩ := hrel
    have HNUM := Lib.hid hnum
    have HACC := Lib.hid hacc
    clear hnum hacc
    by_cases hin : k < l.length ∧ k < 10
    · obtain ⟨hin2, hin1⟩ := hin
      obtain ⟨ad, hA, hab, hc⟩ := hr.at_ k (by rw [List.length_map]; exact hin2)
      subst hA
      rw [List.getElem_map] at hc
      obtain ⟨x, hx⟩ : ∃ x, x = l[k] := ⟨_, rfl⟩
      rw [← hx] at hc
      have hd : l.drop k = x :: l.drop (k + 1) := by rw [hx]; exact List.drop_eq_getElem_cons hin2
      have HD := Lib.hid hd
      have hxl := x.toNat_lt
      clear hx hd hab
      have e128 : x.toNat < 128 → x.toNat % 128 = x.toNat := fun h => Nat.mod_eq_of_lt h
      by_cases hnine : k = 9 ∧ 1 < x.toNat % 128
      · have hno : BinP.num l = none := by
          obtain ⟨rfl, h1⟩ := hnine
          rw [← HNUM.out, HD.out]
          by_cases h128 : 128 ≤ x.toNat
          · rw [numF_on (by omega) h128, numF_ten]
          · exact numF_bad (by omega) (by omega) (.inr ⟨rfl, by rwa [e128 (by omega)] at h1⟩)
        have HNO := Lib.hid hno
        have h9 : 9 ≤ k := by omega
        have h1 : 1 < (x.toNat : Int) % 128 := by omega
        clear hno hnine e128
        go_wp2_with fail
        go_ret3
        exact ⟨.inl ⟨HNO.out, _, _, _, _, rfl⟩, 0, rfl⟩
      · have hbd : acc + x.toNat % 128 * 2 ^ (7 * k) < two64 ∧ (k < 9 → acc + x.toNat % 128 * 2 ^ (7 * k) < 2 ^ (7 * (k + 1))) := by
          by_cases hk9 : k < 9
          · have := step_bound acc k x hk9 (HACC.out (by omega))
            exact ⟨this.2, fun _ => this.1⟩
          · obtain rfl : k = 9 := by omega
            have h1 : x.toNat % 128 ≤ 1 := by omega
            have h2 := HACC.out (by omega)
            have h3 : x.toNat % 128 * 2 ^ (7 * 9) ≤ 1 * 2 ^ (7 * 9) := Nat.mul_le_mul_right _ h1
            have h4 : 2 * 2 ^ (7 * 9) = two64 := by rfl
            refine ⟨?_, fun h => by omega⟩
            rw [← h4]
            clear h4
            generalize 2 ^ (7 * 9) = q at *
            omega
        have had := add_round acc x k hbd.1
        have had9 : k = 9 → IntKind.u64.wrap ((acc : Int) + (x.toNat : Int) % 128 * 9223372036854775808) = ((acc + x.toNat % 128 * 2 ^ (7 * k) : Nat) : Int) := by
          rintro rfl
          exact add_round9 acc x hbd.1
        have hgood := fun h h' => numF_good (k := k) (acc := acc) (x := x) (r := l.drop (k + 1)) hin1 h h'
        have hon := fun h => numF_on (k := k) (acc := acc) (x := x) (r := l.drop (k + 1)) hin1 h
        generalize acc + x.toNat % 128 * 2 ^ (7 * k) = z at hbd had had9 hgood hon
        have HBD := Lib.hid hbd
        have HAD9 := Lib.hid had9
        have HGOOD := Lib.hid hgood
        have HON := Lib.hid hon
        clear hbd had9 hgood hon
        by_cases h128 : 128 ≤ x.toNat
        · clear e128
          rcases (show k < 9 ∨ k = 9 by omega) with hk9 | rfl
          · clear hnine
            go_wp2_with fail
            go_round
            case rel => exact ⟨k + 1, z, by omega, by omega, by go_num, rfl, by rw [← HON.out h128, ← HD.out, HNUM.out], fun _ => HBD.out.2 hk9⟩
            case measure => simp [intOf]; omega
          · have h1 : ¬ 1 < (x.toNat : Int) % 128 := by omega
            have hc9 : w.cell? ⟨ad.block, ad.off + 9, none⟩ = some (b8 x) := hc
            have had9 := HAD9.out rfl
            clear hnine
            go_wp2_with fail
            go_round
            case rel => exact ⟨9 + 1, z, by omega, by omega, by go_num, rfl, by rw [← HON.out h128, ← HD.out, HNUM.out], fun h => by omega⟩
            case measure => simp [intOf]
        · have hws := wrap_i64s k c (by omega) hcm
          have hi1 : (0 : Int) ≤ (k : Int) + 1 := by omega
          have hi4 : (0 : Int) ≤ (k : Int) := by omega
          have hi5 : (k : Int) < (l.length : Int) := by omega
          have hi2 : (k : Int) + 1 ≤ (l.length : Int) := by omega
          have h1 : k < 9 ∨ ¬ 1 < (x.toNat : Int) % 128 := by omega
          have hsl0 : c = k + 1 → Sl w B (some ad) (l.length - (k + 1)) 0 (l.drop (k + 1)) := fun hcut => ⟨by simp, by omega, by unfold maxLen; omega, hr.cut0 (by omega) hnc hcut⟩
          have hsl1 : ¬ c = k + 1 → Sl w B (some (ad.add (k + 1))) (l.length - (k + 1)) (c - (k + 1)) (l.drop (k + 1)) := fun hcut => ⟨by simp, by omega, by unfold maxLen; omega, hr.cut1 (by omega) hnc hcut⟩
          have HSL0 := Lib.hid hsl0
          have HSL1 := Lib.hid hsl1
          have hw10 : IntKind.i64.wrap 10 = 10 := by rfl
          have hw1 : IntKind.i64.wrap 1 = 1 := by rfl
          clear hsl0 hsl1
          by_cases hx0 : 0 < x.toNat
          · have hgo : BinP.num l = some (z, k + 1) := by
              rw [← HNUM.out, HD.out]
              exact HGOOD.out (Nat.lt_of_not_le h128) (by have := e128 (Nat.lt_of_not_le h128); omega)
            have HGO := Lib.hid hgo
            have hd0 : decide ((0 : Int) < (x.toNat : Int)) = true := by simp; omega
            have hd1 : decide (0 < x.toNat) = true := by simp; omega
            clear hgo hnine e128
            rcases (show k < 9 ∨ k = 9 by omega) with hk9 | rfl
            · clear h1 HAD9
              by_cases hcut : c = k + 1
              · have HSL := Lib.hid (HSL0.out hcut)
                go_wp2_with fail
                go_quiet (fail)
                go_wp2_with fail
                go_ret3
                exact ⟨.inr ⟨_, _, _, _, _, HGO.out, rfl, HSL.out⟩, _, rfl⟩
              · have HSL := Lib.hid (HSL1.out hcut)
                go_wp2_with fail
                go_quiet (fail)
                go_wp2_with fail
                go_ret3
                exact ⟨.inr ⟨_, _, _, _, _, HGO.out, rfl, HSL.out⟩, _, rfl⟩
            · have had9 := HAD9.out rfl
              have h1' : ¬ 1 < (x.toNat : Int) % 128 := by omega
              have hi3 : (10 : Int) ≤ (l.length : Int) := by omega
              have hi6 : (9 : Int) < (l.length : Int) := by omega
              have hc9 : w.cell? ⟨ad.block, ad.off + 9, none⟩ = some (b8 x) := hc
              clear h1 HAD9
              by_cases hcut : c = 10
              · have HSL := Lib.hid (HSL0.out hcut)
                go_wp2_with fail
                go_quiet (fail)
                go_wp2_with fail
                go_ret3
                exact ⟨.inr ⟨_, _, _, _, _, HGO.out, rfl, HSL.out⟩, _, rfl⟩
              · have HSL := Lib.hid (HSL1.out hcut)
                go_wp2_with fail
                go_quiet (fail)
                go_wp2_with fail
                go_ret3
                exact ⟨.inr ⟨_, _, _, _, _, HGO.out, rfl, HSL.out⟩, _, rfl⟩
          · have hd0 : decide ((0 : Int) < (x.toNat : Int)) = false := by simp; omega
            have hd1 : decide (0 < x.toNat) = false := by simp; omega
            by_cases hk0 : 0 < k
            · have hno : BinP.num l = none := by
                rw [← HNUM.out, HD.out]
                exact numF_bad (by omega) (by omega) (.inl ⟨by omega, hk0⟩)
              have HNO := Lib.hid hno
              have hkb : ((k : Int) == 0) = false := by simp; omega
              clear hno hnine e128
              rcases (show k < 9 ∨ k = 9 by omega) with hk9 | rfl
              · clear h1 HAD9
                by_cases hcut : c = k + 1
                · go_wp2_with fail
                  go_quiet (fail)
                  go_wp2_with fail
                  go_ret3
                  exact ⟨.inl ⟨HNO.out, _, _, _, _, rfl⟩, _, rfl⟩
                · go_wp2_with fail
                  go_quiet (fail)
                  go_wp2_with fail
                  go_ret3
                  exact ⟨.inl ⟨HNO.out, _, _, _, _, rfl⟩, _, rfl⟩
              · have had9 := HAD9.out rfl
                have h1' : ¬ 1 < (x.toNat : Int) % 128 := by omega
                have hi3 : (10 : Int) ≤ (l.length : Int) := by omega
                have hi6 : (9 : Int) < (l.length : Int) := by omega
                have hc9 : w.cell? ⟨ad.block, ad.off + 9, none⟩ = some (b8 x) := hc
                clear h1 HAD9
                by_cases hcut : c = 10
                · go_wp2_with fail
                  go_quiet (fail)
                  go_wp2_with fail
                  go_ret3
                  exact ⟨.inl ⟨HNO.out, _, _, _, _, rfl⟩, _, rfl⟩
                · go_wp2_with fail
                  go_quiet (fail)
                  go_wp2_with fail
                  go_ret3
                  exact ⟨.inl ⟨HNO.out, _, _, _, _, rfl⟩, _, rfl⟩
            · have hgo : BinP.num l = some (z, k + 1) := by
                rw [← HNUM.out, HD.out]
                exact HGOOD.out (Nat.lt_of_not_le h128) (by omega)
              have HGO := Lib.hid hgo
              have hk1 : k < 1 := by omega
              have hkb : ((k : Int) == 0) = true := by simp; omega
              clear hgo hnine e128 h1 HAD9
              by_cases hcut : c = k + 1
              · have HSL := Lib.hid (HSL0.out hcut)
                go_wp2_with fail
                go_quiet (fail)
                go_wp2_with fail
                go_ret3
                exact ⟨.inr ⟨_, _, _, _, _, HGO.out, rfl, HSL.out⟩, _, rfl⟩
              · have HSL := Lib.hid (HSL1.out hcut)
                go_wp2_with fail
                go_quiet (fail)
                go_wp2_with fail
                go_ret3
                exact ⟨.inr ⟨_, _, _, _, _, HGO.out, rfl, HSL.out⟩, _, rfl⟩
    · have hkk : k = 10 ∨ k = l.length := by omega
      have hno := HNL.out k acc HNUM.out hkk
      have HNO := Lib.hid hno
      clear hkk hno
      go_wp2_with fail
      all_goals
        go_ret3
        exact ⟨.inl ⟨HNO.out, _, _, _, _, rfl⟩, 0, rfl⟩
end Go.Proofs.Ytafhkjljalmheaa
