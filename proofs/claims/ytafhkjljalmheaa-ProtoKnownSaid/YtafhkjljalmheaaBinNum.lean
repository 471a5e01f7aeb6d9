/- The reader of bin: what it is in memory; the walk of number, which only reads. -/
import Derived.Test.YtafhkjljalmheaaBinLay
import Derived.Deep.QuietTactic
import Derived.BigQuiet
namespace Go.Proofs.Ytafhkjljalmheaa
open Go.RowKit
set_option linter.unusedVariables false
/-- a reader in block g: the bytes l stand ahead; bad: it has failed; its blocks lie from base.1 on, below base.2 -/
def Rd (w : World) (base : Nat × Nat) (g : Nat) (l : List UInt8) (bad : Bool) : Prop :=
  ∃ A n c, w.heap[g]? = some (.cells #[.slice A n c, .bool bad] 67 (0, 0)) ∧ (base.1 ≤ g ∧ g < base.2) ∧ l.length = n ∧ n ≤ c ∧ c ≤ maxLen ∧ Row w w.heap.size A (l.map b8) ∧ ∀ ad, A = some ad → ad.block ≠ g ∧ base.1 ≤ ad.block ∧ ad.block < base.2
def numV (l : List UInt8) : Int := match BinP.num l with | some (v, _) => (v : Int) | none => 0
def numN (l : List UInt8) : Int := match BinP.num l with | some (_, n) => (n : Int) | none => 0
def numOk (l : List UInt8) : Bool := (BinP.num l).isSome
theorem and127_key : ∀ x : Fin 256, x.val &&& 127 = x.val % 128 := by decide +kernel
theorem and127 (x : UInt8) : bits .and .u8 (x.toNat : Int) 127 = ((x.toNat % 128 : Nat) : Int) := by
  have hx := x.toNat_lt
  have h := and127_key ⟨x.toNat, hx⟩
  simp only at h
  rw [show (127 : Int) = ((127 : Nat) : Int) from rfl, u8_and_nat _ _ (by omega) (by omega), h]
theorem or_shift (acc y k : Nat) (ha : acc < 2 ^ k) (h : acc + y * 2 ^ k < two64) : bits .or .u64 (acc : Int) ((y * 2 ^ k : Nat) : Int) = ((acc + y * 2 ^ k : Nat) : Int) := by
  unfold two64 at h
  rw [u64_or_nat _ _ (by omega) (by omega), Nat.or_comm, Nat.mul_comm y, ← Nat.two_pow_add_eq_or_of_lt ha y, Nat.add_comm]
theorem or_round (acc : Nat) (x : UInt8) (k : Nat) (ha : acc < 2 ^ (7 * k)) (h : acc + x.toNat % 128 * 2 ^ (7 * k) < two64) :
    bits .or .u64 (acc : Int) (IntKind.u64.wrap ((x.toNat : Int) % 128 * 2 ^ (7 * k))) = ((acc + x.toNat % 128 * 2 ^ (7 * k) : Nat) : Int) := by
  have e : (x.toNat : Int) % 128 * 2 ^ (7 * k) = ((x.toNat % 128 * 2 ^ (7 * k) : Nat) : Int) := by
    rw [Int.natCast_mul, Int.natCast_emod, Int.natCast_pow]; rfl
  rw [e, wrap_u64n (by omega), or_shift _ _ _ ha h]
theorem or_nat (a b : Int) : ∃ z : Nat, bits .or .u64 a b = (z : Int) := by
  have h : 0 ≤ bits .or .u64 a b := wrap_u64_nonneg _
  exact ⟨_, (Int.toNat_of_nonneg h).symm⟩
theorem step_bound (acc k : Nat) (x : UInt8) (hk : k < 9) (ha : acc < 2 ^ (7 * k)) : acc + x.toNat % 128 * 2 ^ (7 * k) < 2 ^ (7 * (k + 1)) ∧ acc + x.toNat % 128 * 2 ^ (7 * k) < two64 := by
  have hm : x.toNat % 128 < 128 := Nat.mod_lt _ (by decide)
  have hp : 2 ^ (7 * (k + 1)) = 128 * 2 ^ (7 * k) := by rw [Nat.mul_add, Nat.pow_add, Nat.mul_comm]
  have h1 : x.toNat % 128 * 2 ^ (7 * k) ≤ 127 * 2 ^ (7 * k) := Nat.mul_le_mul_right _ (by omega)
  have h2 : 2 ^ (7 * (k + 1)) ≤ 2 ^ 63 := Nat.pow_le_pow_right (by decide) (by omega)
  unfold two64
  omega
theorem last_bound (acc : Nat) (x : UInt8) (hx : x.toNat ≤ 1) (ha : acc < 2 ^ (7 * 9)) : acc + x.toNat % 128 * 2 ^ (7 * 9) < two64 := by
  have e : x.toNat % 128 = x.toNat := Nat.mod_eq_of_lt (by omega)
  have h1 : x.toNat * 2 ^ (7 * 9) ≤ 1 * 2 ^ (7 * 9) := Nat.mul_le_mul_right _ hx
  have h2 : 2 * 2 ^ (7 * 9) = two64 := by rfl
  rw [e, ← h2]
  clear h2
  generalize 2 ^ (7 * 9) = q at *
  omega
theorem numF_on {k acc : Nat} {x : UInt8} {r : List UInt8} (h10 : k < 10) (h : 128 ≤ x.toNat) : BinP.numF k acc (x :: r) = BinP.numF (k + 1) (acc + x.toNat % 128 * 2 ^ (7 * k)) r := by
  rw [BinP.numF, if_neg (by omega), if_pos h]
theorem numF_bad {k acc : Nat} {x : UInt8} {r : List UInt8} (h10 : k < 10) (h : x.toNat < 128) (hb : (x.toNat = 0 ∧ 0 < k) ∨ (k = 9 ∧ 1 < x.toNat)) : BinP.numF k acc (x :: r) = none := by
  rw [BinP.numF, if_neg (by omega), if_neg (by omega), if_pos hb]
theorem numF_good {k acc : Nat} {x : UInt8} {r : List UInt8} (h10 : k < 10) (h : x.toNat < 128) (hb : ¬ ((x.toNat = 0 ∧ 0 < k) ∨ (k = 9 ∧ 1 < x.toNat))) : BinP.numF k acc (x :: r) = some (acc + x.toNat % 128 * 2 ^ (7 * k), k + 1) := by
  rw [BinP.numF, if_neg (by omega), if_neg (by omega), if_neg hb]
theorem num_some {l : List UInt8} {v n : Nat} (h : BinP.num l = some (v, n)) : numV l = (v : Int) ∧ numN l = (n : Int) ∧ numOk l = true := by
  unfold numV numN numOk; rw [h]; exact ⟨rfl, rfl, rfl⟩
theorem num_none {l : List UInt8} (h : BinP.num l = none) : numV l = 0 ∧ numN l = 0 ∧ numOk l = false := by
  unfold numV numN numOk; rw [h]; exact ⟨rfl, rfl, rfl⟩
theorem numF_ten (acc : Nat) (l : List UInt8) : BinP.numF 10 acc l = none := by
  cases l <;> simp [BinP.numF]
set_option maxRecDepth 4000 in
set_option maxHeartbeats 400000 in
theorem rd_number (g : Nat) (l : List UInt8) (bad : Bool) (base : Nat × Nat) (w : World) (h : Rd w base g l bad) :
    Calls Try.prog 32 #[.pointer (some ⟨g, 0, none⟩)] w fun e w' => e = .returned (.tuple #[.int .u64 (numV l), .int .i64 (numN l), .bool (numOk l)]) ∧ ∃ k, w' = w.drewN k := by
  obtain ⟨A, n, c, hg, hb, hn, hnc, hcm, hr, hne⟩ := h
  subst hn
  unfold maxLen at hcm
  have hc0 : w.cell? ⟨g, 0, none⟩ = some (.slice A l.length c) := by rw [cell_blk hg]; rfl
  have hc1 : w.cell? ⟨g, 1, none⟩ = some (.bool bad) := by rw [cell_blk hg]; rfl
  have HG := Lib.hid hg
  clear hg hne
  have HNL : Hid (∀ k acc, BinP.numF k acc (l.drop k) = BinP.num l → (k = 10 ∨ k = l.length) → numV l = 0 ∧ numN l = 0 ∧ numOk l = false) := Lib.hid (by
    intro k acc h hk
    have h0 : BinP.num l = none := by
      rcases hk with rfl | rfl
      · rw [← h, numF_ten]
      · rw [← h, List.drop_length]; rfl
    unfold numV numN numOk
    rw [h0]
    exact ⟨rfl, rfl, rfl⟩)
  by_cases h10 : 10 < l.length
  all_goals
    go_enter Try.func32, Try.ntmps32
    go_wp2_with fail
    go_quiet (fail)
    go_wp2_with fail
    go_loop [2, 19] (fun v i => ∃ k acc : Nat, k ≤ 10 ∧ k ≤ l.length ∧ i = .int .i64 (k : Int) ∧ v = .int .u64 (acc : Int) ∧ BinP.numF k acc (l.drop k) = BinP.num l ∧ (k ≤ 9 → acc < 2 ^ (7 * k))) (fun _ i => 10 - (intOf i).toNat)
    case atStart => exact ⟨0, 0, by omega, by omega, rfl, rfl, rfl, by omega⟩
    case round =>
      obtain ⟨k, acc, hk10, hkl, rfl, rfl, hnum, hacc⟩ := hrel
      have HNUM := Lib.hid hnum
      have HACC := Lib.hid hacc
      clear hnum hacc
      by_cases hin : k < 10 ∧ k < l.length
      · obtain ⟨hin1, hin2⟩ := hin
        obtain ⟨ad, hA, _, hc⟩ := hr.at_ k (by rw [List.length_map]; exact hin2)
        subst hA
        rw [List.getElem_map] at hc
        obtain ⟨x, hx⟩ : ∃ x, x = l[k] := ⟨_, rfl⟩
        rw [← hx] at hc
        have hd : l.drop k = x :: l.drop (k + 1) := by rw [hx]; exact List.drop_eq_getElem_cons hin2
        have HD := Lib.hid hd
        have hxl := x.toNat_lt
        have h127 := and127 x
        clear hx hd
        by_cases h128 : 128 ≤ x.toNat
        · have hon := numF_on (acc := acc) (r := l.drop (k + 1)) hin1 h128
          have HON := Lib.hid hon
          clear hon
          by_cases hk9 : k < 9
          · have hsb := step_bound acc k x hk9 (HACC.out (by omega))
            have hor := or_round acc x k (HACC.out (by omega)) hsb.2
            have HOR := Lib.hid hor
            have HSB := Lib.hid hsb
            clear hsb hor
            go_wp2_with fail
            go_round
            case rel => exact ⟨k + 1, acc + x.toNat % 128 * 2 ^ (7 * k), by omega, by omega, by go_num, by rw [HOR.out], by rw [← HON.out, ← HD.out, HNUM.out], fun _ => HSB.out.1⟩
            case measure => simp [intOf]; omega
          · obtain ⟨z, hz⟩ := or_nat (acc : Int) (IntKind.u64.wrap ((x.toNat : Int) % 128 * 2 ^ (7 * k)))
            have HZ := Lib.hid hz
            clear hz
            go_wp2_with fail
            go_round
            case rel =>
              have hz10 : BinP.numF (k + 1) z (l.drop (k + 1)) = BinP.num l := by
                obtain rfl : k = 9 := by omega
                rw [← HNUM.out, HD.out, HON.out, numF_ten, numF_ten]
              exact ⟨k + 1, z, by omega, by omega, by go_num, by rw [HZ.out], hz10, fun h => by omega⟩
            case measure => simp [intOf]; omega
        · by_cases hbad : (x.toNat = 0 ∧ 0 < k) ∨ (k = 9 ∧ 1 < x.toNat)
          · have hno := numF_bad (acc := acc) (r := l.drop (k + 1)) hin1 (by omega) hbad
            rw [← HD.out, HNUM.out] at hno
            obtain ⟨e1, e2, e3⟩ := num_none hno
            have E1 := Lib.hid e1
            have E2 := Lib.hid e2
            have E3 := Lib.hid e3
            clear hno e1 e2 e3
            rcases hbad with ⟨h0, hk0⟩ | ⟨h9, h1⟩
            · have h0' : x.toNat < 1 := by omega
              clear h0
              go_wp2_with fail
              go_ret3
              exact ⟨by rw [E1.out, E2.out, E3.out]; rfl, _, rfl⟩
            · have h9' : 9 ≤ k := by omega
              clear h9
              go_wp2_with fail
              go_ret3
              exact ⟨by rw [E1.out, E2.out, E3.out]; rfl, _, rfl⟩
          · have hgo := numF_good (acc := acc) (r := l.drop (k + 1)) hin1 (by omega) hbad
            rw [← HD.out, HNUM.out] at hgo
            obtain ⟨e1, e2, e3⟩ := num_some hgo
            have hor := or_round acc x k (HACC.out (by omega)) (by
              by_cases hk9 : k < 9
              · exact (step_bound acc k x hk9 (HACC.out (by omega))).2
              · obtain rfl : k = 9 := by omega
                exact last_bound acc x (by omega) (HACC.out (by omega)))
            have E1 := Lib.hid e1
            have E2 := Lib.hid e2
            have E3 := Lib.hid e3
            have HOR := Lib.hid hor
            clear hgo e1 e2 e3 hor
            by_cases hx0 : x.toNat = 0
            · have hk0 : k < 1 := by omega
              have hx0' : x.toNat < 1 := by omega
              have hv0 : numV l = bits .or .u64 (acc : Int) 0 := by
                rw [E1.out, ← HOR.out, hx0]
                simp [IntKind.wrap, IntKind.bits, IntKind.signed]
              have hn1 : numN l = 1 := by rw [E2.out]; omega
              have HV0 := Lib.hid hv0
              have HN1 := Lib.hid hn1
              clear hbad hx0 hv0 hn1
              go_wp2_with fail
              go_ret3
              exact ⟨by rw [HV0.out, HN1.out, E3.out]; rfl, _, rfl⟩
            · by_cases hk9 : k = 9
              · have hx1 : x.toNat < 2 := by omega
                have hx2 : 0 < x.toNat := by omega
                have hn10 : numN l = 10 := by rw [E2.out]; omega
                have HN10 := Lib.hid hn10
                have hk9' : 9 ≤ k := by omega
                clear hbad hk9 hx0 hn10
                go_wp2_with fail
                go_ret3
                exact ⟨by rw [E1.out, HN10.out, E3.out, ← HOR.out]; rfl, _, rfl⟩
              · clear hbad
                go_wp2_with fail
                go_ret3
                exact ⟨by rw [E1.out, E2.out, E3.out, ← HOR.out]; rfl, _, rfl⟩
      · have hkk : k = 10 ∨ k = l.length := by omega
        obtain ⟨e1, e2, e3⟩ := HNL.out k acc HNUM.out hkk
        have E1 := Lib.hid e1
        have E2 := Lib.hid e2
        have E3 := Lib.hid e3
        clear hkk e1 e2 e3
        go_wp2_with fail
        go_ret3
        exact ⟨by rw [E1.out, E2.out, E3.out]; rfl, _, rfl⟩
end Go.Proofs.Ytafhkjljalmheaa
