/- The walks of bin.Uint and bin.Text: a number's, a text's bytes behind the bytes that were there. -/
import Derived.Test.YtkkeodfoiffofaaClone
import Derived.Test.YtkkeodfoiffofaaBinPlain
import Derived.Deep.QuietTactic
import Derived.BigQuiet
namespace Go.Proofs.Ytkkeodfoiffofaa
open Go.RowKit
set_option linter.unusedVariables false
theorem or128_key : ∀ x : Fin 256, x.val ||| 128 = x.val % 128 + 128 := by decide +kernel
theorem or128 (v : Nat) : bits .or .u8 ((v : Int) % 256) 128 = ((UInt8.ofNat (v % 128 + 128)).toNat : Int) := by
  have e : (v : Int) % 256 = ((v % 256 : Nat) : Int) := by omega
  have h := or128_key ⟨v % 256, Nat.mod_lt _ (by decide)⟩
  simp only at h
  rw [e, show (128 : Int) = ((128 : Nat) : Int) from rfl, u8_or_nat _ _ (by omega) (by omega), UInt8.toNat_ofNat', h]
  omega
theorem byte_mod (v : Nat) : (v : Int) % 256 = ((UInt8.ofNat v).toNat : Int) := by
  rw [UInt8.toNat_ofNat']; omega
theorem cast_div128 (v : Nat) : (v : Int) / 128 = ((v / 128 : Nat) : Int) := by omega
set_option maxRecDepth 4000 in
set_option maxHeartbeats 400000 in
theorem bin_uint (A : Option Addr) (n c v : Nat) (l : List UInt8) (B : Nat) (w : World) (hn : l.length = n) (hr : Row w B A (l.map b8)) (hB : B ≤ w.heap.size) (hm : n + 10 ≤ 140737488355328) (hv : v < two64) :
    Calls Try.prog 51 #[.slice A n c, .int .u64 (v : Int)] w (GivesB w (l ++ BinP.enc v)) := by
  subst hn
  have HV := Lib.hid hv
  clear hv
  go_enter Try.func51, Try.ntmps51
  go_wp2_with fail
  refine (clone8 A l.length c l B w rfl hr hB (by omega)).mono ?_
  rintro e w1 ⟨A1, n1, cap1, rfl, hO1, hB1⟩
  go_wp2_with fail
  go_loopw [0, 1] (fun s x wr => ∃ f cur A2 n2 cap2 out, x = .int .u64 ((cur : Nat) : Int) ∧ f ≤ 9 ∧ cur < 128 ^ (f + 1) ∧ cur < two64 ∧ out ++ BinP.encF (f + 1) cur = l ++ BinP.enc v ∧ s = .slice A2 n2 cap2 ∧ OwnB wr w.heap.size A2 n2 cap2 out ∧ n2 + (f + 1) ≤ l.length + 10 ∧ Below w.heap.size w wr) (fun _ x _ => (intOf x).toNat)
  case atStart => exact ⟨9, v, A1, n1, cap1, l, rfl, by omega, by have := two64_eq; have := HV.out; omega, HV.out, rfl, rfl, hO1, by have := hO1.len; omega, hB1⟩
  case round =>
    obtain ⟨f, cur, A2, n2, cap2, out, rfl, hf, hcf, hc64, he, rfl, hO, hol, hBr⟩ := hrel
    have HE := Lib.hid he
    have HCF := Lib.hid hcf
    have HC64 := Lib.hid hc64
    clear he hO1 hB1 hcf hc64
    have hs := hBr.size
    by_cases hge : 128 ≤ cur
    · obtain ⟨x, hx, hxe⟩ : ∃ x : UInt8, bits .or .u8 ((cur : Int) % 256) 128 = (x.toNat : Int) ∧ x = UInt8.ofNat (cur % 128 + 128) := ⟨_, or128 cur, rfl⟩
      have HX := Lib.hid hxe
      clear hxe
      go_wp2_with (at_builtin; go_loud (refine wpList_app8 rfl (.tmp 11) (.tmp 15) 49 rfl (.inl ⟨_, Try.underlying49⟩) w.heap.size _ _ _ out rfl (hO.alloc _) 1 [x] (Src.slice rfl (Row.new _ _ _ _ (wr.heap.size + 1) _ rfl (by omega) _ rfl)) (.inr ⟨rfl, by omega⟩) (by simp; omega) ?_; intro A3 cap3 w3 hO3 hg3 hB3 hb3))
      go_wp2_with fail
      go_roundw
      case rel =>
        have hge0 := HCF.out
        rw [Nat.pow_succ] at hge0
        obtain ⟨g, rfl⟩ : ∃ g, f = g + 1 := by
          rcases f with _ | g
          · simp at hge0; omega
          · exact ⟨g, rfl⟩
        refine ⟨g, cur / 128, A3, n2 + 1, cap3, out ++ [x], ?_, by omega, by omega, by have := HC64.out; omega, ?_, rfl, hO3, by omega, (hBr.alloc (by omega) _).trans hB3⟩
        · congr 1
        · rw [← HE.out, BinP.encF_split _ _ hge, HX.out]; simp
      case measure => simp [intOf]; omega
    · obtain ⟨x, rfl⟩ : ∃ x : UInt8, cur = x.toNat := ⟨UInt8.ofNat cur, by rw [UInt8.toNat_ofNat']; omega⟩
      go_wp2_with (at_builtin; go_loud (refine wpList_app8 rfl (.tmp 17) (.tmp 20) 49 rfl (.inl ⟨_, Try.underlying49⟩) w.heap.size _ _ _ out rfl (hO.alloc _) 1 [x] (Src.slice rfl (Row.new _ _ _ _ (wr.heap.size + 1) _ rfl (by omega) _ rfl)) (.inr ⟨rfl, by omega⟩) (by simp; omega) ?_; intro A3 cap3 w3 hO3 hg3 hB3 hb3))
      go_ret
      have e : out ++ [x] = l ++ BinP.enc v := by rw [← HE.out, BinP.encF_last _ _ (by omega)]; simp
      exact ⟨A3, _, cap3, rfl, by rw [← e]; exact hO3, (hBr.alloc (by omega) _).trans hB3⟩
set_option maxRecDepth 4000 in
set_option maxHeartbeats 400000 in
theorem bin_text (A : Option Addr) (n c : Nat) (l s : List UInt8) (B : Nat) (w : World) (hn : l.length = n) (hr : Row w B A (l.map b8)) (hB : B ≤ w.heap.size) (hm : n + s.length + 10 ≤ 140737488355328) :
    Calls Try.prog 52 #[.slice A n c, .string ⟨s.toArray⟩] w (GivesB w (l ++ BinP.text s)) := by
  subst hn
  have hl := BinP.enc_len s.length
  have h1 := bin_uint A l.length c s.length l B w rfl hr hB (by omega) (by have := two64_eq; omega)
  have H1 := Lib.hid h1
  clear h1 hr
  go_enter Try.func52, Try.ntmps52
  go_wp2_with fail
  refine H1.out.mono ?_
  rintro e w1 ⟨A1, n1, cap1, rfl, hO1, hB1⟩
  have hs := hB1.size
  have hn1 : n1 ≤ l.length + 10 := by have := hO1.len; rw [List.length_append] at this; omega
  go_wp2_with (at_builtin; go_loud (refine wpList_app8 rfl (.tmp 9) (.tmp 10) 9 rfl (.inr Try.underlying9) w.heap.size _ _ _ (l ++ BinP.enc s.length) rfl hO1 s.length s (Src.str s) (.inl (by omega)) hs ?_; intro A3 cap3 w3 hO3 hg3 hB3 hb3))
  go_ret
  have e : l ++ BinP.text s = l ++ BinP.enc s.length ++ s := by unfold BinP.text; simp
  exact ⟨A3, _, cap3, rfl, by rw [e]; exact hO3, hB1.trans hB3⟩
end Go.Proofs.Ytkkeodfoiffofaa
namespace Go.Proofs.Ytkkeodfoiffofaa
open Go.RowKit
set_option linter.unusedVariables false
/-- a reader in block g: the bytes l stand ahead; bad: it has failed; its blocks lie from base.1 on, below base.2 -/
def Rd (w : World) (base : Nat × Nat) (g : Nat) (l : List UInt8) (bad : Bool) : Prop :=
  ∃ A n c, w.heap[g]? = some (.cells #[.slice A n c, .bool bad] 102 (0, 0)) ∧ (base.1 ≤ g ∧ g < base.2) ∧ l.length = n ∧ n ≤ c ∧ c ≤ maxLen ∧ Row w w.heap.size A (l.map b8) ∧ ∀ ad, A = some ad → ad.block ≠ g ∧ base.1 ≤ ad.block ∧ ad.block < base.2
def numV (l : List UInt8) : Int := match BinP.num l with | some (v, _) => (v : Int) | none => 0
def numN (l : List UInt8) : Int := match BinP.num l with | some (_, n) => (n : Int) | none => 0
def numOk (l : List UInt8) : Bool := (BinP.num l).isSome
theorem and127_key : ∀ x : Fin 256, x.val &&& 127 = x.val % 128 := by decide +kernel
theorem and127 (x : UInt8) : bits .and .u8 (x.toNat : Int) 127 = ((x.toNat % 128 : Nat) : Int) := by
  have hx := x.toNat_lt
  have h := and127_key ⟨x.toNat, hx⟩
  simp only at h
  rw [show (127 : Int) = ((127 : Nat) : Int) from rfl, u8_and_nat _ _ (by omega) (by omega), h]
theorem or_shift (acc y k : Nat) (ha : acc < 2 ^ k) (h : acc + y * 2 ^ k < two64) : bits .or .u64 (acc : Int) ((y * 2 ^ k : Nat) : Int) = ((acc + y * 2 ^ k : Nat) : Int) := by
  unfold two64 at h
  rw [u64_or_nat _ _ (by omega) (by omega), Nat.or_comm, Nat.mul_comm y, ← Nat.two_pow_add_eq_or_of_lt ha y, Nat.add_comm]
theorem or_round (acc : Nat) (x : UInt8) (k : Nat) (ha : acc < 2 ^ (7 * k)) (h : acc + x.toNat % 128 * 2 ^ (7 * k) < two64) :
    bits .or .u64 (acc : Int) (IntKind.u64.wrap ((x.toNat : Int) % 128 * 2 ^ (7 * k))) = ((acc + x.toNat % 128 * 2 ^ (7 * k) : Nat) : Int) := by
  have e : (x.toNat : Int) % 128 * 2 ^ (7 * k) = ((x.toNat % 128 * 2 ^ (7 * k) : Nat) : Int) := by
    rw [Int.natCast_mul, Int.natCast_emod, Int.natCast_pow]; rfl
  rw [e, wrap_u64n (by omega), or_shift _ _ _ ha h]
theorem or_nat (a b : Int) : ∃ z : Nat, bits .or .u64 a b = (z : Int) := by
  have h : 0 ≤ bits .or .u64 a b := wrap_u64_nonneg _
  exact ⟨_, (Int.toNat_of_nonneg h).symm⟩
theorem step_bound (acc k : Nat) (x : UInt8) (hk : k < 9) (ha : acc < 2 ^ (7 * k)) : acc + x.toNat % 128 * 2 ^ (7 * k) < 2 ^ (7 * (k + 1)) ∧ acc + x.toNat % 128 * 2 ^ (7 * k) < two64 := by
  have hm : x.toNat % 128 < 128 := Nat.mod_lt _ (by decide)
  have hp : 2 ^ (7 * (k + 1)) = 128 * 2 ^ (7 * k) := by rw [Nat.mul_add, Nat.pow_add, Nat.mul_comm]
  have h1 : x.toNat % 128 * 2 ^ (7 * k) ≤ 127 * 2 ^ (7 * k) := Nat.mul_le_mul_right _ (by omega)
  have h2 : 2 ^ (7 * (k + 1)) ≤ 2 ^ 63 := Nat.pow_le_pow_right (by decide) (by omega)
  unfold two64
  omega
theorem last_bound (acc : Nat) (x : UInt8) (hx : x.toNat ≤ 1) (ha : acc < 2 ^ (7 * 9)) : acc + x.toNat % 128 * 2 ^ (7 * 9) < two64 := by
  have e : x.toNat % 128 = x.toNat := Nat.mod_eq_of_lt (by omega)
  have h1 : x.toNat * 2 ^ (7 * 9) ≤ 1 * 2 ^ (7 * 9) := Nat.mul_le_mul_right _ hx
  have h2 : 2 * 2 ^ (7 * 9) = two64 := by rfl
  rw [e, ← h2]
  clear h2
  generalize 2 ^ (7 * 9) = q at *
  omega
theorem numF_on {k acc : Nat} {x : UInt8} {r : List UInt8} (h10 : k < 10) (h : 128 ≤ x.toNat) : BinP.numF k acc (x :: r) = BinP.numF (k + 1) (acc + x.toNat % 128 * 2 ^ (7 * k)) r := by
  rw [BinP.numF, if_neg (by omega), if_pos h]
theorem numF_bad {k acc : Nat} {x : UInt8} {r : List UInt8} (h10 : k < 10) (h : x.toNat < 128) (hb : (x.toNat = 0 ∧ 0 < k) ∨ (k = 9 ∧ 1 < x.toNat)) : BinP.numF k acc (x :: r) = none := by
  rw [BinP.numF, if_neg (by omega), if_neg (by omega), if_pos hb]
theorem numF_good {k acc : Nat} {x : UInt8} {r : List UInt8} (h10 : k < 10) (h : x.toNat < 128) (hb : ¬ ((x.toNat = 0 ∧ 0 < k) ∨ (k = 9 ∧ 1 < x.toNat))) : BinP.numF k acc (x :: r) = some (acc + x.toNat % 128 * 2 ^ (7 * k), k + 1) := by
  rw [BinP.numF, if_neg (by omega), if_neg (by omega), if_neg hb]
theorem num_some {l : List UInt8} {v n : Nat} (h : BinP.num l = some (v, n)) : numV l = (v : Int) ∧ numN l = (n : Int) ∧ numOk l = true := by
  unfold numV numN numOk; rw [h]; exact ⟨rfl, rfl, rfl⟩
theorem num_none {l : List UInt8} (h : BinP.num l = none) : numV l = 0 ∧ numN l = 0 ∧ numOk l = false := by
  unfold numV numN numOk; rw [h]; exact ⟨rfl, rfl, rfl⟩
theorem numF_ten (acc : Nat) (l : List UInt8) : BinP.numF 10 acc l = none := by
  cases l <;> simp [BinP.numF]
set_option maxRecDepth 4000 in
set_option maxHeartbeats 400000 in
theorem rd_number (g : Nat) (l : List UInt8) (bad : Bool) (base : Nat × Nat) (w : World) (h : Rd w base g l bad) :
    Calls Try.prog 73 #[.pointer (some ⟨g, 0, none⟩)] w fun e w' => e = .returned (.tuple #[.int .u64 (numV l), .int .i64 (numN l), .bool (numOk l)]) ∧ ∃ k, w' = w.drewN k := by
  obtain ⟨A, n, c, hg, hb, hn, hnc, hcm, hr, hne⟩ := h
  subst hn
  unfold maxLen at hcm
  have hc0 : w.cell? ⟨g, 0, none⟩ = some (.slice A l.length c) := by rw [cell_blk hg]; rfl
  have hc1 : w.cell? ⟨g, 1, none⟩ = some (.bool bad) := by rw [cell_blk hg]; rfl
  have HG := Lib.hid hg
  clear hg hne
  have HNL : Hid (∀ k acc, BinP.numF k acc (l.drop k) = BinP.num l → (k = 10 ∨ k = l.length) → numV l = 0 ∧ numN l = 0 ∧ numOk l = false) := Lib.hid (by
    intro k acc h hk
    have h0 : BinP.num l = none := by
      rcases hk with rfl | rfl
      · rw [← h, numF_ten]
      · rw [← h, List.drop_length]; rfl
    unfold numV numN numOk
    rw [h0]
    exact ⟨rfl, rfl, rfl⟩)
  by_cases h10 : 10 < l.length
  all_goals
    go_enter Try.func73, Try.ntmps73
    go_wp2_with fail
    go_quiet (fail)
    go_wp2_with fail
    go_loop [2, 19] (fun v i => ∃ k acc : Nat, k ≤ 10 ∧ k ≤ l.length ∧ i = .int .i64 (k : Int) ∧ v = .int .u64 (acc : Int) ∧ BinP.numF k acc (l.drop k) = BinP.num l ∧ (k ≤ 9 → acc < 2 ^ (7 * k))) (fun _ i => 10 - (intOf i).toNat)
    case atStart => exact ⟨0, 0, by omega, by omega, rfl, rfl, rfl, by omega⟩
    case round =>
      obtain ⟨k, acc, hk10, hkl, rfl, rfl, hnum, hacc⟩ := hrel
      have HNUM := Lib.hid hnum
      have HACC := Lib.hid hacc
      clear hnum hacc
      by_cases hin : k < 10 ∧ k < l.length
      · obtain ⟨hin1, hin2⟩ := hin
        obtain ⟨ad, hA, _, hc⟩ := hr.at_ k (by rw [List.length_map]; exact hin2)
        subst hA
        rw [List.getElem_map] at hc
        obtain ⟨x, hx⟩ : ∃ x, x = l[k] := ⟨_, rfl⟩
        rw [← hx] at hc
        have hd : l.drop k = x :: l.drop (k + 1) := by rw [hx]; exact List.drop_eq_getElem_cons hin2
        have HD := Lib.hid hd
        have hxl := x.toNat_lt
        have h127 := and127 x
        clear hx hd
        by_cases h128 : 128 ≤ x.toNat
        · have hon := numF_on (acc := acc) (r := l.drop (k + 1)) hin1 h128
          have HON := Lib.hid hon
          clear hon
          by_cases hk9 : k < 9
          · have hsb := step_bound acc k x hk9 (HACC.out (by omega))
            have hor := or_round acc x k (HACC.out (by omega)) hsb.2
            have HOR := Lib.hid hor
            have HSB := Lib.hid hsb
            clear hsb hor
            go_wp2_with fail
            go_round
            case rel => exact ⟨k + 1, acc + x.toNat % 128 * 2 ^ (7 * k), by omega, by omega, by go_num, by rw [HOR.out], by rw [← HON.out, ← HD.out, HNUM.out], fun _ => HSB.out.1⟩
            case measure => simp [intOf]; omega
          · obtain ⟨z, hz⟩ := or_nat (acc : Int) (IntKind.u64.wrap ((x.toNat : Int) % 128 * 2 ^ (7 * k)))
            have HZ := Lib.hid hz
            clear hz
            go_wp2_with fail
            go_round
            case rel =>
              have hz10 : BinP.numF (k + 1) z (l.drop (k + 1)) = BinP.num l := by
                obtain rfl : k = 9 := by omega
                rw [← HNUM.out, HD.out, HON.out, numF_ten, numF_ten]
              exact ⟨k + 1, z, by omega, by omega, by go_num, by rw [HZ.out], hz10, fun h => by omega⟩
            case measure => simp [intOf]; omega
        · by_cases hbad : (x.toNat = 0 ∧ 0 < k) ∨ (k = 9 ∧ 1 < x.toNat)
          · have hno := numF_bad (acc := acc) (r := l.drop (k + 1)) hin1 (by omega) hbad
            rw [← HD.out, HNUM.out] at hno
            obtain ⟨e1, e2, e3⟩ := num_none hno
            have E1 := Lib.hid e1
            have E2 := Lib.hid e2
            have E3 := Lib.hid e3
            clear hno e1 e2 e3
            rcases hbad with ⟨h0, hk0⟩ | ⟨h9, h1⟩
            · have h0' : x.toNat < 1 := by omega
              clear h0
              go_wp2_with fail
              go_ret3
              exact ⟨by rw [E1.out, E2.out, E3.out]; rfl, _, rfl⟩
            · have h9' : 9 ≤ k := by omega
              clear h9
              go_wp2_with fail
              go_ret3
              exact ⟨by rw [E1.out, E2.out, E3.out]; rfl, _, rfl⟩
          · have hgo := numF_good (acc := acc) (r := l.drop (k + 1)) hin1 (by omega) hbad
            rw [← HD.out, HNUM.out] at hgo
            obtain ⟨e1, e2, e3⟩ := num_some hgo
            have hor := or_round acc x k (HACC.out (by omega)) (by
              by_cases hk9 : k < 9
              · exact (step_bound acc k x hk9 (HACC.out (by omega))).2
              · obtain rfl : k = 9 := by omega
                exact last_bound acc x (by omega) (HACC.out (by omega)))
            have E1 := Lib.hid e1
            have E2 := Lib.hid e2
            have E3 := Lib.hid e3
            have HOR := Lib.hid hor
            clear hgo e1 e2 e3 hor
            by_cases hx0 : x.toNat = 0
            · have hk0 : k < 1 := by omega
              have hx0' : x.toNat < 1 := by omega
              have hv0 : numV l = bits .or .u64 (acc : Int) 0 := by
                rw [E1.out, ← HOR.out, hx0]
                simp [IntKind.wrap, IntKind.bits, IntKind.signed]
              have hn1 : numN l = 1 := by rw [E2.out]; omega
              have HV0 := Lib.hid hv0
              have HN1 := Lib.hid hn1
              clear hbad hx0 hv0 hn1
              go_wp2_with fail
              go_ret3
              exact ⟨by rw [HV0.out, HN1.out, E3.out]; rfl, _, rfl⟩
            · by_cases hk9 : k = 9
              · have hx1 : x.toNat < 2 := by omega
                have hx2 : 0 < x.toNat := by omega
                have hn10 : numN l = 10 := by rw [E2.out]; omega
                have HN10 := Lib.hid hn10
                have hk9' : 9 ≤ k := by omega
                clear hbad hk9 hx0 hn10
                go_wp2_with fail
                go_ret3
                exact ⟨by rw [E1.out, HN10.out, E3.out, ← HOR.out]; rfl, _, rfl⟩
              · clear hbad
                go_wp2_with fail
                go_ret3
                exact ⟨by rw [E1.out, E2.out, E3.out, ← HOR.out]; rfl, _, rfl⟩
      · have hkk : k = 10 ∨ k = l.length := by omega
        obtain ⟨e1, e2, e3⟩ := HNL.out k acc HNUM.out hkk
        have E1 := Lib.hid e1
        have E2 := Lib.hid e2
        have E3 := Lib.hid e3
        clear hkk e1 e2 e3
        go_wp2_with fail
        go_ret3
        exact ⟨by rw [E1.out, E2.out, E3.out]; rfl, _, rfl⟩
end Go.Proofs.Ytkkeodfoiffofaa
namespace Go.Proofs.Ytkkeodfoiffofaa
open Go.RowKit
set_option linter.unusedVariables false
namespace BinP
/-- a reader's state: the bytes ahead; none: it has failed -/
abbrev St := Option (List UInt8)
def pUint : St → Nat × St
  | none => (0, none)
  | some l => match num l with
    | none => (0, none)
    | some (v, n) => (v, some (l.drop n))
def pInt (most : Int) : St → Nat × St
  | none => (0, none)
  | some l => match num l with
    | none => (0, none)
    | some (v, n) => if most < 0 ∨ most < (v : Int) then (0, none) else (v, some (l.drop n))
def pByte : St → UInt8 × St
  | some (x :: r) => (x, some r)
  | _ => (0, none)
def left : St → Nat
  | none => 0
  | some l => l.length
end BinP
def RdS (w : World) (base : Nat × Nat) (g : Nat) : BinP.St → Prop
  | some l => Rd w base g l false
  | none => ∃ l, Rd w base g l true
theorem Row.but {w w' : World} {g : Nat} {A : Option Addr} {xs : List Value} (h : Row w w.heap.size A xs) (hg : w.grownBy w' (some g)) (hne : ∀ ad, A = some ad → ad.block ≠ g) : Row w' w'.heap.size A xs := by
  intro j u hu
  obtain ⟨ad, e, hb, hc⟩ := h j u hu
  have := hg.size
  refine ⟨ad, e, by omega, ?_⟩
  rw [← hc]
  exact World.cell?_of_block (hg.block _ (by rw [add_block]; exact hb) (by rw [add_block]; intro e2; injection e2 with e2; exact hne ad e e2))
theorem rd_make {w w' : World} {base : Nat × Nat} {g : Nat} {l : List UInt8} {bad : Bool} {A : Option Addr} {n c : Nat} (hh : w'.heap[g]? = some (.cells #[.slice A n c, .bool bad] 102 (0, 0))) (hb : base.1 ≤ g ∧ g < base.2) (hn : l.length = n) (hnc : n ≤ c) (hcm : c ≤ maxLen)
    (hr : Row w w.heap.size A (l.map b8)) (hne : ∀ ad, A = some ad → ad.block ≠ g ∧ base.1 ≤ ad.block ∧ ad.block < base.2) (hg : w.grownBy w' (some g)) : Rd w' base g l bad :=
  ⟨A, n, c, hh, hb, hn, hnc, hcm, hr.but hg (fun ad e => (hne ad e).1), hne⟩
theorem grown_set (w : World) (g i : Nat) (u : Value) : w.grownBy (w.setCell ⟨g, i, none⟩ u) (some g) :=
  ⟨rfl, rfl, rfl, by simp [World.setCell], fun k hk hne => Below.heap_setCell w ⟨g, i, none⟩ u k (fun e => hne (by rw [e]))⟩
theorem grown_trans' {a b c : World} {g : Nat} (h : a.grownBy b (some g)) (k : b.grownBy c (some g)) : a.grownBy c (some g) :=
  ⟨k.os.trans h.os, k.tape.trans h.tape, k.output.trans h.output, Nat.le_trans h.size k.size, fun i hi hne => (k.block i (Nat.lt_of_lt_of_le hi h.size) hne).trans (h.block i hi hne)⟩
theorem grown_drewN {a b : World} {r : Option Nat} (h : a.grownBy b r) (n : Nat) : a.grownBy (b.drewN n) r := ⟨h.os, h.tape, h.output, h.size, h.block⟩
theorem of_drewN {w w' : World} {r : Option Nat} {k : Nat} (h : (w.drewN k).grownBy w' r) : w.grownBy w' r := ⟨h.os, h.tape, h.output, h.size, h.block⟩
theorem set1 (w : World) (k g : Nat) (u : Value) : w.grownBy ((w.drewN k).setCell ⟨g, 1, none⟩ u) (some g) := of_drewN (grown_set (w.drewN k) g 1 u)
theorem set10 (w : World) (k g : Nat) (u v : Value) : w.grownBy (((w.drewN k).setCell ⟨g, 1, none⟩ u).setCell ⟨g, 0, none⟩ v) (some g) := grown_trans' (set1 w k g u) (grown_set _ g 0 v)
theorem heap1 {w : World} {k g : Nat} {a b : Value} {t : TypeId} (u : Value) (h : w.heap[g]? = some (.cells #[a, b] t (0, 0))) : ((w.drewN k).setCell ⟨g, 1, none⟩ u).heap[g]? = some (.cells #[a, u] t (0, 0)) :=
  heap_setCell_at (w.drewN k) g 1 _ t (0, 0) u h
theorem heap10 {w : World} {k g : Nat} {a b : Value} {t : TypeId} (u v : Value) (h : w.heap[g]? = some (.cells #[a, b] t (0, 0))) : (((w.drewN k).setCell ⟨g, 1, none⟩ u).setCell ⟨g, 0, none⟩ v).heap[g]? = some (.cells #[v, u] t (0, 0)) :=
  heap_setCell_at _ g 0 _ t (0, 0) v (heap1 u h)
theorem number_some {g : Nat} {l : List UInt8} {bad : Bool} {base : Nat × Nat} {w : World} {v n : Nat} (h : Rd w base g l bad) (hv : BinP.num l = some (v, n)) :
    Calls Try.prog 73 #[.pointer (some ⟨g, 0, none⟩)] w fun e w' => e = .returned (.tuple #[.int .u64 (v : Int), .int .i64 (n : Int), .bool true]) ∧ ∃ k, w' = w.drewN k := by
  have := rd_number g l bad base w h
  obtain ⟨e1, e2, e3⟩ := num_some hv
  rwa [e1, e2, e3] at this
theorem number_none {g : Nat} {l : List UInt8} {bad : Bool} {base : Nat × Nat} {w : World} (h : Rd w base g l bad) (hv : BinP.num l = none) :
    Calls Try.prog 73 #[.pointer (some ⟨g, 0, none⟩)] w fun e w' => e = .returned (.tuple #[.int .u64 0, .int .i64 0, .bool false]) ∧ ∃ k, w' = w.drewN k := by
  have := rd_number g l bad base w h
  obtain ⟨e1, e2, e3⟩ := num_none hv
  rwa [e1, e2, e3] at this
theorem RdS.keep {w w' : World} {base : Nat × Nat} {g : Nat} {st : BinP.St} (h : RdS w base g st) (hs : w.heap.size ≤ w'.heap.size) (hk : ∀ k, k < w.heap.size → base.1 ≤ k → k < base.2 → w'.heap[k]? = w.heap[k]?) : RdS w' base g st := by
  have one : ∀ l bad, Rd w base g l bad → Rd w' base g l bad := by
    rintro l bad ⟨A, n, c, hg, hb, hn, hnc, hcm, hr, hne⟩
    refine ⟨A, n, c, (hk g (lt_of_blk hg) hb.1 hb.2).trans hg, hb, hn, hnc, hcm, ?_, hne⟩
    intro j u hu
    obtain ⟨ad, e, hbb, hc⟩ := hr j u hu
    refine ⟨ad, e, by omega, ?_⟩
    rw [← hc]
    exact World.cell?_of_block (hk _ (by rw [add_block]; exact hbb) (by rw [add_block]; exact (hne ad e).2.1) (by rw [add_block]; exact (hne ad e).2.2))
  rcases st with _ | l
  · obtain ⟨l, h⟩ := h
    exact ⟨l, one l true h⟩
  · exact one l false h
theorem RdS.below {w w' : World} {base : Nat × Nat} {g : Nat} {st : BinP.St} (h : RdS w base g st) (hb : Below w.heap.size w w') : RdS w' base g st := h.keep hb.size fun k hk _ _ => hb.block k hk
theorem RdS.other {w w' : World} {base : Nat × Nat} {g g' : Nat} {st : BinP.St} (h : RdS w base g st) (hg : w.grownBy w' (some g')) (hlt : g' < base.1 ∨ base.2 ≤ g') : RdS w' base g st :=
  h.keep hg.size fun k hk hb hb2 => hg.block k hk (fun e => by injection e with e; omega)
theorem RdS.base_le {w : World} {base : Nat × Nat} {g : Nat} {st : BinP.St} (h : RdS w base g st) : (base.1 ≤ g ∧ g < base.2) ∧ g < w.heap.size := by
  rcases st with _ | l
  · obtain ⟨l, A, n, c, hg, hb, _⟩ := h
    exact ⟨hb, lt_of_blk hg⟩
  · obtain ⟨A, n, c, hg, hb, _⟩ := h
    exact ⟨hb, lt_of_blk hg⟩
/-- what the walk of a method knows of a reader -/
structure RdKnows (w : World) (base : Nat × Nat) (g : Nat) (A : Option Addr) (n c : Nat) (l : List UInt8) (bad : Bool) : Prop where
  c0 : w.cell? ⟨g, 0, none⟩ = some (.slice A n c)
  c1 : w.cell? ⟨g, 1, none⟩ = some (.bool bad)
  f0 : w.frozen? ⟨g, 0, none⟩ = false
  f1 : w.frozen? ⟨g, 1, none⟩ = false
  hg : w.heap[g]? = some (.cells #[.slice A n c, .bool bad] 102 (0, 0))
  hb : base.1 ≤ g ∧ g < base.2
  hn : l.length = n
  hnc : n ≤ c
  hcm : c ≤ maxLen
  hr : Row w w.heap.size A (l.map b8)
  hne : ∀ ad, A = some ad → ad.block ≠ g ∧ base.1 ≤ ad.block ∧ ad.block < base.2
theorem Rd.knows {w : World} {base : Nat × Nat} {g : Nat} {l : List UInt8} {bad : Bool} (h : Rd w base g l bad) : ∃ A n c, RdKnows w base g A n c l bad := by
  obtain ⟨A, n, c, hg, hb, hn, hnc, hcm, hr, hne⟩ := h
  exact ⟨A, n, c, by rw [cell_blk hg]; rfl, by rw [cell_blk hg]; rfl, by simp [World.frozen?, hg], by simp [World.frozen?, hg], hg, hb, hn, hnc, hcm, hr, hne⟩
set_option maxRecDepth 4000 in
set_option maxHeartbeats 400000 in
/-- a reader that has failed answers 0 -/
theorem uint_bad (g : Nat) (l : List UInt8) (base : Nat × Nat) (w : World) (h : Rd w base g l true) :
    Calls Try.prog 74 #[.pointer (some ⟨g, 0, none⟩)] w fun e w' => e = .returned (.int .u64 0) ∧ RdS w' base g none ∧ w.grownBy w' (some g) := by
  have hnum : ∃ v n b, Calls Try.prog 73 #[.pointer (some ⟨g, 0, none⟩)] w fun e w' => e = .returned (.tuple #[.int .u64 v, .int .i64 n, .bool b]) ∧ ∃ k, w' = w.drewN k := ⟨_, _, _, rd_number g l true base w h⟩
  obtain ⟨v, n, b, hnum⟩ := hnum
  have HNUM := Lib.hid hnum
  obtain ⟨A, n', c, K⟩ := h.knows
  have hc0 := K.c0
  have hc1 := K.c1
  have hf1 := K.f1
  clear hnum h
  go_enter Try.func74, Try.ntmps74
  go_wp2_with fail
  refine HNUM.out.mono ?_
  rintro e w1 ⟨rfl, k, rfl⟩
  go_wp2_with fail
  go_ret
  exact ⟨rfl, ⟨l, rd_make (heap1 (.bool true) K.hg) K.hb K.hn K.hnc K.hcm K.hr K.hne (set1 w k g _)⟩, set1 w k g _⟩
set_option maxRecDepth 4000 in
set_option maxHeartbeats 400000 in
theorem uint_none (g : Nat) (l : List UInt8) (base : Nat × Nat) (w : World) (h : Rd w base g l false) (hv : BinP.num l = none) :
    Calls Try.prog 74 #[.pointer (some ⟨g, 0, none⟩)] w fun e w' => e = .returned (.int .u64 0) ∧ RdS w' base g none ∧ w.grownBy w' (some g) := by
  have HNUM := Lib.hid (number_none h hv)
  obtain ⟨A, n', c, K⟩ := h.knows
  have hc0 := K.c0
  have hc1 := K.c1
  have hf1 := K.f1
  clear hv h
  go_enter Try.func74, Try.ntmps74
  go_wp2_with fail
  refine HNUM.out.mono ?_
  rintro e w1 ⟨rfl, k, rfl⟩
  go_wp2_with fail
  go_ret
  exact ⟨rfl, ⟨l, rd_make (heap1 (.bool true) K.hg) K.hb K.hn K.hnc K.hcm K.hr K.hne (set1 w k g _)⟩, set1 w k g _⟩
theorem Row.cut {w : World} {B : Nat} {A : Option Addr} {l : List UInt8} (h : Row w B A (l.map b8)) {c n : Nat} (hn : n ≤ l.length) (hc : l.length ≤ c) :
    Row w B (if c = n then A else A.map (·.add n)) ((l.drop n).map b8) := by
  split
  · have : l.drop n = [] := List.drop_of_length_le (by omega)
    rw [this]
    exact Row.nil
  · rw [List.map_drop]
    rcases A with _ | ad
    · have := h.none_nil
      subst this
      simp [Row.nil]
    · exact Row.drop h n
theorem Row.cut0 {w : World} {B : Nat} {A : Option Addr} {l : List UInt8} (h : Row w B A (l.map b8)) {c n : Nat} (hn : n ≤ l.length) (hc : l.length ≤ c) (e : c = n) : Row w B A ((l.drop n).map b8) := by
  have := h.cut hn hc
  rwa [if_pos e] at this
theorem Row.cut1 {w : World} {B : Nat} {A : Option Addr} {l : List UInt8} (h : Row w B A (l.map b8)) {c n : Nat} (hn : n ≤ l.length) (hc : l.length ≤ c) (e : ¬ c = n) : Row w B (A.map (·.add n)) ((l.drop n).map b8) := by
  have := h.cut hn hc
  rwa [if_neg e] at this
theorem ne_add {A : Option Addr} {g n : Nat} {base : Nat × Nat} (h : ∀ ad, A = some ad → ad.block ≠ g ∧ base.1 ≤ ad.block ∧ ad.block < base.2) : ∀ ad, A.map (·.add n) = some ad → ad.block ≠ g ∧ base.1 ≤ ad.block ∧ ad.block < base.2 := by
  intro ad e
  rcases A with _ | a
  · cases e
  · simp only [Option.map_some, Option.some.injEq] at e
    subst e
    rw [add_block]
    exact h a rfl
set_option maxRecDepth 4000 in
set_option maxHeartbeats 400000 in
theorem uint_some (g : Nat) (l : List UInt8) (base : Nat × Nat) (w : World) (v n : Nat) (h : Rd w base g l false) (hv : BinP.num l = some (v, n)) :
    Calls Try.prog 74 #[.pointer (some ⟨g, 0, none⟩)] w fun e w' => e = .returned (.int .u64 (v : Int)) ∧ RdS w' base g (some (l.drop n)) ∧ w.grownBy w' (some g) := by
  have HNUM := Lib.hid (number_some h hv)
  have hbd := BinP.num_bound hv
  obtain ⟨A, n', c, K⟩ := h.knows
  have hc0 := K.c0
  have hc1 := K.c1
  have hf1 := K.f1
  have hf0 := K.f0
  have hnn : n ≤ n' := by rw [← K.hn]; exact hbd.2.1
  have hnc := K.hnc
  have hcm := K.hcm
  unfold maxLen at hcm
  clear hv h hbd
  go_enter Try.func74, Try.ntmps74
  go_wp2_with fail
  refine HNUM.out.mono ?_
  rintro e w1 ⟨rfl, k, rfl⟩
  go_wp2_with fail
  · have hcn : c = n := by assumption
    go_ret
    exact ⟨rfl, rd_make (heap10 _ _ K.hg) K.hb (by rw [List.length_drop, K.hn]) (by omega) (by unfold maxLen; omega) (K.hr.cut0 (by rw [K.hn]; exact hnn) (by rw [K.hn]; exact hnc) hcn) K.hne (set10 w k g _ _), set10 w k g _ _⟩
  · have hcn : ¬ c = n := by assumption
    go_ret
    exact ⟨rfl, rd_make (heap10 _ _ K.hg) K.hb (by rw [List.length_drop, K.hn]) (by omega) (by unfold maxLen; omega) (K.hr.cut1 (by rw [K.hn]; exact hnn) (by rw [K.hn]; exact hnc) hcn) (ne_add K.hne) (set10 w k g _ _), set10 w k g _ _⟩
theorem rd_uint (g : Nat) (st : BinP.St) (base : Nat × Nat) (w : World) (h : RdS w base g st) :
    Calls Try.prog 74 #[.pointer (some ⟨g, 0, none⟩)] w fun e w' => e = .returned (.int .u64 ((BinP.pUint st).1 : Int)) ∧ RdS w' base g (BinP.pUint st).2 ∧ w.grownBy w' (some g) := by
  rcases st with _ | l
  · obtain ⟨l, h⟩ := h
    exact uint_bad g l base w h
  · rcases hn : BinP.num l with _ | ⟨v, n⟩
    · have e : BinP.pUint (some l) = (0, none) := by simp [BinP.pUint, hn]
      rw [e]
      exact uint_none g l base w h hn
    · have e : BinP.pUint (some l) = (v, some (l.drop n)) := by simp [BinP.pUint, hn]
      rw [e]
      exact uint_some g l base w v n h hn
end Go.Proofs.Ytkkeodfoiffofaa
namespace Go.Proofs.Ytkkeodfoiffofaa
open Go.RowKit
set_option linter.unusedVariables false
theorem wf_i64' {a : Int} (h : (Lit.int .i64 a).wf = true) : -9223372036854775808 ≤ a ∧ a ≤ 9223372036854775807 := by
  simpa [Lit.wf, IntKind.min, IntKind.max, IntKind.signed, IntKind.bits] using h
set_option maxRecDepth 4000 in
set_option maxHeartbeats 400000 in
theorem int_bad (g : Nat) (l : List UInt8) (base : Nat × Nat) (w : World) (a : Int) (ha : (Lit.int .i64 a).wf = true) (h : Rd w base g l true) :
    Calls Try.prog 58 #[.pointer (some ⟨g, 0, none⟩), .int .i64 a] w fun e w' => e = .returned (.int .i64 0) ∧ RdS w' base g none ∧ w.grownBy w' (some g) := by
  have hnum : ∃ v n b, Calls Try.prog 73 #[.pointer (some ⟨g, 0, none⟩)] w fun e w' => e = .returned (.tuple #[.int .u64 v, .int .i64 n, .bool b]) ∧ ∃ k, w' = w.drewN k := ⟨_, _, _, rd_number g l true base w h⟩
  obtain ⟨v, n, b, hnum⟩ := hnum
  have HNUM := Lib.hid hnum
  obtain ⟨A, n', c, K⟩ := h.knows
  have hc0 := K.c0
  have hc1 := K.c1
  have hf1 := K.f1
  clear hnum h ha
  go_enter Try.func58, Try.ntmps58
  go_wp2_with fail
  refine HNUM.out.mono ?_
  rintro e w1 ⟨rfl, k, rfl⟩
  go_wp2_with fail
  go_ret
  exact ⟨rfl, ⟨l, rd_make (heap1 (.bool true) K.hg) K.hb K.hn K.hnc K.hcm K.hr K.hne (set1 w k g _)⟩, set1 w k g _⟩
set_option maxRecDepth 4000 in
set_option maxHeartbeats 400000 in
theorem int_none (g : Nat) (l : List UInt8) (base : Nat × Nat) (w : World) (a : Int) (ha : (Lit.int .i64 a).wf = true) (h : Rd w base g l false) (hv : BinP.num l = none) :
    Calls Try.prog 58 #[.pointer (some ⟨g, 0, none⟩), .int .i64 a] w fun e w' => e = .returned (.int .i64 0) ∧ RdS w' base g none ∧ w.grownBy w' (some g) := by
  have HNUM := Lib.hid (number_none h hv)
  obtain ⟨A, n', c, K⟩ := h.knows
  have hc0 := K.c0
  have hc1 := K.c1
  have hf1 := K.f1
  clear hv h ha
  go_enter Try.func58, Try.ntmps58
  go_wp2_with fail
  refine HNUM.out.mono ?_
  rintro e w1 ⟨rfl, k, rfl⟩
  go_wp2_with fail
  go_ret
  exact ⟨rfl, ⟨l, rd_make (heap1 (.bool true) K.hg) K.hb K.hn K.hnc K.hcm K.hr K.hne (set1 w k g _)⟩, set1 w k g _⟩
set_option maxRecDepth 4000 in
set_option maxHeartbeats 400000 in
theorem int_much (g : Nat) (l : List UInt8) (base : Nat × Nat) (w : World) (a : Int) (v n : Nat) (ha : (Lit.int .i64 a).wf = true) (h : Rd w base g l false) (hv : BinP.num l = some (v, n)) (hm : a < 0 ∨ a < (v : Int)) :
    Calls Try.prog 58 #[.pointer (some ⟨g, 0, none⟩), .int .i64 a] w fun e w' => e = .returned (.int .i64 0) ∧ RdS w' base g none ∧ w.grownBy w' (some g) := by
  have HNUM := Lib.hid (number_some h hv)
  have hbd := (BinP.num_bound hv).2.2.2
  obtain ⟨A, n', c, K⟩ := h.knows
  have hc0 := K.c0
  have hc1 := K.c1
  have hf1 := K.f1
  have hai := wf_i64' ha
  clear hv h ha
  by_cases hneg : a < 0
  · clear hbd hm
    go_enter Try.func58, Try.ntmps58
    go_wp2_with fail
    refine HNUM.out.mono ?_
    rintro e w1 ⟨rfl, k, rfl⟩
    go_wp2_with fail
    go_ret
    exact ⟨rfl, ⟨l, rd_make (heap1 (.bool true) K.hg) K.hb K.hn K.hnc K.hcm K.hr K.hne (set1 w k g _)⟩, set1 w k g _⟩
  · have hm2 : a < (v : Int) := by omega
    clear hbd hm
    go_enter Try.func58, Try.ntmps58
    go_wp2_with fail
    refine HNUM.out.mono ?_
    rintro e w1 ⟨rfl, k, rfl⟩
    go_wp2_with fail
    go_ret
    exact ⟨rfl, ⟨l, rd_make (heap1 (.bool true) K.hg) K.hb K.hn K.hnc K.hcm K.hr K.hne (set1 w k g _)⟩, set1 w k g _⟩
set_option maxRecDepth 4000 in
set_option maxHeartbeats 400000 in
theorem int_some (g : Nat) (l : List UInt8) (base : Nat × Nat) (w : World) (a : Int) (v n : Nat) (ha : (Lit.int .i64 a).wf = true) (h : Rd w base g l false) (hv : BinP.num l = some (v, n)) (hm : 0 ≤ a ∧ (v : Int) ≤ a) :
    Calls Try.prog 58 #[.pointer (some ⟨g, 0, none⟩), .int .i64 a] w fun e w' => e = .returned (.int .i64 (v : Int)) ∧ RdS w' base g (some (l.drop n)) ∧ w.grownBy w' (some g) := by
  have HNUM := Lib.hid (number_some h hv)
  have hbd := BinP.num_bound hv
  obtain ⟨A, n', c, K⟩ := h.knows
  have hc0 := K.c0
  have hc1 := K.c1
  have hf1 := K.f1
  have hf0 := K.f0
  have hnn : n ≤ n' := by rw [← K.hn]; exact hbd.2.1
  have hnc := K.hnc
  have hcm := K.hcm
  unfold maxLen at hcm
  obtain ⟨hm0, hm1⟩ := hm
  have hd1 : decide (a < 0) = false := by simp; omega
  have hd2 : decide (a < (v : Int)) = false := by simp; omega
  have hai := wf_i64' ha
  clear hv h hbd ha
  go_enter Try.func58, Try.ntmps58
  go_wp2_with fail
  refine HNUM.out.mono ?_
  rintro e w1 ⟨rfl, k, rfl⟩
  go_wp2_with fail
  · have hcn : c = n := by assumption
    go_ret
    exact ⟨rfl, rd_make (heap10 _ _ K.hg) K.hb (by rw [List.length_drop, K.hn]) (by omega) (by unfold maxLen; omega) (K.hr.cut0 (by rw [K.hn]; exact hnn) (by rw [K.hn]; exact hnc) hcn) K.hne (set10 w k g _ _), set10 w k g _ _⟩
  · have hcn : ¬ c = n := by assumption
    go_ret
    exact ⟨rfl, rd_make (heap10 _ _ K.hg) K.hb (by rw [List.length_drop, K.hn]) (by omega) (by unfold maxLen; omega) (K.hr.cut1 (by rw [K.hn]; exact hnn) (by rw [K.hn]; exact hnc) hcn) (ne_add K.hne) (set10 w k g _ _), set10 w k g _ _⟩
theorem rd_int (g : Nat) (st : BinP.St) (base : Nat × Nat) (w : World) (a : Int) (ha : (Lit.int .i64 a).wf = true) (h : RdS w base g st) :
    Calls Try.prog 58 #[.pointer (some ⟨g, 0, none⟩), .int .i64 a] w fun e w' => e = .returned (.int .i64 ((BinP.pInt a st).1 : Int)) ∧ RdS w' base g (BinP.pInt a st).2 ∧ w.grownBy w' (some g) := by
  rcases st with _ | l
  · obtain ⟨l, h⟩ := h
    exact int_bad g l base w a ha h
  · rcases hn : BinP.num l with _ | ⟨v, n⟩
    · have e : BinP.pInt a (some l) = (0, none) := by simp [BinP.pInt, hn]
      rw [e]
      exact int_none g l base w a ha h hn
    · by_cases hm : a < 0 ∨ a < (v : Int)
      · have e : BinP.pInt a (some l) = (0, none) := by simp [BinP.pInt, hn, hm]
        rw [e]
        exact int_much g l base w a v n ha h hn hm
      · have e : BinP.pInt a (some l) = (v, some (l.drop n)) := by simp [BinP.pInt, hn, hm]
        rw [e]
        exact int_some g l base w a v n ha h hn (by omega)
def BinP.endN : BinP.St → Int
  | some [] => 0
  | _ => 14
def BinP.errN : BinP.St → Int
  | some _ => 0
  | none => 14
theorem grown0 (w : World) (r : Option Nat) : w.grownBy w r := ⟨rfl, rfl, rfl, Nat.le_refl _, fun _ _ _ => rfl⟩
set_option maxRecDepth 4000 in
set_option maxHeartbeats 400000 in
theorem rd_left (g : Nat) (st : BinP.St) (base : Nat × Nat) (w : World) (h : RdS w base g st) :
    Calls Try.prog 62 #[.pointer (some ⟨g, 0, none⟩)] w fun e w' => e = .returned (.int .i64 ((BinP.left st : Nat) : Int)) ∧ w = w' := by
  rcases st with _ | l
  · obtain ⟨l, h⟩ := h
    obtain ⟨A, n, c, K⟩ := h.knows
    have hc1 := K.c1
    clear h
    go_enter Try.func62, Try.ntmps62
    go_wp2_with fail
    go_ret
    exact ⟨rfl, rfl⟩
  · obtain ⟨A, n, c, K⟩ := h.knows
    have hc0 := K.c0
    have hc1 := K.c1
    clear h
    go_enter Try.func62, Try.ntmps62
    go_wp2_with fail
    go_ret
    exact ⟨by rw [show BinP.left (some l) = n from K.hn]; rfl, rfl⟩
set_option maxRecDepth 4000 in
set_option maxHeartbeats 400000 in
theorem rd_err (g : Nat) (st : BinP.St) (base : Nat × Nat) (w : World) (h : RdS w base g st) :
    Calls Try.prog 59 #[.pointer (some ⟨g, 0, none⟩)] w fun e w' => e = .returned (.int .i64 (BinP.errN st)) ∧ w = w' := by
  rcases st with _ | l
  · obtain ⟨l, h⟩ := h
    obtain ⟨A, n, c, K⟩ := h.knows
    have hc1 := K.c1
    clear h
    go_enter Try.func59, Try.ntmps59
    go_wp2_with fail
    go_ret
    exact ⟨rfl, rfl⟩
  · obtain ⟨A, n, c, K⟩ := h.knows
    have hc1 := K.c1
    clear h
    go_enter Try.func59, Try.ntmps59
    go_wp2_with fail
    go_ret
    exact ⟨rfl, rfl⟩
set_option maxRecDepth 4000 in
set_option maxHeartbeats 400000 in
theorem rd_end (g : Nat) (st : BinP.St) (base : Nat × Nat) (w : World) (h : RdS w base g st) :
    Calls Try.prog 76 #[.pointer (some ⟨g, 0, none⟩)] w fun e w' => e = .returned (.int .i64 (BinP.endN st)) ∧ w = w' := by
  rcases st with _ | l
  · obtain ⟨l, h⟩ := h
    obtain ⟨A, n, c, K⟩ := h.knows
    have hc1 := K.c1
    clear h
    go_enter Try.func76, Try.ntmps76
    go_wp2_with fail
    go_ret
    exact ⟨rfl, rfl⟩
  · obtain ⟨A, n, c, K⟩ := h.knows
    have hc0 := K.c0
    have hc1 := K.c1
    have hn := K.hn
    clear h
    rcases l with _ | ⟨x, r⟩
    · have hn0 : n < 1 := by rw [← hn]; simp
      clear hn
      go_enter Try.func76, Try.ntmps76
      go_wp2_with fail
      go_ret
      exact ⟨rfl, rfl⟩
    · have hn0 : 0 < n := by rw [← hn]; simp
      clear hn
      go_enter Try.func76, Try.ntmps76
      go_wp2_with fail
      go_ret
      exact ⟨rfl, rfl⟩
end Go.Proofs.Ytkkeodfoiffofaa
namespace Go.Proofs.Ytkkeodfoiffofaa
open Go.RowKit
set_option linter.unusedVariables false
namespace BinP
def pText (most : Int) (st : St) : List UInt8 × St :=
  match pInt most st with
  | (_, none) => ([], none)
  | (n, some l) => if l.length < n then ([], none) else (l.take n, some (l.drop n))
end BinP
theorem left_some (l : List UInt8) : BinP.left (some l) = l.length := rfl
theorem left_none : BinP.left none = 0 := rfl
theorem endN_nil : BinP.endN (some []) = 0 := rfl
theorem endN_cons (x : UInt8) (l : List UInt8) : BinP.endN (some (x :: l)) = 14 := rfl
theorem endN_none : BinP.endN none = 14 := rfl
theorem errN_some (l : List UInt8) : BinP.errN (some l) = 0 := rfl
theorem errN_none : BinP.errN none = 14 := rfl
theorem set1' (w : World) (g : Nat) (u : Value) : w.grownBy (w.setCell ⟨g, 1, none⟩ u) (some g) := grown_set w g 1 u
theorem set10' (w : World) (g : Nat) (u v : Value) : w.grownBy ((w.setCell ⟨g, 1, none⟩ u).setCell ⟨g, 0, none⟩ v) (some g) := grown_trans' (set1' w g u) (grown_set _ g 0 v)
theorem heap1' {w : World} {g : Nat} {a b : Value} {t : TypeId} (u : Value) (h : w.heap[g]? = some (.cells #[a, b] t (0, 0))) : (w.setCell ⟨g, 1, none⟩ u).heap[g]? = some (.cells #[a, u] t (0, 0)) := heap_setCell_at w g 1 _ t (0, 0) u h
theorem heap10' {w : World} {g : Nat} {a b : Value} {t : TypeId} (u v : Value) (h : w.heap[g]? = some (.cells #[a, b] t (0, 0))) : ((w.setCell ⟨g, 1, none⟩ u).setCell ⟨g, 0, none⟩ v).heap[g]? = some (.cells #[v, u] t (0, 0)) :=
  heap_setCell_at _ g 0 _ t (0, 0) v (heap1' u h)
set_option maxRecDepth 4000 in
set_option maxHeartbeats 400000 in
theorem byte_no (g : Nat) (l : List UInt8) (bad : Bool) (base : Nat × Nat) (w : World) (h : Rd w base g l bad) (hb : bad = true ∨ l = []) :
    Calls Try.prog 75 #[.pointer (some ⟨g, 0, none⟩)] w fun e w' => e = .returned (.int .u8 0) ∧ RdS w' base g none ∧ w.grownBy w' (some g) := by
  obtain ⟨A, n, c, K⟩ := h.knows
  have hc0 := K.c0
  have hc1 := K.c1
  have hf1 := K.f1
  clear h
  rcases bad with _ | _
  · have hl : l = [] := by simpa using hb
    subst hl
    have hn0 : n < 1 := by rw [← K.hn]; simp
    have hnb : ((n : Int) == 0) = true := by simp; omega
    clear hb
    go_enter Try.func75, Try.ntmps75
    go_wp2_with fail
    go_ret
    exact ⟨rfl, ⟨[], rd_make (heap1' (.bool true) K.hg) K.hb K.hn K.hnc K.hcm K.hr K.hne (set1' w g _)⟩, set1' w g _⟩
  · clear hb
    go_enter Try.func75, Try.ntmps75
    go_wp2_with fail
    go_ret
    exact ⟨rfl, ⟨l, rd_make (heap1' (.bool true) K.hg) K.hb K.hn K.hnc K.hcm K.hr K.hne (set1' w g _)⟩, set1' w g _⟩
set_option maxRecDepth 4000 in
set_option maxHeartbeats 400000 in
theorem byte_some (g : Nat) (x : UInt8) (r : List UInt8) (base : Nat × Nat) (w : World) (h : Rd w base g (x :: r) false) :
    Calls Try.prog 75 #[.pointer (some ⟨g, 0, none⟩)] w fun e w' => e = .returned (b8 x) ∧ RdS w' base g (some r) ∧ w.grownBy w' (some g) := by
  obtain ⟨A, n, c, K⟩ := h.knows
  have hc0 := K.c0
  have hc1 := K.c1
  have hf1 := K.f1
  have hf0 := K.f0
  have hn := K.hn
  have hnc := K.hnc
  have hcm := K.hcm
  unfold maxLen at hcm
  obtain ⟨ad, hA, hab, hcx⟩ := K.hr 0 (b8 x) rfl
  have hne := (K.hne ad hA).1
  have hcx' : (w.setCell ⟨g, 1, none⟩ (.bool false)).cell? ad = some (b8 x) := by
    rw [World.cell?_setCell_other _ _ _ _ (fun e => hne (by rw [← e]))]
    exact hcx
  subst hA
  clear h hcx hne
  have hn0 : 0 < n := by rw [← hn]; simp
  have HN := Lib.hid hn
  clear hn
  by_cases hcn : c = 1
  · subst hcn
    go_enter Try.func75, Try.ntmps75
    go_wp2_with fail
    go_ret
    have hcut := K.hr.cut0 (n := 1) (c := 1) (by simp) (by rw [HN.out]; exact hnc) rfl
    exact ⟨rfl, rd_make (heap10' _ _ K.hg) K.hb (by have := HN.out; simp at this; omega) (by omega) (by unfold maxLen; omega) hcut K.hne (set10' w g _ _), set10' w g _ _⟩
  · have hc1lt : 1 < c := by omega
    go_enter Try.func75, Try.ntmps75
    go_wp2_with fail
    go_ret
    have hcut := K.hr.cut1 (n := 1) (c := c) (by simp) (by rw [HN.out]; exact hnc) hcn
    exact ⟨rfl, rd_make (heap10' _ _ K.hg) K.hb (by rw [← HN.out]; simp) (by omega) (by unfold maxLen; omega) hcut (fun ad' e => by injection e with e; subst e; exact K.hne ad rfl) (set10' w g _ _), set10' w g _ _⟩
theorem rd_byte (g : Nat) (st : BinP.St) (base : Nat × Nat) (w : World) (h : RdS w base g st) :
    Calls Try.prog 75 #[.pointer (some ⟨g, 0, none⟩)] w fun e w' => e = .returned (b8 (BinP.pByte st).1) ∧ RdS w' base g (BinP.pByte st).2 ∧ w.grownBy w' (some g) := by
  rcases st with _ | l
  · obtain ⟨l, h⟩ := h
    exact byte_no g l true base w h (.inl rfl)
  · rcases l with _ | ⟨x, r⟩
    · exact byte_no g [] false base w h (.inr rfl)
    · exact byte_some g x r base w h
set_option maxRecDepth 4000 in
set_option maxHeartbeats 400000 in
theorem text_no (g : Nat) (base : Nat × Nat) (w : World) (a : Int) (st : BinP.St) (ha : (Lit.int .i64 a).wf = true) (h : RdS w base g st) (hn : (BinP.pInt a st).2 = none) :
    Calls Try.prog 61 #[.pointer (some ⟨g, 0, none⟩), .int .i64 a] w fun e w' => e = .returned (.string ⟨#[]⟩) ∧ RdS w' base g none ∧ w.grownBy w' (some g) := by
  have h1 := rd_int g st base w a ha h
  rw [hn] at h1
  have H1 := Lib.hid h1
  clear hn h1 h ha
  go_enter Try.func61, Try.ntmps61
  go_wp2_with fail
  refine H1.out.mono ?_
  rintro e w1 ⟨rfl, ⟨l, h⟩, hg1⟩
  obtain ⟨A, n, c, K⟩ := h.knows
  have hc0 := K.c0
  have hc1 := K.c1
  have hf1 := K.f1
  go_wp2_with fail
  go_ret
  exact ⟨rfl, ⟨l, rd_make (heap1' (.bool true) K.hg) K.hb K.hn K.hnc K.hcm K.hr K.hne (set1' w1 g _)⟩, grown_trans' hg1 (set1' w1 g _)⟩
set_option maxRecDepth 4000 in
set_option maxHeartbeats 400000 in
theorem text_short (g : Nat) (base : Nat × Nat) (w : World) (a : Int) (st : BinP.St) (m : Nat) (l : List UInt8) (ha : (Lit.int .i64 a).wf = true) (h : RdS w base g st) (hn : BinP.pInt a st = (m, some l)) (hm : l.length < m) :
    Calls Try.prog 61 #[.pointer (some ⟨g, 0, none⟩), .int .i64 a] w fun e w' => e = .returned (.string ⟨#[]⟩) ∧ RdS w' base g none ∧ w.grownBy w' (some g) := by
  have h1 := rd_int g st base w a ha h
  rw [hn] at h1
  have H1 := Lib.hid h1
  clear hn h1 h ha
  go_enter Try.func61, Try.ntmps61
  go_wp2_with fail
  refine H1.out.mono ?_
  rintro e w1 ⟨rfl, h, hg1⟩
  obtain ⟨A, n, c, K⟩ := Rd.knows h
  have hc0 := K.c0
  have hc1 := K.c1
  have hf1 := K.f1
  have hmn : n < m := by rw [← K.hn]; exact hm
  have hd : decide ((n : Int) < (m : Int)) = true := by simp; omega
  go_wp2_with fail
  go_ret
  exact ⟨rfl, ⟨l, rd_make (heap1' (.bool true) K.hg) K.hb K.hn K.hnc K.hcm K.hr K.hne (set1' w1 g _)⟩, grown_trans' hg1 (set1' w1 g _)⟩
theorem Row.cutTo {w : World} {B : Nat} {A : Option Addr} {l : List UInt8} (h : Row w B A (l.map b8)) (n : Nat) : Row w B A ((l.take n).map b8) := by
  rw [List.map_take]; exact h.take n
set_option maxRecDepth 4000 in
set_option maxHeartbeats 400000 in
theorem text_some (g : Nat) (base : Nat × Nat) (w : World) (a : Int) (st : BinP.St) (m : Nat) (l : List UInt8) (ha : (Lit.int .i64 a).wf = true) (h : RdS w base g st) (hn : BinP.pInt a st = (m, some l)) (hm : m ≤ l.length) :
    Calls Try.prog 61 #[.pointer (some ⟨g, 0, none⟩), .int .i64 a] w fun e w' => e = .returned (.string ⟨(l.take m).toArray⟩) ∧ RdS w' base g (some (l.drop m)) ∧ w.grownBy w' (some g) := by
  have h1 := rd_int g st base w a ha h
  rw [hn] at h1
  have H1 := Lib.hid h1
  clear hn h1 h ha
  go_enter Try.func61, Try.ntmps61
  go_wp2_with fail
  refine H1.out.mono ?_
  rintro e w1 ⟨rfl, h, hg1⟩
  obtain ⟨A, n, c, K⟩ := Rd.knows h
  have hc0 := K.c0
  have hc1 := K.c1
  have hf1 := K.f1
  have hf0 := K.f0
  have hmn : m ≤ n := by rw [← K.hn]; exact hm
  have hnc := K.hnc
  have hcm := K.hcm
  unfold maxLen at hcm
  have hd : decide ((n : Int) < (m : Int)) = false := by simp; omega
  have hrow : Row (w1.setCell ⟨g, 1, none⟩ (.bool false)) (w1.setCell ⟨g, 1, none⟩ (.bool false)).heap.size A ((l.take m).map b8) := (K.hr.but (set1' w1 g _) (fun ad e => (K.hne ad e).1)).cutTo m
  have htl : (l.take m).length = m := by simp; omega
  have HTL := Lib.hid htl
  clear htl h
  by_cases hcn : c = m
  · subst hcn
    go_wp2_with (refine wpList_str8 (dst := some 36) A c c _ (l.take c) rfl rfl HTL.out hrow ?_)
    go_ret
    exact ⟨rfl, rd_make (heap10' _ _ K.hg) K.hb (by rw [List.length_drop, K.hn]; omega) (by omega) (by unfold maxLen; omega) (K.hr.cut0 hm (by rw [K.hn]; exact hnc) rfl) K.hne (set10' w1 g _ _), grown_trans' hg1 (set10' w1 g _ _)⟩
  · go_wp2_with (refine wpList_str8 (dst := some 36) A m c _ (l.take m) rfl rfl HTL.out hrow ?_)
    go_ret
    exact ⟨rfl, rd_make (heap10' _ _ K.hg) K.hb (by rw [List.length_drop, K.hn]) (by omega) (by unfold maxLen; omega) (K.hr.cut1 hm (by rw [K.hn]; exact hnc) hcn) (ne_add K.hne) (set10' w1 g _ _), grown_trans' hg1 (set10' w1 g _ _)⟩
theorem rd_text (g : Nat) (st : BinP.St) (base : Nat × Nat) (w : World) (a : Int) (ha : (Lit.int .i64 a).wf = true) (h : RdS w base g st) :
    Calls Try.prog 61 #[.pointer (some ⟨g, 0, none⟩), .int .i64 a] w fun e w' => e = .returned (.string ⟨(BinP.pText a st).1.toArray⟩) ∧ RdS w' base g (BinP.pText a st).2 ∧ w.grownBy w' (some g) := by
  rcases hp : BinP.pInt a st with ⟨m, _ | l⟩
  · have e : BinP.pText a st = ([], none) := by simp [BinP.pText, hp]
    rw [e]
    exact text_no g base w a st ha h (by rw [hp])
  · by_cases hm : l.length < m
    · have e : BinP.pText a st = ([], none) := by simp [BinP.pText, hp, hm]
      rw [e]
      exact text_short g base w a st m l ha h hp hm
    · have e : BinP.pText a st = (l.take m, some (l.drop m)) := by simp [BinP.pText, hp, hm]
      rw [e]
      exact text_some g base w a st m l ha h hp (by omega)
set_option maxRecDepth 4000 in
set_option maxHeartbeats 400000 in
/-- bin.Read: a new reader -/
theorem bin_read (A : Option Addr) (n c : Nat) (l : List UInt8) (B : Nat) (w : World) (hn : l.length = n) (hr : Row w B A (l.map b8)) (hB : B ≤ w.heap.size) (hm : n ≤ 140737488355328) :
    Calls Try.prog 57 #[.slice A n c] w fun e w' => ∃ g, e = .returned (.pointer (some ⟨g, 0, none⟩)) ∧ RdS w' (w.heap.size, w'.heap.size) g (some l) ∧ Below w.heap.size w w' := by
  have h1 := clone8 A n c l B w hn hr hB hm
  have H1 := Lib.hid h1
  clear h1 hr hn
  go_enter Try.func57, Try.ntmps57
  go_wp2_with fail
  refine H1.out.mono ?_
  rintro e w1 ⟨A1, n1, cap1, rfl, hO1, hB1⟩
  go_wp2_with fail
  go_ret
  have hs := hB1.size
  have hO := hO1.alloc (.cells #[.slice A1 n1 cap1, .bool false] 102)
  refine ⟨w1.heap.size, rfl, ⟨A1, n1, cap1, heap_alloc_new w1 _, ⟨hs, by simp⟩, hO1.len, hO1.le.1, hO1.le.2, hO.row, fun ad e => ?_⟩, hB1.alloc hs _⟩
  have := Own.lt hO1 ad.block (by rw [e]; rfl)
  exact ⟨by omega, this.1, by simp; omega⟩
end Go.Proofs.Ytkkeodfoiffofaa
