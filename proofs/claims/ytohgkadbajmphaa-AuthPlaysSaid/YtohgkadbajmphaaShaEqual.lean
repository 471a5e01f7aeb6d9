/- The walk of sha.Equal. -/
import Derived.Test.YtohgkadbajmphaaShaRead
namespace Go.Proofs.Ytohgkadbajmphaa
open Go.RowKit
set_option linter.unusedVariables false
theorem u8_or_nat' (x y : UInt8) : bits .or .u8 (x.toNat : Int) (y.toNat : Int) = ((x ||| y).toNat : Int) := by
  rw [u8_or_nat _ _ x.toNat_lt y.toNat_lt, UInt8.toNat_or]
theorem u8_eq_zero (x : UInt8) : ((x.toNat : Int) == 0) = decide (x = 0) := by
  have h0 : (0 : UInt8).toNat = 0 := rfl
  rw [Bool.eq_iff_iff, beq_iff_eq, decide_eq_true_iff, ← UInt8.toNat_inj, h0]
  omega
set_option maxHeartbeats 400000 in
theorem sha_equal (A1 A2 : Option Addr) (n1 c1 n2 c2 B : Nat) (l m : List UInt8) (w : World) (h1 : Sl w B A1 n1 c1 l) (h2 : Sl w B A2 n2 c2 m) (hB : B ≤ w.heap.size) :
    Calls Try.prog 21 #[.slice A1 n1 c1, .slice A2 n2 c2] w fun e w' => e = .returned (.bool (decide (l = m))) ∧ Grew w w' := by
  obtain ⟨hn1, hnc1, hcm1, hr1⟩ := id h1
  obtain ⟨hn2, hnc2, hcm2, hr2⟩ := id h2
  subst hn1
  subst hn2
  unfold maxLen at hcm1 hcm2
  by_cases hlen : l.length = m.length
  · have HE := Lib.hid (ShaP.acc_zero l m hlen)
    have hI : ((l.length : Int) != (m.length : Int)) = false := by rw [hlen]; simp
    have hlm : l.length ≤ m.length := by omega
    have HLEN := Lib.hid hlen
    clear hlen
    go_enter Try.func21, Try.ntmps21
    go_wp2_with fail
    clear hI
    go_loopw [14, 5] (fun i x wy => ∃ k : Nat, k ≤ l.length ∧ i = .int .i64 (k : Int) ∧ x = b8 (ShaP.acc (l.take k) (m.take k)) ∧ Grew w wy) (fun i _ _ => l.length - (intOf i).toNat)
    case atStart => exact ⟨0, Nat.zero_le _, rfl, rfl, Grew.refl _⟩
    case round =>
      obtain ⟨k, hk, rfl, rfl, hg⟩ := hrel
      by_cases hlt : k < l.length
      · have hltm : k < m.length := by omega
        obtain ⟨a1, e1, b1, q1⟩ := hr1.at_ k (by simpa using hlt)
        obtain ⟨a2, e2, b2, q2⟩ := hr2.at_ k (by simpa using hltm)
        obtain ⟨x, hx⟩ : ∃ x, x = l[k] := ⟨_, rfl⟩
        obtain ⟨y, hy⟩ : ∃ y, y = m[k] := ⟨_, rfl⟩
        have t1 : w.cell? (a1.add k) = some (b8 x) := by rw [q1, hx]; simp
        have t2 : w.cell? (a2.add k) = some (b8 y) := by rw [q2, hy]; simp
        have f1 : ∀ z : GrewOf wr, z.1.cell? (a1.add k) = some (b8 x) ∧ z.1.cell? (a2.add k) = some (b8 y) := fun z =>
          ⟨(Below.cell (hg.trans z.2) (p := a1.add k) (by rw [add_block]; omega)).trans t1, (Below.cell (hg.trans z.2) (p := a2.add k) (by rw [add_block]; omega)).trans t2⟩
        obtain ⟨c, hc⟩ : ∃ c, c = ShaP.acc (l.take k) (m.take k) := ⟨_, rfl⟩
        have HT := Lib.hid (show ShaP.acc (l.take (k + 1)) (m.take (k + 1)) = c ||| (x ^^^ y) by
          rw [List.take_succ_eq_append_getElem hlt, List.take_succ_eq_append_getElem hltm, ShaP.acc_snoc _ _ _ _ (by simp; omega), ← hc, ← hx, ← hy])
        rw [← hc]
        obtain ⟨z, hz⟩ : ∃ z, z = x ^^^ y := ⟨_, rfl⟩
        have u1 := u8_xor_nat' x y
        rw [← hz] at u1 HT
        have u2 := u8_or_nat' c z
        obtain ⟨v, hv⟩ : ∃ v, v = c ||| z := ⟨_, rfl⟩
        rw [← hv] at u2 HT
        have F := Lib.hid (And.intro f1 (And.intro u1 u2))
        have hI : (k : Int) < (l.length : Int) := by omega
        have hI2 : (k : Int) < (m.length : Int) := by omega
        subst e1 e2
        clear hx hy hc hz hv t1 t2 f1 u1 u2 q1 q2
        go_upto_region 7 with fail
        have hqq := F.out
        refine wp_region_x [] (by kernel_rfl) (by kernel_rfl) (by kernel_rfl) ?_
        simp only [blank, List.foldl_nil]
        repeat ((refine wpX_value (v := ?_) rfl (by intros; simp) rfl rfl (fun x => ?_) ?_; rotate_left; (focus (simp [go_sem, hqq, ↓IntWalk.iteOmega]; (try go_ints); first | done | (with_reducible rfl))); (simp only [Act.put, List.setIfInBounds_toArray, List.set_cons_succ, List.set_cons_zero])))
        (refine wpX_nil ?_; intro xb wx hxg xl; obtain ⟨xf, xe⟩ := LikeAll.end_ xl; clear xl; subst xe; simp only [fill, List.foldl_nil, Act.put])
        clear hqq
        go_wp2_with fail
        go_roundw
        case rel => exact ⟨k + 1, by omega, by go_num, by rw [HT.out], hg.trans hxg⟩
        case measure => simp [intOf]; omega
      · obtain rfl : k = l.length := by omega
        have HT := Lib.hid (show (((ShaP.acc (l.take l.length) (m.take l.length)).toNat : Int) == 0) = decide (l = m) by
          rw [List.take_of_length_le (Nat.le_refl _), List.take_of_length_le (by have := HLEN.out; omega), u8_eq_zero, Bool.eq_iff_iff, decide_eq_true_iff, decide_eq_true_iff]
          exact HE.out)
        obtain ⟨c, hc⟩ : ∃ c, c = ShaP.acc (l.take l.length) (m.take l.length) := ⟨_, rfl⟩
        rw [← hc] at HT ⊢
        clear hc
        go_wp2_with fail
        go_ret
        exact ⟨by rw [← HT.out]; rfl, hg⟩
  · have HD := Lib.hid (show decide (l = m) = false by rw [decide_eq_false_iff_not]; intro e; exact hlen (by rw [e]))
    have hI : ((l.length : Int) != (m.length : Int)) = true := by rw [bne_iff_ne]; omega
    go_enter Try.func21, Try.ntmps21
    go_wp2_with fail
    go_ret
    exact ⟨by rw [HD.out]; rfl, Grew.refl _⟩
end Go.Proofs.Ytohgkadbajmphaa
