/- Plain facts for rolodexlaw18.AuthOnce: the tokens that it lets be issued. -/
import Derived.Test.YtohgkadbajmphaaAwake18
import Derived.Test.YtohgkadbajmphaaOpenN
import Derived.Test.YtohgkadbajmphaaOpen
namespace Go.Proofs.Ytohgkadbajmphaa
open Go.RowKit
set_option linter.unusedVariables false
theorem and15 (d : Int) : ∃ m : Nat, m ≤ 15 ∧ bits .and .i64 d 15 = (m : Int) := by
  refine ⟨(BitVec.ofInt 64 d &&& BitVec.ofInt 64 15).toNat, ?_, ?_⟩
  · rw [BitVec.toNat_and]
    exact Nat.le_trans Nat.and_le_right (by decide)
  · show IntKind.i64.wrap ((BitVec.ofInt 64 d &&& BitVec.ofInt 64 15).toNat : Int) = _
    have h : (BitVec.ofInt 64 d &&& BitVec.ofInt 64 15).toNat ≤ 15 := by
      rw [BitVec.toNat_and]
      exact Nat.le_trans Nat.and_le_right (by decide)
    exact IntWalk.i64_in _ (by omega)
/-- the claim of token number i -/
def oc (ds : List Int) (i : Nat) : AuthP.Cl := ⟨(bits .and .i64 (ds.getD i 0) 15).toNat, i, i + 1, 100 * (i + 1)⟩
theorem oc_dev (ds : List Int) (i : Nat) : (oc ds i).dev ≤ 15 ∧ ((oc ds i).dev : Int) = bits .and .i64 (ds.getD i 0) 15 := by
  obtain ⟨m, h1, h2⟩ := and15 (ds.getD i 0)
  unfold oc
  simp only [h2]
  exact ⟨by omega, by omega⟩
theorem oc_good (ds : List Int) (i : Nat) (h : i < 10) : AuthP.good (oc ds i) := by
  have := (oc_dev ds i).1
  refine ⟨this, ?_, ?_, ?_, ?_, ?_⟩ <;> simp only [oc, two64] <;> omega
def otok (key : List UInt8) (ds : List Int) (i : Nat) : List UInt8 := AuthP.tok key (oc ds i)
theorem otok_ne (key : List UInt8) (ds : List Int) {i j : Nat} (hi : i < 10) (hj : j < 10) (h : i ≠ j) : otok key ds i ≠ otok key ds j := fun e => by
  have := congrArg AuthP.Cl.num (AuthP.tok_inj (oc_good ds i hi) (oc_good ds j hj) e)
  simp only [oc] at this
  omega
theorem otok_len (key : List UInt8) (ds : List Int) (i : Nat) : (otok key ds i).length ≤ 150 := tok_len key _
/-- the first j tokens, as a slice holds them -/
def ostrs (key : List UInt8) (ds : List Int) (j : Nat) : List Value := (List.range j).map fun i => .string ⟨(otok key ds i).toArray⟩
theorem ostrs_len (key : List UInt8) (ds : List Int) (j : Nat) : (ostrs key ds j).length = j := by simp [ostrs]
theorem ostrs_succ (key : List UInt8) (ds : List Int) (j : Nat) : ostrs key ds j ++ [.string ⟨(otok key ds j).toArray⟩] = ostrs key ds (j + 1) := by simp [ostrs, List.range_succ]
theorem ostrs_at (key : List UInt8) (ds : List Int) {i j : Nat} (h : i < j) : (ostrs key ds j)[i]? = some (.string ⟨(otok key ds i).toArray⟩) := by simp [ostrs, h]
theorem one_ostr (t : List UInt8) : ∀ u ∈ [Value.string ⟨t.toArray⟩], u.oneCell' = true := by intro u hu; simp at hu; rw [hu]; rfl
theorem info_string : (Try.prog.info? 9).map (fun i => (i.zero, i.size, i.bytes)) = some (some (.string ⟨#[]⟩), 1, 16) := by kernel_rfl
/-- which number the law lets be taken back -/
def orev (pick : Int) (n m : Nat) : Bool := decide (0 ≤ pick ∧ pick < (n : Int) ∧ (m : Int) = pick + 1)
/-- what Verify tells of token number i -/
theorem once_verify (base top g : Nat) (key : List UInt8) (ds : List Int) (n : Nat) (rev : Nat → Bool) (k i asked : Nat) (now : Int) (w : World) (hi : i < n) (hn : n ≤ 10) (ha : asked < 1000000) (hkey : key.length ≤ 1000000) (hK : Keep w base top g key n asked rev k) :
    Calls Try.prog 35 #[.pointer (some ⟨g, 0, none⟩), .string ⟨(otok key ds i).toArray⟩, .int .i64 now] w fun e w' =>
      e = .returned (.tuple #[.agg (clv (if rev (i + 1) = true then AuthP.none0 else if (100 * ((i : Int) + 1)) ≤ now then AuthP.none0 else oc ds i)).toArray, .int .i64 (if rev (i + 1) = true then 10 else if (100 * ((i : Int) + 1)) ≤ now then 9 else 0)]) ∧
      Keep w' base top g key n (asked + 1) rev k ∧ Out base top w w' := by
  have h1 := keep_verify base top g key n asked rev k (otok key ds i) now w hK ha (by omega) hkey (by have := otok_len key ds i; omega)
  have hg := oc_good ds i (by omega)
  have e1 : AuthP.verifyE key n rev (otok key ds i) now = if rev (i + 1) = true then 10 else if (100 * ((i : Int) + 1)) ≤ now then 9 else 0 := by
    unfold otok
    rw [verifyE_tok hg, if_neg (by simp only [oc]; omega)]
    rfl
  have e2 : AuthP.verifyC key n rev (otok key ds i) now = if rev (i + 1) = true then AuthP.none0 else if (100 * ((i : Int) + 1)) ≤ now then AuthP.none0 else oc ds i := by
    unfold otok
    rw [verifyC_tok hg, if_neg (by simp only [oc]; omega)]
    rfl
  rw [e1, e2] at h1
  exact h1
theorem grew_none {w w' : World} (hg : w.grownBy w' none) : Grew w w' := ⟨hg.os, hg.tape, hg.output, hg.size, fun j hj => hg.block j hj (by simp)⟩
theorem Keep.other {w w' : World} {base top g : Nat} {key : List UInt8} {issued asked k : Nat} {rev : Nat → Bool} (h : Keep w base top g key issued asked rev k) {row : Option Nat} (hg : w.grownBy w' row) (hr : ∀ r, row = some r → top ≤ r) : Keep w' base top g key issued asked rev k := by
  cases row with
  | none => exact h.grew (grew_none hg)
  | some r => exact h.apart hg (hr r rfl)
theorem Out.other {w w' w'' : World} {base top : Nat} (h : Out base top w w') {row : Option Nat} (hg : w'.grownBy w'' row) (hr : ∀ r, row = some r → w.heap.size ≤ r) : Out base top w w'' := by
  cases row with
  | none => exact h.grew (grew_none hg)
  | some r => exact h.row hg (.inr (hr r rfl))
theorem Own.out {w w' : World} {base top : Nat} {e : TypeId} {size n cap : Nat} {A : Option Addr} {xs : List Value} (h : Own w top e size A n cap xs) (ho : Out base top w w') : Own w' top e size A n cap xs :=
  h.keep fun g hg => ho.block g (h.lt g hg).2 (.inr (h.lt g hg).1)
end Go.Proofs.Ytohgkadbajmphaa
namespace Go.Proofs.Ytohgkadbajmphaa
open Go.RowKit
set_option linter.unusedVariables false
set_option maxRecDepth 100000 in
set_option maxHeartbeats 4000000 in
theorem authOnce_walk (A0 : Option Addr) (n0 c0 : Nat) (l0 : List UInt8) (A1 : Option Addr) (n1 c1 : Nat) (l1 : List Int) (a2 a3 : Int) (w : World) (b0 : BytesIn w A0 n0 c0 l0) (z0 : n0 * 1 ≤ 140737488351232) (b1 : NumsIn .i64 w A1 n1 c1 l1) (z1 : n1 * 8 ≤ 140737488351232) (w2 : (Lit.int .i64 a2).wf = true) (w3 : (Lit.int .i64 a3).wf = true) :
    Calls Try.prog 13 #[.slice A0 n0 c0, .slice A1 n1 c1, .int .i64 a2, .int .i64 a3] w fun e w' => e = .returned (.bool true) ∧ Below w.heap.size w w' := by
  have S0 := Lib.hid (show Sl w w.heap.size A0 n0 c0 l0 from ⟨b0.len, b0.le, b0.max, b0.row⟩)
  have R1 := Lib.hid b1.row
  have hl1 := b1.len
  have hm1 := b1.le
  have hx1 := b1.max
  have hm0 := b0.le
  have hx0 := b0.max
  have hl0 := b0.len
  have W2 := Lib.hid (wf_i64' w2)
  unfold maxLen at hx0 hx1
  clear b0 b1 w2 w3 z0 z1
  by_cases hall : ¬ (n0 ≤ 100 ∧ n1 ≤ 10 ∧ 0 ≤ a3 ∧ a3 ≤ 1000)
  · have hI : (100 : Int) < (n0 : Int) ∨ (¬ (100 : Int) < (n0 : Int) ∧ (10 : Int) < (n1 : Int)) ∨ (¬ (100 : Int) < (n0 : Int) ∧ ¬ (10 : Int) < (n1 : Int) ∧ a3 < 0) ∨ (¬ (100 : Int) < (n0 : Int) ∧ ¬ (10 : Int) < (n1 : Int) ∧ ¬ a3 < 0 ∧ 1000 < a3) := by omega
    clear hall
    go_enter Try.func13, Try.ntmps13
    go_upto_region 3 with (go_at_call 28; refine (awake18 w).mono ?_; rintro e w1 ⟨rfl, hB1⟩)
    rcases hI with i1 | ⟨i1, i2⟩ | ⟨i1, i2, i3⟩ | ⟨i1, i2, i3, i4⟩
    · go_wp2_with fail
      go_ret
      exact ⟨rfl, hB1⟩
    · go_wp2_with fail
      go_ret
      exact ⟨rfl, hB1⟩
    · go_wp2_with fail
      go_ret
      exact ⟨rfl, hB1⟩
    · go_wp2_with fail
      go_ret
      exact ⟨rfl, hB1⟩
  obtain ⟨h0, h1, h2, h3⟩ := Classical.not_not.1 hall
  clear hall
  have i1 : ¬ (100 : Int) < (n0 : Int) := by omega
  have i2 : ¬ (10 : Int) < (n1 : Int) := by omega
  have i3 : ¬ a3 < 0 := by omega
  have i4 : ¬ 1000 < a3 := by omega
  go_enter Try.func13, Try.ntmps13
  go_upto_region 5 with (go_at_call 28; refine (awake18 w).mono ?_; rintro e w1 ⟨rfl, hB1⟩)
  have HB1 := Lib.hid hB1
  have HNew := Lib.hid (auth_new A0 n0 c0 w.heap.size l0 w1 (S0.out.below hB1) hB1.size (by omega))
  clear hB1 i1 i2 i3 i4
  go_upto_region 6 with (go_at_call 29; refine HNew.out.mono ?_; rintro e w2 ⟨g, rfl, hK, hg⟩)
  obtain ⟨B, hB⟩ : ∃ B, B = w1.heap.size := ⟨_, rfl⟩
  obtain ⟨T, hT⟩ : ∃ T, T = w2.heap.size := ⟨_, rfl⟩
  rw [← hB, ← hT] at hK
  have hBw : w.heap.size ≤ B := by rw [hB]; exact HB1.out.size
  have HB2 := Lib.hid (HB1.out.trans (hg.mono HB1.out.size))
  have HK0 := Lib.hid hK
  have hBT : B ≤ w2.heap.size := by rw [hB]; exact hg.size
  have hT2 : T ≤ w2.heap.size := by rw [hT]; exact Nat.le_refl _
  have HT := Lib.hid (show w2.heap.size = T from hT.symm)
  clear hK hg hB hT HNew HB1
  go_wp2_with fail
  go_loopw [10, 11] (fun f i wy => ∃ (j : Nat) (A : Option Addr) (c : Nat), j ≤ n1 ∧ i = .int .i64 (j : Int) ∧ f = .slice A j c ∧ Own wy T 9 1 A j c (ostrs l0 l1 j) ∧ Keep wy B T g l0 j 0 (fun _ => false) 0 ∧ Out B T w2 wy) (fun _ i _ => n1 - (intOf i).toNat)
  case atStart => exact ⟨0, none, 0, Nat.zero_le _, rfl, rfl, Own.nil _ _ _ _, HK0.out, Out.refl _ _ _⟩
  case round =>
    obtain ⟨j, A, c, hj, rfl, rfl, hO, hK, hOut⟩ := hrel
    have HO := Lib.hid hO
    have HK := Lib.hid hK
    have HOut := Lib.hid hOut
    clear hO hK hOut HK0
    by_cases hlt : j < n1
    · have hBr : Below w.heap.size w wr := HB2.out.trans ((HOut.out.below hBT).mono hBw)
      obtain ⟨ad, hA1, hab, hcell⟩ := (R1.out.below hBr).at_ j (by simp; omega)
      subst hA1
      have hd : l1[j]? = some (l1.getD j 0) := by rw [List.getD_eq_getElem?_getD, List.getElem?_eq_getElem (by omega)]; rfl
      obtain ⟨dj, hdj⟩ : ∃ d, d = l1.getD j 0 := ⟨_, rfl⟩
      have hcx : wr.cell? (ad.add j) = some (.int .i64 dj) := by
        rw [hcell, hdj]
        simp [List.getD_eq_getElem?_getD, List.getElem?_eq_getElem (show j < l1.length by omega)]
      obtain ⟨p, hp15, hp⟩ := and15 dj
      have HC := Lib.hid (show oc l1 j = ⟨((p : Nat) : Int).toNat, j, j + 1, ((0 : Int) + 100 * ((j : Int) + 1)).toNat⟩ by
        unfold oc
        rw [← hdj, hp]
        congr 1
        omega)
      have HIs := Lib.hid (issue_yes B T g l0 j 0 (fun _ => false) 0 (p : Int) j 0 (100 * ((j : Int) + 1)) wr HK.out (by omega) (by omega) (by omega) (oc l1 j) (by rw [HC.out]))
      obtain ⟨TK, hTK⟩ : ∃ t, t = AuthP.tok l0 (oc l1 j) := ⟨_, rfl⟩
      rw [← hTK] at HIs
      have HTK := Lib.hid (show TK = otok l0 l1 j from hTK)
      have hI : (j : Int) < (n1 : Int) := by omega
      have hj0 : (0 : Int) ≤ (j : Int) := by omega
      clear hdj hcell hTK hBr HC hd
      go_upto_region 11 with (go_at_call 30; refine HIs.out.mono ?_; rintro e w3 ⟨rfl, hK, hO3⟩)
      have hor := HO.out.lt
      have HO3' := Lib.hid (HO.out.out hO3)
      have HOut3 := Lib.hid (HOut.out.trans hO3)
      have HK3 := Lib.hid hK
      clear hK hO3 HIs HK HOut HO hcx hor hp hab
      go_wp2_with fail
      clear hI hj0
      go_loop [14] (fun k => ∃ m : Nat, m ≤ j ∧ k = .int .i64 (m : Int)) (fun k => j - (intOf k).toNat)
      case atStart => exact ⟨0, Nat.zero_le _, rfl⟩
      case round =>
        obtain ⟨m, hm, rfl⟩ := hrel
        by_cases hmj : m < j
        · obtain ⟨gs, os, hA⟩ := HO3'.out.isSome (by omega)
          subst hA
          have hcell := HO3'.out.cellAt (ostrs_at l0 l1 hmj)
          obtain ⟨TM, hTM⟩ : ∃ t, t = otok l0 l1 m := ⟨_, rfl⟩
          rw [← hTM] at hcell
          have hne : (TM == TK) = false := beq_eq_false_iff_ne.2 (by rw [hTM, HTK.out]; exact otok_ne l0 l1 (by omega) (by omega) (by omega))
          have hI : (m : Int) < (j : Int) := by omega
          clear hTM
          go_wp2_with fail
          go_round
          case rel => exact ⟨m + 1, hmj, by go_num⟩
          case measure => simp [intOf]; omega
        · obtain rfl : m = j := by omega
          have hI : ¬ (m : Int) < (m : Int) := by omega
          have hsz3 : T ≤ w3.heap.size := HK3.out.lt.2.2.1
          have HK4 := Lib.hid (HK3.out.grew (grew_alloc w3 (.cells #[.string ⟨TK.toArray⟩] 9)))
          have HOut4 := Lib.hid (HOut3.out.grew (grew_alloc w3 (.cells #[.string ⟨TK.toArray⟩] 9)))
          have HO4 := Lib.hid (HO3'.out.alloc (.cells #[.string ⟨TK.toArray⟩] 9))
          have HSUC := Lib.hid (show ostrs l0 l1 m ++ [.string ⟨TK.toArray⟩] = ostrs l0 l1 (m + 1) by rw [HTK.out]; exact ostrs_succ l0 l1 m)
          clear HK3 HOut3 HO3'
          go_wp2_with (at_builtin; refine wpList_appn1 rfl (.tmp 73) (.tmp 75) 56 9 (.string ⟨#[]⟩) 16 rfl Try.underlying56 info_string rfl (by omega) T _ _ _ _ rfl HO4.out 1 [.string ⟨TK.toArray⟩] (Src.slice rfl (Row.new _ _ _ _ (w3.heap.size + 1) _ rfl (by omega) _ rfl)) (one_ostr TK) (m + 1) rfl (ostrs l0 l1 (m + 1)) HSUC.out (by omega) (by simp; omega) ?_; intro A4 c4 w4 hO4 hg4 hB4 hor4)
          have hr4 := fun r e => (HO4.out.lt r e).1
          go_roundw
          case rel => exact ⟨m + 1, A4, c4, hlt, by go_num, rfl, hO4, HK4.out.other hg4 hr4, HOut4.out.other hg4 (fun r e => by rw [HT.out]; exact hr4 r e)⟩
          case measure => simp [intOf]; omega
    · obtain rfl : j = n1 := by omega
      have hI : ¬ (j : Int) < (j : Int) := by omega
      obtain ⟨wq, rfl⟩ : ∃ x : World, x = wr := ⟨_, rfl⟩
      have HREVS := Lib.hid trivial
      by_cases hpk : 0 ≤ a2 ∧ a2 < (j : Int)
      · obtain ⟨p, rfl⟩ : ∃ p : Nat, a2 = (p : Int) := ⟨a2.toNat, by omega⟩
        have HRev := Lib.hid (show Calls Try.prog 32 #[.pointer (some ⟨g, 0, none⟩), .int .u64 ((p : Int) + 1)] wq fun e w' => e = .returned (.int .i64 0) ∧ Keep w' B T g l0 j 0 (fun i => if i = p + 1 then true else false) 1 ∧ Out B T wq w' from (keep_revoke B T g l0 j 0 (fun _ => false) 0 (p + 1) wq HK.out (by unfold two64; omega) (by omega)).mono fun e w' h => by
          unfold Revoked at h
          rw [if_neg (by omega)] at h
          exact h)
        have q1 : (0 : Int) ≤ (p : Int) := by omega
        have q2 : (p : Int) < (j : Int) := by omega
        clear hpk
        go_upto_region 21 with (go_at_call 32; refine HRev.out.mono ?_; rintro e w5 ⟨rfl, hK, hO5⟩)
        have HKr := Lib.hid hK
        have HOutr := Lib.hid (HOut.out.trans hO5)
        have HOr := Lib.hid (HO.out.out hO5)
        obtain ⟨rv, hrv⟩ : ∃ r : Nat → Bool, r = (fun i => if i = p + 1 then true else false) := ⟨_, rfl⟩
        have HREV := Lib.hid (show ∀ i : Nat, i < j → rv (i + 1) = decide ((i : Int) = (p : Int)) from fun i hi => by
          rw [hrv, Bool.eq_iff_iff, decide_eq_true_iff]
          simp
          omega)
        rw [← hrv] at HKr
        clear hrv hK hO5 HRev q1 q2 hI
        clear HK HOut HO HREVS
        go_wp2_with fail
        go_loopw [15] (fun i wy => ∃ m : Nat, m ≤ j ∧ i = .int .i64 (m : Int) ∧ Keep wy B T g l0 j m rv 1 ∧ Out B T w2 wy ∧ Own wy T 9 1 A j c (ostrs l0 l1 j)) (fun i _ => j - (intOf i).toNat)
        case atStart => exact ⟨0, Nat.zero_le _, rfl, HKr.out, HOutr.out, HOr.out⟩
        case round =>
          obtain ⟨wl, rfl⟩ : ∃ x : World, x = wr := ⟨_, rfl⟩
          obtain ⟨m, hm, rfl, hK, hOut, hO⟩ := hrel
          have HK := Lib.hid hK
          have HOut := Lib.hid hOut
          have HO := Lib.hid hO
          clear hK hOut hO HKr HOutr HOr
          by_cases hlt : m < j
          · obtain ⟨gs, os, hA⟩ := HO.out.isSome (by omega)
            subst hA
            have hcell := HO.out.cellAt (ostrs_at l0 l1 hlt)
            have hV := once_verify B T g l0 l1 j rv 1 m m a3 wl hlt (by omega) (by omega) (by omega) HK.out
            obtain ⟨TM, hTM⟩ : ∃ t, t = otok l0 l1 m := ⟨_, rfl⟩
            rw [← hTM] at hcell hV
            rw [HREV.out m hlt] at hV
            obtain ⟨CC, hCC⟩ : ∃ C, C = clv (if decide ((m : Int) = (p : Int)) = true then AuthP.none0 else if (100 * ((m : Int) + 1)) ≤ a3 then AuthP.none0 else oc l1 m) := ⟨_, rfl⟩
            obtain ⟨E, hE⟩ : ∃ E : Int, E = (if decide ((m : Int) = (p : Int)) = true then 10 else if (100 * ((m : Int) + 1)) ≤ a3 then 9 else 0) := ⟨_, rfl⟩
            rw [← hCC, ← hE] at hV
            have HCl := Lib.hid (show CC.length = 4 ∧ ∀ v ∈ CC, v.oneCell' = true by rw [hCC]; exact ⟨rfl, one_clv _⟩)
            have HV := Lib.hid hV
            have HE := Lib.hid hE
            have HCC := Lib.hid hCC
            have hI : (m : Int) < (j : Int) := by omega
            clear hTM hV hE hCC
            go_upto_region 27 with (first
              | (go_at_call 35; refine HV.out.mono ?_; rintro e w5 ⟨rfl, hK, hO5⟩; have HST := Lib.hid (boxedC_store w5 CC HCl.out.1 HCl.out.2))
              | (refine wpList_value (o := ⟨some 16, _, _, _, _, _⟩) (v := .pointer (some ⟨w5.heap.size, 0, none⟩)) (w' := w5.alloc (.cells #[.int .i64 0, .int .u64 0, .int .u64 0, .int .i64 0] 50)) rfl (by kernel_rfl) ?_)
              | (refine wpList_store_mid rfl 50 (.tmp 16) (.tmp 107) rfl w5.heap.size 0 CC.toArray rfl rfl HST.out.1 HST.out.2.1 HST.out.2.2.1 ?_; rw [show (w5.alloc (.cells #[.int .i64 0, .int .u64 0, .int .u64 0, .int .i64 0] 50)).setCells w5.heap.size 0 CC.toArray.toList = boxedC w5 CC from by rw [List.toList_toArray]; rfl]))
            have hg6 := boxedC_grew w5 CC
            have HK6 := Lib.hid (hK.grew hg6)
            have HOut6 := Lib.hid ((HOut.out.trans hO5).grew hg6)
            have HO6 := Lib.hid ((HO.out.out hO5).grew hg6)
            have HA := Lib.hid HST.out.2.2.2
            obtain ⟨w6, hw6⟩ : ∃ x, x = boxedC w5 CC := ⟨_, rfl⟩
            rw [← hw6] at HK6 HOut6 HO6 HA ⊢
            clear hw6 hg6 hK hO5 HST HK HOut HO hcell HV hI
            by_cases hp : (m : Int) = (p : Int)
            · obtain rfl : E = 10 := by rw [HE.out, decide_eq_true hp]; rfl
              go_wp2_with fail
              go_roundw
              case rel => exact ⟨m + 1, hlt, by go_num, HK6.out, HOut6.out, HO6.out⟩
              case measure => simp [intOf]; omega
            · by_cases hn : 100 * ((m : Int) + 1) ≤ a3
              · obtain rfl : E = 9 := by rw [HE.out, decide_eq_false hp, if_pos hn]; rfl
                go_wp2_with fail
                go_roundw
                case rel => exact ⟨m + 1, hlt, by go_num, HK6.out, HOut6.out, HO6.out⟩
                case measure => simp [intOf]; omega
              · obtain rfl : E = 0 := by rw [HE.out, decide_eq_false hp, if_neg hn]; rfl
                have hBr : Below w.heap.size w w6 := HB2.out.trans ((HOut6.out.below hBT).mono hBw)
                obtain ⟨ad, hA1, hab, hcl⟩ := (R1.out.below hBr).at_ m (by simp; omega)
                subst hA1
                obtain ⟨dm, hdm⟩ : ∃ d, d = l1.getD m 0 := ⟨_, rfl⟩
                have q4 : w6.cell? (ad.add m) = some (.int .i64 dm) := by
                  rw [hcl, hdm]
                  simp [List.getD_eq_getElem?_getD, List.getElem?_eq_getElem (show m < l1.length by omega)]
                obtain ⟨dv, hdv⟩ : ∃ d, d = (oc l1 m).dev := ⟨_, rfl⟩
                have q5 : bits .and .i64 dm 15 = (dv : Int) := by rw [hdm, hdv]; exact (oc_dev l1 m).2.symm
                have hA' : ArrV w6 w5.heap.size [.int .i64 (dv : Int), .int .u64 (m : Int), .int .u64 ((m : Int) + 1), .int .i64 (100 * ((m : Int) + 1))] := by
                  have h := HA.out
                  rw [HCC.out, decide_eq_false hp, if_neg hn, if_neg (by decide)] at h
                  rw [hdv]
                  exact h
                have q0 := hA'.atSome (i := 0) rfl
                have q1 := hA'.atSome (i := 1) rfl
                have q2 := hA'.atSome (i := 2) rfl
                have q3 := hA'.atSome (i := 3) rfl
                have hI : (m : Int) < (j : Int) := by omega
                have hm10 : (m : Int) ≤ 10 := by omega
                have hm00 : (0 : Int) ≤ (m : Int) := by omega
                clear hdm hdv hA' hcl hBr
                go_upto_region 25 with fail
                go_quiet (fail)
                go_wp2_with fail
                go_roundw
                case rel => exact ⟨m + 1, hlt, by go_num, HK6.out.grew (Grew.drewN w6 _), HOut6.out.grew (Grew.drewN w6 _), HO6.out.drewN _⟩
                case measure => simp [intOf]; omega
          · have e : m = j := by omega
            subst e
            have hI : ¬ (m : Int) < (m : Int) := by omega
            have hm10 : (m : Int) ≤ 10 := by omega
            go_wp2_with (first
              | (go_at_call 33; refine (keep_issued _ _ _ _ _ _ _ _ _ HK.out).mono ?_; rintro e wx ⟨rfl, rfl⟩)
              | (go_at_call 37; refine (keep_asked _ _ _ _ _ _ _ _ _ HK.out).mono ?_; rintro e wx ⟨rfl, rfl⟩))
            go_ret
            exact ⟨rfl, HB2.out.trans ((HOut.out.below hBT).mono hBw)⟩
      · by_cases hneg : a2 < 0
        · have q1 : ¬ (0 : Int) ≤ a2 := by omega
          go_upto_region 21 with fail
          have HKr := Lib.hid HK.out
          have HOutr := Lib.hid HOut.out
          have HOr := Lib.hid HO.out
          obtain ⟨rv, hrv⟩ : ∃ r : Nat → Bool, r = (fun _ => false) := ⟨_, rfl⟩
          have HREV := Lib.hid (show ∀ i : Nat, i < j → rv (i + 1) = decide ((i : Int) = a2) from fun i hi => by
            rw [hrv, Bool.eq_iff_iff, decide_eq_true_iff]
            simp
            omega)
          rw [← hrv] at HKr
          clear hrv hI hpk
          clear q1 hneg
          clear HK HOut HO HREVS
          go_wp2_with fail
          go_loopw [15] (fun i wy => ∃ m : Nat, m ≤ j ∧ i = .int .i64 (m : Int) ∧ Keep wy B T g l0 j m rv 0 ∧ Out B T w2 wy ∧ Own wy T 9 1 A j c (ostrs l0 l1 j)) (fun i _ => j - (intOf i).toNat)
          case atStart => exact ⟨0, Nat.zero_le _, rfl, HKr.out, HOutr.out, HOr.out⟩
          case round =>
            obtain ⟨wl, rfl⟩ : ∃ x : World, x = wr := ⟨_, rfl⟩
            obtain ⟨m, hm, rfl, hK, hOut, hO⟩ := hrel
            have HK := Lib.hid hK
            have HOut := Lib.hid hOut
            have HO := Lib.hid hO
            clear hK hOut hO HKr HOutr HOr
            by_cases hlt : m < j
            · obtain ⟨gs, os, hA⟩ := HO.out.isSome (by omega)
              subst hA
              have hcell := HO.out.cellAt (ostrs_at l0 l1 hlt)
              have hV := once_verify B T g l0 l1 j rv 0 m m a3 wl hlt (by omega) (by omega) (by omega) HK.out
              obtain ⟨TM, hTM⟩ : ∃ t, t = otok l0 l1 m := ⟨_, rfl⟩
              rw [← hTM] at hcell hV
              rw [HREV.out m hlt] at hV
              obtain ⟨CC, hCC⟩ : ∃ C, C = clv (if decide ((m : Int) = a2) = true then AuthP.none0 else if (100 * ((m : Int) + 1)) ≤ a3 then AuthP.none0 else oc l1 m) := ⟨_, rfl⟩
              obtain ⟨E, hE⟩ : ∃ E : Int, E = (if decide ((m : Int) = a2) = true then 10 else if (100 * ((m : Int) + 1)) ≤ a3 then 9 else 0) := ⟨_, rfl⟩
              rw [← hCC, ← hE] at hV
              have HCl := Lib.hid (show CC.length = 4 ∧ ∀ v ∈ CC, v.oneCell' = true by rw [hCC]; exact ⟨rfl, one_clv _⟩)
              have HV := Lib.hid hV
              have HE := Lib.hid hE
              have HCC := Lib.hid hCC
              have hI : (m : Int) < (j : Int) := by omega
              clear hTM hV hE hCC
              go_upto_region 27 with (first
                | (go_at_call 35; refine HV.out.mono ?_; rintro e w5 ⟨rfl, hK, hO5⟩; have HST := Lib.hid (boxedC_store w5 CC HCl.out.1 HCl.out.2))
                | (refine wpList_value (o := ⟨some 16, _, _, _, _, _⟩) (v := .pointer (some ⟨w5.heap.size, 0, none⟩)) (w' := w5.alloc (.cells #[.int .i64 0, .int .u64 0, .int .u64 0, .int .i64 0] 50)) rfl (by kernel_rfl) ?_)
                | (refine wpList_store_mid rfl 50 (.tmp 16) (.tmp 107) rfl w5.heap.size 0 CC.toArray rfl rfl HST.out.1 HST.out.2.1 HST.out.2.2.1 ?_; rw [show (w5.alloc (.cells #[.int .i64 0, .int .u64 0, .int .u64 0, .int .i64 0] 50)).setCells w5.heap.size 0 CC.toArray.toList = boxedC w5 CC from by rw [List.toList_toArray]; rfl]))
              have hg6 := boxedC_grew w5 CC
              have HK6 := Lib.hid (hK.grew hg6)
              have HOut6 := Lib.hid ((HOut.out.trans hO5).grew hg6)
              have HO6 := Lib.hid ((HO.out.out hO5).grew hg6)
              have HA := Lib.hid HST.out.2.2.2
              obtain ⟨w6, hw6⟩ : ∃ x, x = boxedC w5 CC := ⟨_, rfl⟩
              rw [← hw6] at HK6 HOut6 HO6 HA ⊢
              clear hw6 hg6 hK hO5 HST HK HOut HO hcell HV hI
              by_cases hp : (m : Int) = a2
              · obtain rfl : E = 10 := by rw [HE.out, decide_eq_true hp]; rfl
                go_wp2_with fail
                go_roundw
                case rel => exact ⟨m + 1, hlt, by go_num, HK6.out, HOut6.out, HO6.out⟩
                case measure => simp [intOf]; omega
              · by_cases hn : 100 * ((m : Int) + 1) ≤ a3
                · obtain rfl : E = 9 := by rw [HE.out, decide_eq_false hp, if_pos hn]; rfl
                  go_wp2_with fail
                  go_roundw
                  case rel => exact ⟨m + 1, hlt, by go_num, HK6.out, HOut6.out, HO6.out⟩
                  case measure => simp [intOf]; omega
                · obtain rfl : E = 0 := by rw [HE.out, decide_eq_false hp, if_neg hn]; rfl
                  have hBr : Below w.heap.size w w6 := HB2.out.trans ((HOut6.out.below hBT).mono hBw)
                  obtain ⟨ad, hA1, hab, hcl⟩ := (R1.out.below hBr).at_ m (by simp; omega)
                  subst hA1
                  obtain ⟨dm, hdm⟩ : ∃ d, d = l1.getD m 0 := ⟨_, rfl⟩
                  have q4 : w6.cell? (ad.add m) = some (.int .i64 dm) := by
                    rw [hcl, hdm]
                    simp [List.getD_eq_getElem?_getD, List.getElem?_eq_getElem (show m < l1.length by omega)]
                  obtain ⟨dv, hdv⟩ : ∃ d, d = (oc l1 m).dev := ⟨_, rfl⟩
                  have q5 : bits .and .i64 dm 15 = (dv : Int) := by rw [hdm, hdv]; exact (oc_dev l1 m).2.symm
                  have hA' : ArrV w6 w5.heap.size [.int .i64 (dv : Int), .int .u64 (m : Int), .int .u64 ((m : Int) + 1), .int .i64 (100 * ((m : Int) + 1))] := by
                    have h := HA.out
                    rw [HCC.out, decide_eq_false hp, if_neg hn, if_neg (by decide)] at h
                    rw [hdv]
                    exact h
                  have q0 := hA'.atSome (i := 0) rfl
                  have q1 := hA'.atSome (i := 1) rfl
                  have q2 := hA'.atSome (i := 2) rfl
                  have q3 := hA'.atSome (i := 3) rfl
                  have hI : (m : Int) < (j : Int) := by omega
                  have hm10 : (m : Int) ≤ 10 := by omega
                  have hm00 : (0 : Int) ≤ (m : Int) := by omega
                  clear hdm hdv hA' hcl hBr
                  go_upto_region 25 with fail
                  go_quiet (fail)
                  go_wp2_with fail
                  go_roundw
                  case rel => exact ⟨m + 1, hlt, by go_num, HK6.out.grew (Grew.drewN w6 _), HOut6.out.grew (Grew.drewN w6 _), HO6.out.drewN _⟩
                  case measure => simp [intOf]; omega
            · have e : m = j := by omega
              subst e
              have hI : ¬ (m : Int) < (m : Int) := by omega
              have hm10 : (m : Int) ≤ 10 := by omega
              go_wp2_with (first
                | (go_at_call 33; refine (keep_issued _ _ _ _ _ _ _ _ _ HK.out).mono ?_; rintro e wx ⟨rfl, rfl⟩)
                | (go_at_call 37; refine (keep_asked _ _ _ _ _ _ _ _ _ HK.out).mono ?_; rintro e wx ⟨rfl, rfl⟩))
              go_ret
              exact ⟨rfl, HB2.out.trans ((HOut.out.below hBT).mono hBw)⟩
        · have q1 : (0 : Int) ≤ a2 := by omega
          have q2 : ¬ a2 < (j : Int) := by omega
          go_upto_region 21 with fail
          have HKr := Lib.hid HK.out
          have HOutr := Lib.hid HOut.out
          have HOr := Lib.hid HO.out
          obtain ⟨rv, hrv⟩ : ∃ r : Nat → Bool, r = (fun _ => false) := ⟨_, rfl⟩
          have HREV := Lib.hid (show ∀ i : Nat, i < j → rv (i + 1) = decide ((i : Int) = a2) from fun i hi => by
            rw [hrv, Bool.eq_iff_iff, decide_eq_true_iff]
            simp
            omega)
          rw [← hrv] at HKr
          clear hrv hI hpk
          clear q1 q2 hneg
          clear HK HOut HO HREVS
          go_wp2_with fail
          go_loopw [15] (fun i wy => ∃ m : Nat, m ≤ j ∧ i = .int .i64 (m : Int) ∧ Keep wy B T g l0 j m rv 0 ∧ Out B T w2 wy ∧ Own wy T 9 1 A j c (ostrs l0 l1 j)) (fun i _ => j - (intOf i).toNat)
          case atStart => exact ⟨0, Nat.zero_le _, rfl, HKr.out, HOutr.out, HOr.out⟩
          case round =>
            obtain ⟨wl, rfl⟩ : ∃ x : World, x = wr := ⟨_, rfl⟩
            obtain ⟨m, hm, rfl, hK, hOut, hO⟩ := hrel
            have HK := Lib.hid hK
            have HOut := Lib.hid hOut
            have HO := Lib.hid hO
            clear hK hOut hO HKr HOutr HOr
            by_cases hlt : m < j
            · obtain ⟨gs, os, hA⟩ := HO.out.isSome (by omega)
              subst hA
              have hcell := HO.out.cellAt (ostrs_at l0 l1 hlt)
              have hV := once_verify B T g l0 l1 j rv 0 m m a3 wl hlt (by omega) (by omega) (by omega) HK.out
              obtain ⟨TM, hTM⟩ : ∃ t, t = otok l0 l1 m := ⟨_, rfl⟩
              rw [← hTM] at hcell hV
              rw [HREV.out m hlt] at hV
              obtain ⟨CC, hCC⟩ : ∃ C, C = clv (if decide ((m : Int) = a2) = true then AuthP.none0 else if (100 * ((m : Int) + 1)) ≤ a3 then AuthP.none0 else oc l1 m) := ⟨_, rfl⟩
              obtain ⟨E, hE⟩ : ∃ E : Int, E = (if decide ((m : Int) = a2) = true then 10 else if (100 * ((m : Int) + 1)) ≤ a3 then 9 else 0) := ⟨_, rfl⟩
              rw [← hCC, ← hE] at hV
              have HCl := Lib.hid (show CC.length = 4 ∧ ∀ v ∈ CC, v.oneCell' = true by rw [hCC]; exact ⟨rfl, one_clv _⟩)
              have HV := Lib.hid hV
              have HE := Lib.hid hE
              have HCC := Lib.hid hCC
              have hI : (m : Int) < (j : Int) := by omega
              clear hTM hV hE hCC
              go_upto_region 27 with (first
                | (go_at_call 35; refine HV.out.mono ?_; rintro e w5 ⟨rfl, hK, hO5⟩; have HST := Lib.hid (boxedC_store w5 CC HCl.out.1 HCl.out.2))
                | (refine wpList_value (o := ⟨some 16, _, _, _, _, _⟩) (v := .pointer (some ⟨w5.heap.size, 0, none⟩)) (w' := w5.alloc (.cells #[.int .i64 0, .int .u64 0, .int .u64 0, .int .i64 0] 50)) rfl (by kernel_rfl) ?_)
                | (refine wpList_store_mid rfl 50 (.tmp 16) (.tmp 107) rfl w5.heap.size 0 CC.toArray rfl rfl HST.out.1 HST.out.2.1 HST.out.2.2.1 ?_; rw [show (w5.alloc (.cells #[.int .i64 0, .int .u64 0, .int .u64 0, .int .i64 0] 50)).setCells w5.heap.size 0 CC.toArray.toList = boxedC w5 CC from by rw [List.toList_toArray]; rfl]))
              have hg6 := boxedC_grew w5 CC
              have HK6 := Lib.hid (hK.grew hg6)
              have HOut6 := Lib.hid ((HOut.out.trans hO5).grew hg6)
              have HO6 := Lib.hid ((HO.out.out hO5).grew hg6)
              have HA := Lib.hid HST.out.2.2.2
              obtain ⟨w6, hw6⟩ : ∃ x, x = boxedC w5 CC := ⟨_, rfl⟩
              rw [← hw6] at HK6 HOut6 HO6 HA ⊢
              clear hw6 hg6 hK hO5 HST HK HOut HO hcell HV hI
              by_cases hp : (m : Int) = a2
              · obtain rfl : E = 10 := by rw [HE.out, decide_eq_true hp]; rfl
                go_wp2_with fail
                go_roundw
                case rel => exact ⟨m + 1, hlt, by go_num, HK6.out, HOut6.out, HO6.out⟩
                case measure => simp [intOf]; omega
              · by_cases hn : 100 * ((m : Int) + 1) ≤ a3
                · obtain rfl : E = 9 := by rw [HE.out, decide_eq_false hp, if_pos hn]; rfl
                  go_wp2_with fail
                  go_roundw
                  case rel => exact ⟨m + 1, hlt, by go_num, HK6.out, HOut6.out, HO6.out⟩
                  case measure => simp [intOf]; omega
                · obtain rfl : E = 0 := by rw [HE.out, decide_eq_false hp, if_neg hn]; rfl
                  have hBr : Below w.heap.size w w6 := HB2.out.trans ((HOut6.out.below hBT).mono hBw)
                  obtain ⟨ad, hA1, hab, hcl⟩ := (R1.out.below hBr).at_ m (by simp; omega)
                  subst hA1
                  obtain ⟨dm, hdm⟩ : ∃ d, d = l1.getD m 0 := ⟨_, rfl⟩
                  have q4 : w6.cell? (ad.add m) = some (.int .i64 dm) := by
                    rw [hcl, hdm]
                    simp [List.getD_eq_getElem?_getD, List.getElem?_eq_getElem (show m < l1.length by omega)]
                  obtain ⟨dv, hdv⟩ : ∃ d, d = (oc l1 m).dev := ⟨_, rfl⟩
                  have q5 : bits .and .i64 dm 15 = (dv : Int) := by rw [hdm, hdv]; exact (oc_dev l1 m).2.symm
                  have hA' : ArrV w6 w5.heap.size [.int .i64 (dv : Int), .int .u64 (m : Int), .int .u64 ((m : Int) + 1), .int .i64 (100 * ((m : Int) + 1))] := by
                    have h := HA.out
                    rw [HCC.out, decide_eq_false hp, if_neg hn, if_neg (by decide)] at h
                    rw [hdv]
                    exact h
                  have q0 := hA'.atSome (i := 0) rfl
                  have q1 := hA'.atSome (i := 1) rfl
                  have q2 := hA'.atSome (i := 2) rfl
                  have q3 := hA'.atSome (i := 3) rfl
                  have hI : (m : Int) < (j : Int) := by omega
                  have hm10 : (m : Int) ≤ 10 := by omega
                  have hm00 : (0 : Int) ≤ (m : Int) := by omega
                  clear hdm hdv hA' hcl hBr
                  go_upto_region 25 with fail
                  go_quiet (fail)
                  go_wp2_with fail
                  go_roundw
                  case rel => exact ⟨m + 1, hlt, by go_num, HK6.out.grew (Grew.drewN w6 _), HOut6.out.grew (Grew.drewN w6 _), HO6.out.drewN _⟩
                  case measure => simp [intOf]; omega
            · have e : m = j := by omega
              subst e
              have hI : ¬ (m : Int) < (m : Int) := by omega
              have hm10 : (m : Int) ≤ 10 := by omega
              go_wp2_with (first
                | (go_at_call 33; refine (keep_issued _ _ _ _ _ _ _ _ _ HK.out).mono ?_; rintro e wx ⟨rfl, rfl⟩)
                | (go_at_call 37; refine (keep_asked _ _ _ _ _ _ _ _ _ HK.out).mono ?_; rintro e wx ⟨rfl, rfl⟩))
              go_ret
              exact ⟨rfl, HB2.out.trans ((HOut.out.below hBT).mono hBw)⟩
end Go.Proofs.Ytohgkadbajmphaa
namespace Go.Proofs.Ytohgkadbajmphaa.lawAuthOnce
open Go.ChangeShapes Go.WideShapes Go.ChangeAt Go.RowKit
open Go.ChangeMaps (open_string shut_string)
set_option linter.unusedVariables false
set_option maxRecDepth 100000 in
theorem contract (H : Type) (enc : TypeId × Value → H) (W : World) (base : Nat) (args : Array Value) (ds gs : List (DataW H)) (before : List MemPlace)
    (hval : ∀ (j : Nat) t v, Try.f13.params[j]? = some t → args[j]? = some v → Value.okWide Try.prog W .any base t v)
    (hW : DataW.Whole enc Try.prog Try.f13.params.toList Rows.authOnceSpec.vars false W args.toList ds gs before)
    (hsz : (DataW.weightsEach Try.prog (Try.f13.params.toList ++ Rows.authOnceSpec.plain.varTypes Try.prog) (ds ++ gs)).all (· ≤ reachBytes) = true) :
    Calls Try.prog 13 args W fun e W' => ∃ v, e = .returned v ∧ Rows.authOnceSpec.post enc Try.prog Try.f13 false true false false W args v W' := by
  have hW' := hW
  obtain ⟨p, q, hA0, hV, rfl, hfz, hnd⟩ := hW
  have hA : DataW.TrodAll enc Try.prog W 0 (fun _ => true) true Try.f13.params.toList args.toList ds p := hA0
  rw [Try.params13] at hA hval hsz
  obtain ⟨v0, vs0, d0, ds0, p0, q0, hargs, rfl, rfl, h0, r0⟩ := trodAll_cons hA
  obtain ⟨v1, vs1, d1, ds1, p1, q1, rfl, rfl, rfl, h1, r1⟩ := trodAll_cons r0
  obtain ⟨v2, vs2, d2, ds2, p2, q2, rfl, rfl, rfl, h2, r2⟩ := trodAll_cons r1
  obtain ⟨v3, vs3, d3, ds3, p3, q3, rfl, rfl, rfl, h3, r3⟩ := trodAll_cons r2
  obtain ⟨rfl, rfl, rfl⟩ := trodAll_nil r3
  obtain rfl : args = #[v0, v1, v2, v3] := by cases args; simp_all
  obtain ⟨rfl, rfl⟩ := trodVars_none hV
  obtain ⟨A0, n0, c0, rfl⟩ := okWide_slice Try.underlying31 (hval 0 31 v0 rfl rfl)
  have k0 := h0
  have lt0 : ∀ x ∈ p0, x.block < W.heap.size := by obtain ⟨m, hm⟩ := k0; exact DataW.trod_lt m _ _ _ hm
  obtain ⟨fuel0, hf0⟩ := h0
  obtain ⟨l0, b0, u0, hd0⟩ := open_bytes Try.underlying31 Try.underlying5 (by kernel_rfl) hf0
  have z0 : n0 * 1 ≤ 140737488351232 := by
    rcases hd0 with ⟨_, h⟩ | ⟨es, sp, h, hl⟩
    · omega
    · have hb : Try.prog.bytesOf 5 = 1 := by kernel_rfl
      have := sized_slice hsz (j := 0) (t := 31) (e := 5) (elems := es) (spare := sp) rfl (by simpa using h) Try.underlying31
      rw [hb] at this
      unfold reachBytes at this
      omega
  obtain ⟨A1, n1, c1, rfl⟩ := okWide_slice Try.underlying67 (hval 1 67 v1 rfl rfl)
  have k1 := h1
  have lt1 : ∀ x ∈ p1, x.block < W.heap.size := by obtain ⟨m, hm⟩ := k1; exact DataW.trod_lt m _ _ _ hm
  obtain ⟨fuel1, hf1⟩ := h1
  obtain ⟨l1, b1, u1, hd1⟩ := open_nums Try.underlying67 Try.underlying3 (by kernel_rfl) hf1
  have z1 : n1 * 8 ≤ 140737488351232 := by
    rcases hd1 with ⟨_, h⟩ | ⟨es, sp, h, hl⟩
    · omega
    · have hb : Try.prog.bytesOf 3 = 8 := by kernel_rfl
      have := sized_slice hsz (j := 1) (t := 67) (e := 3) (elems := es) (spare := sp) rfl (by simpa using h) Try.underlying67
      rw [hb] at this
      unfold reachBytes at this
      omega
  obtain ⟨a2, rfl, rfl, rfl, w2⟩ := open_int Try.underlying3 (hval 2 3 v2 rfl rfl) h2
  obtain ⟨a3, rfl, rfl, rfl, w3⟩ := open_int Try.underlying2 (hval 3 2 v3 rfl rfl) h3
  clear hA0
  refine (authOnce_walk A0 n0 c0 l0 A1 n1 c1 l1 a2 a3 W b0 z0 b1 z1 w2 w3).mono fun e W' ⟨he, bel⟩ => ?_
  subst he
  exact ⟨_, rfl, _, _, _, [], _, [], hW', trodAll_mk1 (shut_bool Try.underlying4 _), (trodAll_cons_mk (Below.trod laidOut (by kernel_rfl) (of_decide_eq_true (by kernel_rfl)) k0 bel lt0) (trodAll_cons_mk (Below.trod laidOut (by kernel_rfl) (of_decide_eq_true (by kernel_rfl)) k1 bel lt1) (trodAll_cons_mk (shut_int Try.underlying3 w2) (trodAll_cons_mk (shut_int Try.underlying3 w3) trodAll_mk0)))), rfl, bel.frame _, fun h => by cases h⟩
set_option maxRecDepth 100000 in
theorem lifted (os : Os) (started : os.Started) (H : Type) (enc : TypeId × Value → H) :
    ReturnsInHanded {} Try.checked os 13 .any (Rows.authOnceSpec.pre6 enc Try.prog Try.f13 Rows.authOnceRow.domain false) (Rows.authOnceSpec.post enc Try.prog Try.f13 false true false false) := by
  refine returnsInHanded_of_change_sized (C := Try.checked) ownKnob_none started (by kernel_rfl) Try.func13
    (ChangeSpec.witness6 (enc := enc) (C := Try.checked) false ⟨#[], #[.slice none 0 0, .slice none 0 0, .int .i64 0, .int .i64 0], []⟩ 8 (by kernel_rfl) (by kernel_rfl) (by kernel_rfl) (by kernel_rfl)) ?_
  intro W base args ds gs before hval hW _ hsz _
  exact contract H enc W base args ds gs before hval hW hsz
theorem over : Rows.authOnceRow.holds Try.pinned (OpenSpec.ofChange Rows.authOnceSpec) :=
  OpenClaim.holds_of_wide 13 Try.f13 rfl rfl rfl rfl rfl rfl rfl ⟨rfl, rfl, rfl, rfl, rfl⟩ rfl rfl rfl rfl rfl (by kernel_rfl) Try.func13 (by kernel_rfl)
    (of_decide_eq_true (by kernel_rfl)) (by unfold Func.isWrapper; first | (rw [if_pos (by decide +kernel)]; kernel_rfl) | (rw [if_neg (by decide +kernel)]; exact ⟨rfl, rfl⟩))
    (fun os started H enc _ => lifted os started H enc)
theorem proved : Rows.AuthOnceSaid := over
#print axioms proved
end Go.Proofs.Ytohgkadbajmphaa.lawAuthOnce
