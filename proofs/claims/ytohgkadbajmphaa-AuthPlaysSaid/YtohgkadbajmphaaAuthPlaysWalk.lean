/- The walk of rolodexlaw18.AuthPlays. -/
import Derived.Test.YtohgkadbajmphaaAuthE
import Derived.Deep.CutBlock
namespace Go.Proofs.Ytohgkadbajmphaa
open Go.RowKit
set_option linter.unusedVariables false
theorem act_at {W : World} {g : Nat} {x : Ac} (h : ArrV W g (acv x)) : W.cell? ⟨g, 0, none⟩ = some (.int .i64 x.op) ∧ W.cell? ⟨g, 1, none⟩ = some (.int .i64 x.dev) ∧ W.cell? ⟨g, 2, none⟩ = some (.int .i64 x.at_) ∧ W.cell? ⟨g, 3, none⟩ = some (.int .u64 (x.epoch : Int)) ∧ W.cell? ⟨g, 4, none⟩ = some (.int .i64 x.now) ∧ W.cell? ⟨g, 5, none⟩ = some (.int .i64 x.lasts) ∧ W.cell? ⟨g, 6, none⟩ = some (.int .i64 x.place) ∧ W.cell? ⟨g, 7, none⟩ = some (.int .u8 (x.byx : Int)) :=
  ⟨h.atSome (i := 0) rfl, h.atSome (i := 1) rfl, h.atSome (i := 2) rfl, h.atSome (i := 3) rfl, h.atSome (i := 4) rfl, h.atSome (i := 5) rfl, h.atSome (i := 6) rfl, h.atSome (i := 7) rfl⟩
set_option maxRecDepth 100000 in
set_option maxHeartbeats 8000000 in
theorem authPlays_walk (A0 : Option Addr) (n0 c0 : Nat) (l0 : List UInt8) (A1 : Option Addr) (n1 c1 : Nat) (l1 : List Ac) (A2 : Option Addr) (n2 c2 : Nat) (l2 : List UInt8) (w : World) (b0 : BytesIn w A0 n0 c0 l0) (z0 : n0 * 1 ≤ 140737488351232) (b1 : ActsIn w A1 n1 c1 l1) (z1 : n1 * 64 ≤ 140737488351232) (b2 : BytesIn w A2 n2 c2 l2) (z2 : n2 * 1 ≤ 140737488351232) :
    Calls Try.prog 11 #[.slice A0 n0 c0, .slice A1 n1 c1, .slice A2 n2 c2] w fun e w' => e = .returned (.bool true) ∧ Below w.heap.size w w' := by
  have S0 := Lib.hid (show Sl w w.heap.size A0 n0 c0 l0 from ⟨b0.len, b0.le, b0.max, b0.row⟩)
  have S2 := Lib.hid (show Sl w w.heap.size A2 n2 c2 l2 from ⟨b2.len, b2.le, b2.max, b2.row⟩)
  have R1 := Lib.hid b1.row
  have HF := Lib.hid b1.fine
  have hl1 := b1.len
  have hm1 := b1.le
  have hx1 := b1.max
  have hm0 := b0.le
  have hx0 := b0.max
  have hl0 := b0.len
  have hl2 := b2.len
  unfold maxLen at hx0 hx1
  clear b0 b1 b2 z0 z1 z2
  by_cases hall : ¬ (n0 ≤ 200 ∧ n2 ≤ 200 ∧ n1 ≤ 30)
  · have hI : (200 : Int) < (n0 : Int) ∨ (¬ (200 : Int) < (n0 : Int) ∧ (200 : Int) < (n2 : Int)) ∨ (¬ (200 : Int) < (n0 : Int) ∧ ¬ (200 : Int) < (n2 : Int) ∧ (30 : Int) < (n1 : Int)) := by omega
    clear hall
    go_enter Try.func11, Try.ntmps11
    go_upto_region 3 with (go_at_call 28; refine (awake18 w).mono ?_; rintro e w1 ⟨rfl, hB1⟩)
    rcases hI with i1 | ⟨i1, i2⟩ | ⟨i1, i2, i3⟩
    · go_wp2_with fail
      go_ret
      exact ⟨rfl, hB1⟩
    · go_wp2_with fail
      go_ret
      exact ⟨rfl, hB1⟩
    · go_wp2_with fail
      go_ret
      exact ⟨rfl, hB1⟩
  obtain ⟨h0, h2, h1⟩ := Classical.not_not.1 hall
  clear hall
  have i1 : ¬ (200 : Int) < (n0 : Int) := by omega
  have i2 : ¬ (200 : Int) < (n2 : Int) := by omega
  have i3 : ¬ (30 : Int) < (n1 : Int) := by omega
  have hmk : ∀ W : World, (Instr.makeSlice 57 (.int .i64 40) (.int .i64 40)).run Try.prog W = .ok (.slice (some ⟨W.heap.size, 0, none⟩) 40 40) (W.alloc (.cells (bvs fun _ => false).toArray 4)) := fun _ => by kernel_rfl
  have hbe : ∀ W : World, (Instr.buildSlice 31 0 #[]).run Try.prog W = .ok (.slice (some ⟨W.heap.size, 0, none⟩) 0 0) (W.alloc (.cells #[] 5)) := fun _ => by kernel_rfl
  go_enter Try.func11, Try.ntmps11
  go_upto_region 5 with (go_at_call 28; refine (awake18 w).mono ?_; rintro e w1 ⟨rfl, hB1⟩)
  have HB1 := Lib.hid (show Grew w w1 from hB1)
  clear hB1 i1 i2 i3
  have HE1 := Lib.hid (show OwnB (w1.alloc (.cells #[] 5)) w1.heap.size (some ⟨w1.heap.size, 0, none⟩) 0 0 [] from Own.made w1 #[] _ (0, 0) 1 0 0 [] (Nat.le_refl _) rfl (Nat.le_refl _) (Nat.zero_le _) (Nat.zero_le _) (.inr rfl) (fun j u hu => by simp at hu))
  have HS1 := Lib.hid (show Src Try.prog (w1.alloc (.cells #[] 5)) 1 (.slice A0 n0 c0) n0 (l0.map b8) from Src.slice (by rw [List.length_map, hl0, Nat.mul_one]) (S0.out.below (HB1.out.trans (grew_alloc w1 _))).2.2.2)
  go_upto_region 7 with (first
    | (at_builtin; refine wpList_app8 rfl (.tmp 34) (.tmp 35) 31 rfl (.inl ⟨_, Try.underlying31⟩) w1.heap.size _ 0 0 [] rfl HE1.out n0 l0 HS1.out (by omega) (by simp) ?_; intro A3 c3 w3 hO3 hg3 hB3 _; have HO3 := Lib.hid (show OwnB w3 w1.heap.size A3 n0 c3 l0 by simpa using hO3); have HG3 := Lib.hid (show Grew w1 w3 from Below.trans (grew_alloc w1 _) hB3); have HNew := Lib.hid (auth_new A3 n0 c3 w3.heap.size l0 w3 HO3.out.sl (Nat.le_refl _) (by omega)); clear hO3 hg3 hB3)
    | (go_at_call 29; refine HNew.out.mono ?_; rintro e w4 ⟨g, rfl, hK, hg⟩; have HK4 := Lib.hid hK; have HG4 := Lib.hid hg; clear hK hg))
  obtain ⟨w5, hw5⟩ : ∃ W, W = w4.alloc (.cells (bvs fun _ => false).toArray 4) := ⟨_, rfl⟩
  obtain ⟨gR, hgR⟩ : ∃ b, b = w4.heap.size := ⟨_, rfl⟩
  obtain ⟨B, hB⟩ : ∃ B, B = w3.heap.size := ⟨_, rfl⟩
  obtain ⟨T, hT⟩ : ∃ T, T = w4.heap.size := ⟨_, rfl⟩
  rw [← hB, ← hT] at HK4
  have hwB : w.heap.size ≤ B := by rw [hB]; exact Nat.le_trans HB1.out.size HG3.out.size
  have HG45 := Lib.hid (show Grew w4 w5 by rw [hw5]; exact grew_alloc w4 _)
  have HRv := Lib.hid (show Own w5 T 4 1 (some ⟨gR, 0, none⟩) 40 40 (bvs fun _ => false) by
    rw [hw5, hgR, hT]
    exact Own.made w4 _ _ (0, 0) 1 40 40 _ (Nat.le_refl _) (bvs_len _) (Nat.le_refl _) (by unfold maxLen; omega) (by rw [List.size_toArray, bvs_len]; omega) (.inr rfl) (fun j u hu => by simpa using hu))
  have HGw5 := Lib.hid (HB1.out.trans (HG3.out.trans (HG4.out.trans HG45.out)))
  have HP5 := Lib.hid (show PlS w4 B T g gR l0 [] none 0 0 (fun _ => false) 0 w5 from ⟨Own.nil _ _ _ _, HRv.out, HK4.out.grew HG45.out, (Out.refl _ _ _).grew HG45.out, fun t h => by cases h⟩)
  have HBT := Lib.hid (show B ≤ w4.heap.size ∧ T ≤ w4.heap.size by rw [hB, hT]; exact ⟨HG4.out.size, Nat.le_refl _⟩)
  have HTq := Lib.hid (show w4.heap.size = T from hT.symm)
  have HGw4 := Lib.hid (HB1.out.trans (HG3.out.trans HG4.out))
  have HW5 := Lib.hid (And.intro hw5 hgR)
  clear hw5 hgR hB hT HNew HE1 HS1 HK4 HRv
  go_upto_region 8 with fail
  rw [← HW5.out.1, ← HW5.out.2]
  clear hmk hbe
  go_wp2_with fail
  go_loopw [8, 10, 11] (fun f a i wy => ∃ (k : Nat) (ts : List (List UInt8)) (A : Option Addr) (c asked : Nat) (rev : Nat → Bool) (kk : Nat), k ≤ n1 ∧ i = .int .i64 (k : Int) ∧ f = .slice A ts.length c ∧ a = .int .u64 (asked : Int) ∧ ts.length ≤ k ∧ asked ≤ k ∧ kk ≤ k ∧ PlS w4 B T g gR l0 ts A c asked rev kk wy) (fun _ _ i _ => n1 - (intOf i).toNat)
  case atStart => exact ⟨0, [], none, 0, 0, _, 0, Nat.zero_le _, rfl, rfl, rfl, Nat.le_refl _, Nat.le_refl _, Nat.le_refl _, HP5.out⟩
  case round =>
    obtain ⟨k, ts, A, c, asked, rev, kk, hk, rfl, rfl, rfl, htk, hak, hkk, hP⟩ := hrel
    have HP := Lib.hid hP
    clear hP
    have i0 : (0 : Int) ≤ (k : Int) := by omega
    by_cases hlt : k < n1
    · obtain ⟨x, hx⟩ : ∃ x, l1[k]? = some x := ⟨_, List.getElem?_eq_getElem (by omega)⟩
      have HFx := Lib.hid (HF.out x (List.mem_of_getElem? hx))
      have HBr := Lib.hid (show Below w.heap.size w wr from (show Below w.heap.size w w4 from HGw4.out).trans ((HP.out.out.below HBT.out.1).mono hwB))
      obtain ⟨g1, o1, rfl, hab, hcs⟩ := acts_at (R1.out.below HBr.out) hx
      have q0 := hcs 0 _ rfl
      have q1 := hcs 1 _ rfl
      have q2 := hcs 2 _ rfl
      have q3 := hcs 3 _ rfl
      have q4 := hcs 4 _ rfl
      have q5 := hcs 5 _ rfl
      have q6 := hcs 6 _ rfl
      have q7 := hcs 7 _ rfl
      simp only [Nat.add_zero] at q0
      have i3 : (k : Int) < (n1 : Int) := by omega
      clear hcs hx hab
      obtain ⟨wa, hwa⟩ : ∃ W, W = wr.alloc (.cells #[.int .i64 x.op, .int .i64 x.dev, .int .i64 x.at_, .int .u64 (x.epoch : Int), .int .i64 x.now, .int .i64 x.lasts, .int .i64 x.place, .int .u8 (x.byx : Int)] 59) := ⟨_, rfl⟩
      obtain ⟨b12, hb12⟩ : ∃ b, b = wr.heap.size := ⟨_, rfl⟩
      have HA := Lib.hid (show ArrV wa b12 (acv x) by rw [hwa, hb12]; exact ArrV.made wr _ _)
      have HGa := Lib.hid (show Grew wr wa by rw [hwa]; exact grew_alloc wr _)
      have HPa := Lib.hid (HP.out.grew HGa.out)
      have Hb12 := Lib.hid (show T ≤ b12 by rw [hb12]; exact Nat.le_trans HBT.out.2 HP.out.out.size)
      go_upto_region 13 with fail
      rw [← hwa, ← hb12]
      clear hwa hb12 q0 q1 q2 q3 q4 q5 q6 q7
      obtain ⟨q0, q1, q2, q3, q4, q5, q6, q7⟩ := act_at HA.out
      go_upto_block 2 with fail
      go_cut [8, 10, 13, 14, 15, 16, 17, 18] from 39 to 236 (fun f a _ _ _ _ _ _ wy => ∃ (ts' : List (List UInt8)) (A' : Option Addr) (c' asked' : Nat) (rev' : Nat → Bool) (kk' : Nat), f = .slice A' ts'.length c' ∧ a = .int .u64 (asked' : Int) ∧ ts'.length ≤ k + 1 ∧ asked' ≤ k + 1 ∧ kk' ≤ k + 1 ∧ PlS w4 B T g gR l0 ts' A' c' asked' rev' kk' wy)
      case first =>
        by_cases hop : x.op = 0
        · have ho : (x.op == 0) = true := by simp [hop]
          clear hop
          by_cases hv : 0 ≤ x.dev ∧ x.dev < 16 ∧ x.epoch ≤ 1099511627776 ∧ 0 ≤ x.now ∧ x.now ≤ 1152921504606846976 ∧ 1 ≤ x.lasts ∧ x.lasts ≤ 1152921504606846976
          · as_aux_lemma =>
              obtain ⟨cl, hcl⟩ : ∃ c : AuthP.Cl, c = ⟨x.dev.toNat, x.epoch, ts.length + 1, (x.now + x.lasts).toNat⟩ := ⟨_, rfl⟩
              have HIs := Lib.hid (issue_yes B T g l0 ts.length asked rev kk x.dev x.epoch x.now x.lasts wa HPa.out.keep (by omega) (by omega) hv cl hcl)
              obtain ⟨v1, v2, v3, v4, v5, v6, v7⟩ := hv
              have e64 := two64_eq
              have hgood : AuthP.good cl := by rw [hcl]; exact ⟨by show x.dev.toNat ≤ 15; omega, v3, by show 1 ≤ ts.length + 1; omega, by show ts.length + 1 < two64; omega, by show 1 ≤ (x.now + x.lasts).toNat; omega, by show (x.now + x.lasts).toNat ≤ _; omega⟩
              have hc1 : (cl.dev : Int) = x.dev := by rw [hcl]; show ((x.dev.toNat : Nat) : Int) = _; omega
              have hc2 : (cl.epoch : Int) = (x.epoch : Int) := by rw [hcl]
              have hc3 : (cl.num : Int) = (ts.length : Int) + 1 := by rw [hcl]; show ((ts.length + 1 : Nat) : Int) = _; omega
              have hc4 : (cl.over : Int) = x.now + x.lasts := by rw [hcl]; show (((x.now + x.lasts).toNat : Nat) : Int) = _; omega
              obtain ⟨TK, hTK⟩ : ∃ t, t = AuthP.tok l0 cl := ⟨_, rfl⟩
              have hTl : TK.length ≤ 150 := by rw [hTK]; exact tok_len _ _
              have HTok := Lib.hid (fun W (hW : Below w.heap.size w W) => show Calls Try.prog 34 #[.slice A0 n0 c0, .agg #[.int .i64 x.dev, .int .u64 (x.epoch : Int), .int .u64 ((ts.length : Int) + 1), .int .i64 (x.now + x.lasts)]] W fun e w' => e = .returned (.string ⟨TK.toArray⟩) ∧ Grew W w' from by
                have := law_token A0 n0 c0 w.heap.size l0 cl W (S0.out.below hW) hW.size (by omega) hgood
                rw [hc1, hc2, hc3, hc4, ← hTK] at this
                exact this)
              rw [← hTK] at HIs
              have HTl := Lib.hid hTl
              have hw1 : IntKind.u64.wrap ((ts.length : Int) + 1) = (ts.length : Int) + 1 := wrap_u64i (by omega) (by omega)
              have u1 : ¬ x.dev < 0 := by omega
              have u2 : ¬ (16 : Int) ≤ x.dev := by omega
              have u3 : ¬ (1099511627776 : Int) < (x.epoch : Int) := by omega
              have u4 : ¬ x.now < 0 := by omega
              have u5 : ¬ (1152921504606846976 : Int) < x.now := by omega
              have u6 : ¬ x.lasts < 1 := by omega
              have u7 : ¬ (1152921504606846976 : Int) < x.lasts := by omega
              clear hcl hTK hgood hc1 hc2 hc3 hc4 e64 hTl v1 v2 v3
              go_upto_region 23 with (go_at_call 30; refine HIs.out.mono ?_; rintro e w3 ⟨rfl, hK, hO3⟩; have HK3 := Lib.hid hK; have HO3 := Lib.hid hO3; clear hK hO3)
              clear q0 q1 q2 q3 q4 q5 q6 q7
              have HB3 := Lib.hid (show Below w.heap.size w w3 from (HBr.out.trans (HGa.out.mono HBr.out.size)).trans ((HO3.out.below (Nat.le_trans HBT.out.1 (Nat.le_trans HP.out.out.size HGa.out.size))).mono hwB))
              obtain ⟨q0, q1, q2, q3, q4, q5, q6, q7⟩ := act_at (HO3.out.arr HA.out Hb12.out)
              go_upto_region 28 with (go_at_call 34; refine (HTok.out _ HB3.out).mono ?_; rintro e w6 ⟨rfl, hG⟩; have HG6 := Lib.hid hG; clear hG)
              clear q0 q1 q2 q3 q4 q5 q6 q7 hw1 u1 u2 u3 u4 u5 u6 u7
              have HT6 := Lib.hid (((HPa.out.toks.out HO3.out).below_all HG6.out).alloc (.cells #[.string ⟨TK.toArray⟩] 9))
              have hT6 : T ≤ w6.heap.size := Nat.le_trans HK3.out.lt.2.2.1 HG6.out.size
              go_wp2_with (at_builtin; refine wpList_appn1 rfl (.tmp 150) (.tmp 152) 56 9 (.string ⟨#[]⟩) 16 rfl Try.underlying56 info_string rfl (by omega) T _ _ _ _ rfl HT6.out 1 [.string ⟨TK.toArray⟩] (Src.slice rfl (Row.new _ _ _ _ (w6.heap.size + 1) _ rfl (by omega) _ rfl)) (one_ostr TK) (ts.length + 1) rfl (tvs (ts ++ [TK])) (by simp [tvs]) (by omega) (by simp; omega) ?_; intro A7 c7 w7 hO7 hg7 hB7 hor7; have HP7 := Lib.hid (PlS.push HTq.out ((HPa.out.toks.out HO3.out).below_all HG6.out) ((HPa.out.revs.out HO3.out).below_all HG6.out) (HK3.out.grew HG6.out) ((HPa.out.out.trans HO3.out).grew HG6.out) HPa.out.small HTl.out hO7 hg7); clear hO7 hg7 hB7 hor7)
              go_meet
              case rel => exact ⟨ts ++ [TK], A7, c7, asked, rev, kk, by simp, rfl, by simp; omega, by omega, by omega, HP7.out⟩
          · as_aux_lemma =>
              have HIs := Lib.hid (issue_no g x.dev x.epoch x.now x.lasts wa hv)
              have hq : x.dev < 0 ∨ ¬ x.dev < 0 ∧ (16 : Int) ≤ x.dev ∨ ¬ x.dev < 0 ∧ ¬ (16 : Int) ≤ x.dev ∧ (1099511627776 : Int) < (x.epoch : Int) ∨ ¬ x.dev < 0 ∧ ¬ (16 : Int) ≤ x.dev ∧ ¬ (1099511627776 : Int) < (x.epoch : Int) ∧ x.now < 0 ∨ ¬ x.dev < 0 ∧ ¬ (16 : Int) ≤ x.dev ∧ ¬ (1099511627776 : Int) < (x.epoch : Int) ∧ ¬ x.now < 0 ∧ (1152921504606846976 : Int) < x.now ∨ ¬ x.dev < 0 ∧ ¬ (16 : Int) ≤ x.dev ∧ ¬ (1099511627776 : Int) < (x.epoch : Int) ∧ ¬ x.now < 0 ∧ ¬ (1152921504606846976 : Int) < x.now ∧ x.lasts < 1 ∨ ¬ x.dev < 0 ∧ ¬ (16 : Int) ≤ x.dev ∧ ¬ (1099511627776 : Int) < (x.epoch : Int) ∧ ¬ x.now < 0 ∧ ¬ (1152921504606846976 : Int) < x.now ∧ ¬ x.lasts < 1 ∧ (1152921504606846976 : Int) < x.lasts := by omega
              have HQ := Lib.hid hq
              clear hv hq
              go_upto_region 23 with (go_at_call 30; refine HIs.out.mono ?_; rintro e w3 ⟨rfl, rfl⟩)
              rcases HQ.out with u1 | ⟨u1, u2⟩ | ⟨u1, u2, u3⟩ | ⟨u1, u2, u3, u4⟩ | ⟨u1, u2, u3, u4, u5⟩ | ⟨u1, u2, u3, u4, u5, u6⟩ | ⟨u1, u2, u3, u4, u5, u6, u7⟩
              all_goals
                go_wp2_with fail
                go_meet
                case rel => exact ⟨ts, A, c, asked, rev, kk, rfl, rfl, by omega, by omega, by omega, HPa.out⟩
        · have ho : (x.op == 0) = false := by simpa using hop
          clear hop
          by_cases hop1 : x.op = 1
          · have ho1 : (x.op == 1) = true := by simp [hop1]
            clear hop1
            obtain ⟨OT, hOT⟩ : ∃ t, t = AuthP.tok l2 ⟨1, 0, 1, 1125899906842624⟩ := ⟨_, rfl⟩
            have HOTl := Lib.hid (show OT.length ≤ 150 by rw [hOT]; exact tok_len _ _)
            have HTok := Lib.hid (fun W (hW : Below w.heap.size w W) => show Calls Try.prog 34 #[.slice A2 n2 c2, .agg #[.int .i64 1, .int .u64 0, .int .u64 1, .int .i64 1125899906842624]] W fun e w' => e = .returned (.string ⟨OT.toArray⟩) ∧ Grew W w' from by
              rw [hOT]
              exact law_token A2 n2 c2 w.heap.size l2 ⟨1, 0, 1, 1125899906842624⟩ W (S2.out.below hW) hW.size (by omega) ⟨by decide, by decide, by decide, by unfold two64; decide, by decide, by decide⟩)
            have HBa := Lib.hid (HBr.out.trans (HGa.out.mono HBr.out.size))
            clear hOT
            go_upto_region 31 with (go_at_call 34; refine (HTok.out _ HBa.out).mono ?_; rintro e w3 ⟨rfl, hG⟩; have HGa3 := Lib.hid hG; clear hG)
            clear q0 q1 q2 q3 q4 q5 q6 q7
            have HA3 := Lib.hid (HA.out.grew HGa3.out)
            have HP3 := Lib.hid (HPa.out.grew HGa3.out)
            obtain ⟨q0, q1, q2, q3, q4, q5, q6, q7⟩ := act_at HA3.out
            have HAt := Lib.hid (show x.at_ < 0 ∨ (¬ x.at_ < 0 ∧ (ts.length : Int) ≤ x.at_) ∨ ∃ (p : Nat) (t : List UInt8), x.at_ = (p : Int) ∧ ts[p]? = some t by
              by_cases h1 : x.at_ < 0
              · exact .inl h1
              · by_cases h2 : (ts.length : Int) ≤ x.at_
                · exact .inr (.inl ⟨h1, h2⟩)
                · exact .inr (.inr ⟨x.at_.toNat, _, by omega, List.getElem?_eq_getElem (by omega)⟩))
            rcases HAt.out with u1 | ⟨u1, u2⟩ | ⟨p, t, hp, ht⟩
            case' inl =>
              go_upto_region 33 with fail
              clear u1
              obtain ⟨t, ht⟩ : ∃ t, t = OT := ⟨_, rfl⟩
              rw [← ht]
              have Htl := Lib.hid (show t.length ≤ 150 by rw [ht]; exact HOTl.out)
              clear ht
            case' inr.inl =>
              go_upto_region 33 with fail
              clear u1 u2
              obtain ⟨t, ht⟩ : ∃ t, t = OT := ⟨_, rfl⟩
              rw [← ht]
              have Htl := Lib.hid (show t.length ≤ 150 by rw [ht]; exact HOTl.out)
              clear ht
            case' inr.inr =>
              have Htl := Lib.hid (HP3.out.small t (List.mem_of_getElem? ht))
              have hpl : p < ts.length := (List.getElem?_eq_some_iff.1 ht).1
              obtain ⟨gs, os, hA⟩ := HP3.out.toks.isSome (by omega)
              subst hA
              have tcell := HP3.out.toks.cellAt (tvs_at ht)
              have hp5 : (p : Int) < (ts.length : Int) := by omega
              have hp0 : (0 : Int) ≤ (p : Int) := by omega
              have HPp := Lib.hid hp
              rw [hp] at q2
              clear hp ht
              go_upto_region 33 with fail
              clear tcell hp5 hp0 hpl
            all_goals
              have HPl := Lib.hid (show x.place < 0 ∨ (¬ x.place < 0 ∧ (t.length : Int) ≤ x.place) ∨ ∃ (p2 : Nat) (y : UInt8), x.place = (p2 : Int) ∧ t[p2]? = some y by
                by_cases h1 : x.place < 0
                · exact .inl h1
                · by_cases h2 : (t.length : Int) ≤ x.place
                  · exact .inr (.inl ⟨h1, h2⟩)
                  · exact .inr (.inr ⟨x.place.toNat, _, by omega, List.getElem?_eq_getElem (by omega)⟩))
              have hsz : (⟨t.toArray⟩ : ByteArray).size = t.length := by show t.toArray.size = _; simp
              rcases HPl.out with u4 | ⟨u4, u5⟩ | ⟨p2, y, hp2, hy⟩
              · as_aux_lemma =>
                  go_upto_region 35 with fail
                  clear u4 hsz
                  obtain ⟨CV, hCV⟩ : ∃ C, C = AuthP.verifyC l0 ts.length rev t x.now := ⟨_, rfl⟩
                  obtain ⟨EV, hEV⟩ : ∃ E, E = AuthP.verifyE l0 ts.length rev t x.now := ⟨_, rfl⟩
                  have HCV := Lib.hid (And.intro hCV.symm hEV.symm)
                  have HVf : Hid (Calls Try.prog 35 #[.pointer (some ⟨g, 0, none⟩), .string ⟨t.toArray⟩, .int .i64 x.now] w3 fun e w' => e = .returned (.tuple #[.agg #[.int .i64 (CV.dev : Int), .int .u64 (CV.epoch : Int), .int .u64 (CV.num : Int), .int .i64 (CV.over : Int)], .int .i64 EV]) ∧ Keep w' B T g l0 ts.length (asked + 1) rev kk ∧ Out B T w3 w') := Lib.hid (by
                    have := keep_verify B T g l0 ts.length asked rev kk t x.now w3 HP3.out.keep (by omega) (by omega) (by omega) (by have := Htl.out; omega)
                    rw [← hCV, ← hEV] at this
                    exact this)
                  clear hCV hEV
                  go_upto_region 36 with (go_at_call 35; refine HVf.out.mono ?_; rintro e w8 ⟨rfl, hK, hO8⟩; have HK8 := Lib.hid hK; have HO8 := Lib.hid hO8; clear hK hO8)
                  clear q0 q1 q2 q3 q4 q5 q6 q7
                  obtain ⟨w9, hw9⟩ : ∃ W, W = w8.alloc (.cells #[.int .i64 (CV.dev : Int), .int .u64 (CV.epoch : Int), .int .u64 (CV.num : Int), .int .i64 (CV.over : Int)] 50) := ⟨_, rfl⟩
                  obtain ⟨b16, hb16⟩ : ∃ b, b = w8.heap.size := ⟨_, rfl⟩
                  have HG89 := Lib.hid (show Grew w8 w9 by rw [hw9]; exact grew_alloc w8 _)
                  have HA16 := Lib.hid (show ArrV w9 b16 (clv CV) by rw [hw9, hb16]; exact claim_made w8 CV)
                  have HP9 := Lib.hid ((HP3.out.called HO8.out HK8.out).grew HG89.out)
                  have HB9 := Lib.hid (show Below w.heap.size w w9 from (show Below w.heap.size w w4 from HGw4.out).trans ((HP9.out.out.below HBT.out.1).mono hwB))
                  rw [← hw9, ← hb16]
                  clear hw9 hb16
                  obtain ⟨q0, q1, q2, q3, q4, q5, q6, q7⟩ := act_at ((HO8.out.arr HA3.out Hb12.out).grew HG89.out)
                  obtain ⟨r0, r1, r2, r3⟩ := claim_cells HA16.out
                  have HVd := Lib.hid (law_verified t l0 A0 n0 c0 gR rev ts.length x.now CV EV w9 HCV.out.1 HCV.out.2 ((S0.out.below HB9.out).more HB9.out.size) (by omega) (by have := Htl.out; omega) HP9.out.row (by omega))
                  go_wp2_with (go_at_call 36; refine HVd.out.mono ?_; rintro e w10 ⟨rfl, hG⟩; have HG10 := Lib.hid hG; clear hG)
                  go_meet
                  case rel => exact ⟨ts, _, c, asked + 1, rev, kk, rfl, by go_num, by omega, by omega, by omega, HP9.out.grew HG10.out⟩
              · as_aux_lemma =>
                  go_upto_region 35 with fail
                  clear u4 u5 hsz
                  obtain ⟨CV, hCV⟩ : ∃ C, C = AuthP.verifyC l0 ts.length rev t x.now := ⟨_, rfl⟩
                  obtain ⟨EV, hEV⟩ : ∃ E, E = AuthP.verifyE l0 ts.length rev t x.now := ⟨_, rfl⟩
                  have HCV := Lib.hid (And.intro hCV.symm hEV.symm)
                  have HVf : Hid (Calls Try.prog 35 #[.pointer (some ⟨g, 0, none⟩), .string ⟨t.toArray⟩, .int .i64 x.now] w3 fun e w' => e = .returned (.tuple #[.agg #[.int .i64 (CV.dev : Int), .int .u64 (CV.epoch : Int), .int .u64 (CV.num : Int), .int .i64 (CV.over : Int)], .int .i64 EV]) ∧ Keep w' B T g l0 ts.length (asked + 1) rev kk ∧ Out B T w3 w') := Lib.hid (by
                    have := keep_verify B T g l0 ts.length asked rev kk t x.now w3 HP3.out.keep (by omega) (by omega) (by omega) (by have := Htl.out; omega)
                    rw [← hCV, ← hEV] at this
                    exact this)
                  clear hCV hEV
                  go_upto_region 36 with (go_at_call 35; refine HVf.out.mono ?_; rintro e w8 ⟨rfl, hK, hO8⟩; have HK8 := Lib.hid hK; have HO8 := Lib.hid hO8; clear hK hO8)
                  clear q0 q1 q2 q3 q4 q5 q6 q7
                  obtain ⟨w9, hw9⟩ : ∃ W, W = w8.alloc (.cells #[.int .i64 (CV.dev : Int), .int .u64 (CV.epoch : Int), .int .u64 (CV.num : Int), .int .i64 (CV.over : Int)] 50) := ⟨_, rfl⟩
                  obtain ⟨b16, hb16⟩ : ∃ b, b = w8.heap.size := ⟨_, rfl⟩
                  have HG89 := Lib.hid (show Grew w8 w9 by rw [hw9]; exact grew_alloc w8 _)
                  have HA16 := Lib.hid (show ArrV w9 b16 (clv CV) by rw [hw9, hb16]; exact claim_made w8 CV)
                  have HP9 := Lib.hid ((HP3.out.called HO8.out HK8.out).grew HG89.out)
                  have HB9 := Lib.hid (show Below w.heap.size w w9 from (show Below w.heap.size w w4 from HGw4.out).trans ((HP9.out.out.below HBT.out.1).mono hwB))
                  rw [← hw9, ← hb16]
                  clear hw9 hb16
                  obtain ⟨q0, q1, q2, q3, q4, q5, q6, q7⟩ := act_at ((HO8.out.arr HA3.out Hb12.out).grew HG89.out)
                  obtain ⟨r0, r1, r2, r3⟩ := claim_cells HA16.out
                  have HVd := Lib.hid (law_verified t l0 A0 n0 c0 gR rev ts.length x.now CV EV w9 HCV.out.1 HCV.out.2 ((S0.out.below HB9.out).more HB9.out.size) (by omega) (by have := Htl.out; omega) HP9.out.row (by omega))
                  go_wp2_with (go_at_call 36; refine HVd.out.mono ?_; rintro e w10 ⟨rfl, hG⟩; have HG10 := Lib.hid hG; clear hG)
                  go_meet
                  case rel => exact ⟨ts, _, c, asked + 1, rev, kk, rfl, by go_num, by omega, by omega, by omega, HP9.out.grew HG10.out⟩
              · as_aux_lemma =>
                  obtain ⟨z, hz⟩ := xor_byte (y.toNat : Int) (x.byx : Int)
                  have hix := run_index_text t p2 y hy
                  have hp2l : p2 < t.length := (List.getElem?_eq_some_iff.1 hy).1
                  have hp2b : (p2 : Int) < 150 := by have := Htl.out; omega
                  have hp2c : (p2 : Int) < (t.length : Int) := by omega
                  have hp20 : (0 : Int) ≤ (p2 : Int) := by omega
                  have HPq := Lib.hid hp2
                  rw [hp2] at q6
                  go_upto_region 34 with fail
                  have hqq := And.intro hix (And.intro hz (And.intro (fun V : { V : World // Grew w3 V } => show V.1.cell? ⟨b12, 6, none⟩ = some (.int .i64 (p2 : Int)) from (by have h := (act_at (HA3.out.grew V.2)).2.2.2.2.2.2.1; rwa [HPq.out] at h)) (fun V : { V : World // Grew w3 V } => show V.1.cell? ⟨b12, 7, none⟩ = some (.int .u8 (x.byx : Int)) from (act_at (HA3.out.grew V.2)).2.2.2.2.2.2.2)))
                  clear hix hz hp2
                  have HC := Lib.hid (Grew.drewN w3 1)
                  refine wp_region_c (fun V => Grew w3 V) (by kernel_rfl) HC.out ?_
                  (refine wpAnyC_free 0 (oi := ⟨some 184, _, _, _, _, _⟩) (v := ?_) rfl (by kernel_rfl) (by kernel_rfl) (by kernel_rfl) HC.out rfl (fun x => ?_) ?_; rotate_left; (focus (simp [go_sem]; (try go_ints); first | done | (with_reducible rfl))); (simp only [Act.put, List.setIfInBounds_toArray, List.set_cons_succ, List.set_cons_zero]))
                  (refine wpAnyC_free 1 (oi := ⟨some 185, _, _, _, _, _⟩) (v := ?_) rfl (by kernel_rfl) (by kernel_rfl) (by kernel_rfl) HC.out rfl (fun x => ?_) ?_; rotate_left; (focus (simp [go_sem]; (try go_ints); first | done | (with_reducible rfl))); (simp only [Act.put, List.setIfInBounds_toArray, List.set_cons_succ, List.set_cons_zero]))
                  (refine wpAnyC_free 2 (oi := ⟨some 186, _, _, _, _, _⟩) (v := ?_) rfl (by kernel_rfl) (by kernel_rfl) (by kernel_rfl) HC.out rfl (fun x => ?_) ?_; rotate_left; (focus (simp [go_sem, hqq]; (try go_ints); first | done | (with_reducible rfl))); (simp only [Act.put, List.setIfInBounds_toArray, List.set_cons_succ, List.set_cons_zero]))
                  refine wpAnyC_free 3 (oi := ⟨some 187, _, _, _, _, _⟩) (.string ⟨(t.take p2).toArray⟩) rfl (by kernel_rfl) (by kernel_rfl) (by kernel_rfl) HC.out rfl (fun V => exec_strTo (.tmp 184) (.tmp 186) rfl rfl rfl (by omega) V.1) ?_
                  (simp only [Act.put, List.setIfInBounds_toArray, List.set_cons_succ, List.set_cons_zero])
                  (refine wpAnyC_free 4 (oi := ⟨some 188, _, _, _, _, _⟩) (v := ?_) rfl (by kernel_rfl) (by kernel_rfl) (by kernel_rfl) HC.out rfl (fun x => ?_) ?_; rotate_left; (focus (simp [go_sem]; (try go_ints); first | done | (with_reducible rfl))); (simp only [Act.put, List.setIfInBounds_toArray, List.set_cons_succ, List.set_cons_zero]))
                  (refine wpAnyC_free 5 (oi := ⟨some 189, _, _, _, _, _⟩) (v := ?_) rfl (by kernel_rfl) (by kernel_rfl) (by kernel_rfl) HC.out rfl (fun x => ?_) ?_; rotate_left; (focus (simp [go_sem]; (try go_ints); first | done | (with_reducible rfl))); (simp only [Act.put, List.setIfInBounds_toArray, List.set_cons_succ, List.set_cons_zero]))
                  (refine wpAnyC_free 6 (oi := ⟨some 190, _, _, _, _, _⟩) (v := ?_) rfl (by kernel_rfl) (by kernel_rfl) (by kernel_rfl) HC.out rfl (fun x => ?_) ?_; rotate_left; (focus (simp [go_sem, hqq]; (try go_ints); first | done | (with_reducible rfl))); (simp only [Act.put, List.setIfInBounds_toArray, List.set_cons_succ, List.set_cons_zero]))
                  (refine wpAnyC_free 7 (oi := ⟨some 191, _, _, _, _, _⟩) (v := ?_) rfl (by kernel_rfl) (by kernel_rfl) (by kernel_rfl) HC.out rfl (fun x => ?_) ?_; rotate_left; (focus (simp [go_sem, hqq]; (try go_ints); first | done | (with_reducible rfl))); (simp only [Act.put, List.setIfInBounds_toArray, List.set_cons_succ, List.set_cons_zero]))
                  (refine wpAnyC_free 8 (oi := ⟨some 192, _, _, _, _, _⟩) (v := ?_) rfl (by kernel_rfl) (by kernel_rfl) (by kernel_rfl) HC.out rfl (fun x => ?_) ?_; rotate_left; (focus (simp [go_sem]; (try go_ints); first | done | (with_reducible rfl))); (simp only [Act.put, List.setIfInBounds_toArray, List.set_cons_succ, List.set_cons_zero]))
                  (refine wpAnyC_free 9 (oi := ⟨some 193, _, _, _, _, _⟩) (v := ?_) rfl (by kernel_rfl) (by kernel_rfl) (by kernel_rfl) HC.out rfl (fun x => ?_) ?_; rotate_left; (focus (simp [go_sem, hqq]; (try go_ints); first | done | (with_reducible rfl))); (simp only [Act.put, List.setIfInBounds_toArray, List.set_cons_succ, List.set_cons_zero]))
                  (refine wpAnyC_free 10 (oi := ⟨some 194, _, _, _, _, _⟩) (v := ?_) rfl (by kernel_rfl) (by kernel_rfl) (by kernel_rfl) HC.out rfl (fun x => ?_) ?_; rotate_left; (focus (simp [go_sem, hqq]; (try go_ints); first | done | (with_reducible rfl))); (simp only [Act.put, List.setIfInBounds_toArray, List.set_cons_succ, List.set_cons_zero]))
                  (refine wpAnyC_free 14 (oi := ⟨some 198, _, _, _, _, _⟩) (v := ?_) rfl (by kernel_rfl) (by kernel_rfl) (by kernel_rfl) HC.out rfl (fun x => ?_) ?_; rotate_left; (focus (simp [go_sem]; (try go_ints); first | done | (with_reducible rfl))); (simp only [Act.put, List.setIfInBounds_toArray, List.set_cons_succ, List.set_cons_zero]))
                  (refine wpAnyC_free 15 (oi := ⟨some 199, _, _, _, _, _⟩) (v := ?_) rfl (by kernel_rfl) (by kernel_rfl) (by kernel_rfl) HC.out rfl (fun x => ?_) ?_; rotate_left; (focus (simp [go_sem]; (try go_ints); first | done | (with_reducible rfl))); (simp only [Act.put, List.setIfInBounds_toArray, List.set_cons_succ, List.set_cons_zero]))
                  (refine wpAnyC_free 16 (oi := ⟨some 200, _, _, _, _, _⟩) (v := ?_) rfl (by kernel_rfl) (by kernel_rfl) (by kernel_rfl) HC.out rfl (fun x => ?_) ?_; rotate_left; (focus (simp [go_sem, hqq]; (try go_ints); first | done | (with_reducible rfl))); (simp only [Act.put, List.setIfInBounds_toArray, List.set_cons_succ, List.set_cons_zero]))
                  (refine wpAnyC_free 17 (oi := ⟨some 201, _, _, _, _, _⟩) (v := ?_) rfl (by kernel_rfl) (by kernel_rfl) (by kernel_rfl) HC.out rfl (fun x => ?_) ?_; rotate_left; (focus (simp [go_sem]; (try go_ints); first | done | (with_reducible rfl))); (simp only [Act.put, List.setIfInBounds_toArray, List.set_cons_succ, List.set_cons_zero]))
                  refine wpAnyC_free 18 (oi := ⟨some 202, _, _, _, _, _⟩) (.string ⟨(t.drop (p2 + 1)).toArray⟩) rfl (by kernel_rfl) (by kernel_rfl) (by kernel_rfl) HC.out rfl (fun V => exec_strFrom (p := p2 + 1) (.tmp 198) (.tmp 201) rfl rfl rfl (by omega) V.1) ?_
                  (simp only [Act.put, List.setIfInBounds_toArray, List.set_cons_succ, List.set_cons_zero])
                  change wpAnyC _ _ _ _ _ _ _ _ (World.drewN w3 1)
                  obtain ⟨wd, hwd⟩ : ∃ W, W = World.drewN w3 1 := ⟨_, rfl⟩
                  rw [← hwd] at HC ⊢
                  clear hwd hqq
                  refine wpAnyC_step 11 (o := ⟨some 195, _, _, _, _, _⟩) rfl (by kernel_rfl) rfl ?_
                  refine wpList_value (o := ⟨some 195, _, _, _, _, _⟩) (v := .slice (some ⟨wd.heap.size, 0, none⟩) 1 1) (w' := wd.alloc (.cells #[.int .u8 (z.toNat : Int)] 5)) rfl (by kernel_rfl) ?_
                  have hD : Grew w3 (wd.alloc (.cells #[.int .u8 (z.toNat : Int)] 5)) := HC.out.trans (grew_alloc wd _)
                  have hQ : Row (wd.alloc (.cells #[.int .u8 (z.toNat : Int)] 5)) (wd.heap.size + 1) (some ⟨wd.heap.size, 0, none⟩) ([z].map b8) := Row.new wd _ _ _ _ _ rfl (by omega) _ rfl
                  obtain ⟨g8, hg8⟩ : ∃ b, b = wd.heap.size := ⟨_, rfl⟩
                  rw [← hg8] at hQ ⊢
                  generalize wd.alloc (.cells #[.int .u8 (z.toNat : Int)] 5) = we at hQ hD ⊢
                  have HC := Lib.hid hD
                  have HQ8 := Lib.hid hQ
                  clear hQ hD hg8
                  (simp only [Act.put, List.setIfInBounds_toArray, List.set_cons_succ, List.set_cons_zero])
                  refine wpList_nil ⟨rfl, HC.out, ?_⟩
                  refine wpAnyC_step 12 (o := ⟨some 196, _, _, _, _, _⟩) rfl (by kernel_rfl) rfl ?_
                  refine wpList_str Try.underlying31 Try.underlying5 Try.underlying9 (some ⟨g8, 0, none⟩) 1 1 (g8 + 1) [z] rfl rfl rfl HQ8.out ?_
                  (simp only [Act.put, List.setIfInBounds_toArray, List.set_cons_succ, List.set_cons_zero])
                  refine wpList_nil ⟨rfl, HC.out, ?_⟩
                  refine wpAnyC_free 13 (oi := ⟨some 197, _, _, _, _, _⟩) (.string ⟨(t.take p2 ++ [z]).toArray⟩) rfl (by kernel_rfl) (by kernel_rfl) (by kernel_rfl) HC.out rfl (fun V => exec_strAdd (.tmp 187) (.tmp 196) rfl rfl rfl (by have := Htl.out; simp; omega) V.1) ?_
                  (simp only [Act.put, List.setIfInBounds_toArray, List.set_cons_succ, List.set_cons_zero])
                  refine wpAnyC_free 19 (oi := ⟨some 203, _, _, _, _, _⟩) (.string ⟨(t.take p2 ++ [z] ++ t.drop (p2 + 1)).toArray⟩) rfl (by kernel_rfl) (by kernel_rfl) (by kernel_rfl) HC.out rfl (fun V => exec_strAdd (.tmp 197) (.tmp 202) rfl rfl rfl (by have := Htl.out; simp; omega) V.1) ?_
                  (simp only [Act.put, List.setIfInBounds_toArray, List.set_cons_succ, List.set_cons_zero])
                  obtain ⟨tq, htq⟩ : ∃ t', t' = t.take p2 ++ [z] ++ t.drop (p2 + 1) := ⟨_, rfl⟩
                  rw [← htq]
                  have Htq := Lib.hid (show tq.length ≤ 150 by
                    rw [htq]
                    have h := spoilt_len (z := z) hp2l
                    unfold spoilt at h
                    rw [h]
                    exact Htl.out)
                  clear htq
                  (refine wpAnyC_free 20 (oi := ⟨some 15, _, _, _, _, _⟩) (v := ?_) rfl (by kernel_rfl) (by kernel_rfl) (by kernel_rfl) HC.out rfl (fun x => ?_) ?_; rotate_left; (focus (simp [go_sem]; (try go_ints); first | done | (with_reducible rfl))); (simp only [Act.put, List.setIfInBounds_toArray, List.set_cons_succ, List.set_cons_zero]))
                  refine wpAnyC_done (by kernel_rfl) (fun _ => ?_) _
                  have HPe := Lib.hid (HP3.out.grew HC.out)
                  have HAe := Lib.hid (HA3.out.grew HC.out)
                  clear q0 q1 q2 q3 q4 q5 q6 q7 hsz hp2b hp2c hp20
                  obtain ⟨q0, q1, q2, q3, q4, q5, q6, q7⟩ := act_at HAe.out
                  go_upto_region 35 with fail
                  obtain ⟨CV, hCV⟩ : ∃ C, C = AuthP.verifyC l0 ts.length rev tq x.now := ⟨_, rfl⟩
                  obtain ⟨EV, hEV⟩ : ∃ E, E = AuthP.verifyE l0 ts.length rev tq x.now := ⟨_, rfl⟩
                  have HCV := Lib.hid (And.intro hCV.symm hEV.symm)
                  have HVf : Hid (Calls Try.prog 35 #[.pointer (some ⟨g, 0, none⟩), .string ⟨tq.toArray⟩, .int .i64 x.now] we fun e w' => e = .returned (.tuple #[.agg #[.int .i64 (CV.dev : Int), .int .u64 (CV.epoch : Int), .int .u64 (CV.num : Int), .int .i64 (CV.over : Int)], .int .i64 EV]) ∧ Keep w' B T g l0 ts.length (asked + 1) rev kk ∧ Out B T we w') := Lib.hid (by
                    have := keep_verify B T g l0 ts.length asked rev kk tq x.now we HPe.out.keep (by omega) (by omega) (by omega) (by have := Htq.out; omega)
                    rw [← hCV, ← hEV] at this
                    exact this)
                  clear hCV hEV
                  go_upto_region 36 with (go_at_call 35; refine HVf.out.mono ?_; rintro e w8 ⟨rfl, hK, hO8⟩; have HK8 := Lib.hid hK; have HO8 := Lib.hid hO8; clear hK hO8)
                  clear q0 q1 q2 q3 q4 q5 q6 q7
                  obtain ⟨w9, hw9⟩ : ∃ W, W = w8.alloc (.cells #[.int .i64 (CV.dev : Int), .int .u64 (CV.epoch : Int), .int .u64 (CV.num : Int), .int .i64 (CV.over : Int)] 50) := ⟨_, rfl⟩
                  obtain ⟨b16, hb16⟩ : ∃ b, b = w8.heap.size := ⟨_, rfl⟩
                  have HG89 := Lib.hid (show Grew w8 w9 by rw [hw9]; exact grew_alloc w8 _)
                  have HA16 := Lib.hid (show ArrV w9 b16 (clv CV) by rw [hw9, hb16]; exact claim_made w8 CV)
                  have HP9 := Lib.hid ((HPe.out.called HO8.out HK8.out).grew HG89.out)
                  have HB9 := Lib.hid (show Below w.heap.size w w9 from (show Below w.heap.size w w4 from HGw4.out).trans ((HP9.out.out.below HBT.out.1).mono hwB))
                  rw [← hw9, ← hb16]
                  clear hw9 hb16
                  obtain ⟨q0, q1, q2, q3, q4, q5, q6, q7⟩ := act_at ((HO8.out.arr HAe.out Hb12.out).grew HG89.out)
                  obtain ⟨r0, r1, r2, r3⟩ := claim_cells HA16.out
                  have HVd := Lib.hid (law_verified tq l0 A0 n0 c0 gR rev ts.length x.now CV EV w9 HCV.out.1 HCV.out.2 ((S0.out.below HB9.out).more HB9.out.size) (by omega) (by have := Htq.out; omega) HP9.out.row (by omega))
                  go_wp2_with (go_at_call 36; refine HVd.out.mono ?_; rintro e w10 ⟨rfl, hG⟩; have HG10 := Lib.hid hG; clear hG)
                  go_meet
                  case rel => exact ⟨ts, _, c, asked + 1, rev, kk, rfl, by go_num, by omega, by omega, by omega, HP9.out.grew HG10.out⟩
          · have ho1 : (x.op == 1) = false := by simpa using hop1
            clear hop1
            have HWr := Lib.hid (wrap_at HFx.out.at_)
            by_cases hin : 1 ≤ x.at_ ∧ x.at_ ≤ (ts.length : Int)
            · as_aux_lemma =>
                obtain ⟨p, hp⟩ : ∃ p : Nat, x.at_ = (p : Int) := ⟨x.at_.toNat, by omega⟩
                have hwr : IntKind.u64.wrap (p : Int) = (p : Int) := wrap_u64i (by omega) (by omega)
                have hp1 : ¬ (p : Int) < 1 := by omega
                have hp2 : ¬ (ts.length : Int) < (p : Int) := by omega
                have hp3 : (p : Int) < 40 := by omega
                have hp4 : (0 : Int) ≤ (p : Int) := by omega
                have HR := Lib.hid (fun e w' (h : Revoked wa B T g l0 ts.length asked rev kk p e w') => (revoked_cases h).1 (by omega))
                have HRev := Lib.hid ((keep_revoke B T g l0 ts.length asked rev kk p wa HPa.out.keep (by unfold two64; omega) (by omega)).mono HR.out)
                have HPq := Lib.hid hp
                rw [hp] at q2
                clear hin hp HWr HR
                go_upto_region 15 with (go_at_call 32; refine HRev.out.mono ?_; rintro e w3 ⟨rfl, hK, hO3⟩; have HK3 := Lib.hid hK; have HO3 := Lib.hid hO3; clear hK hO3)
                clear q0 q1 q2 q3 q4 q5 q6 q7
                obtain ⟨q0, q1, q2, q3, q4, q5, q6, q7⟩ := act_at (HO3.out.arr HA.out Hb12.out)
                rw [HPq.out] at q2
                have HT3 := Lib.hid (HPa.out.toks.out HO3.out)
                have HR3 := Lib.hid (HPa.out.revs.out HO3.out)
                have rc : w3.cell? ⟨gR, p, none⟩ = some (.bool (rev p)) := by
                  have := HR3.out.cellAt (bvs_at rev (j := p) (by omega))
                  rwa [Nat.zero_add] at this
                have rf : w3.frozen? ⟨gR, p, none⟩ = false := by
                  obtain ⟨_, _, _, h⟩ := HR3.out
                  rcases h with ⟨h, _⟩ | ⟨g', o', cur, fr, ha, _, _, _, hf, _⟩
                  · cases h
                  · cases ha
                    have := hf p (by omega)
                    rwa [Nat.zero_add] at this
                go_wp2_with fail
                go_meet
                case rel => exact ⟨ts, A, c, asked, _, kk + 1, rfl, rfl, by omega, by omega, by omega, PlS.revoke HTq.out (by omega) HT3.out HR3.out HK3.out (HPa.out.out.trans HO3.out) HPa.out.small⟩
            · as_aux_lemma =>
                obtain ⟨m, hm, hmw, hmb⟩ : ∃ m : Nat, IntKind.u64.wrap x.at_ = (m : Int) ∧ m < two64 ∧ (m < 1 ∨ ts.length < m) := by
                  have e64 := two64_eq
                  have hr := HFx.out.at_
                  unfold i64r at hr
                  rcases HWr.out with ⟨h1, h2⟩ | ⟨h1, h2⟩
                  · exact ⟨x.at_.toNat, by rw [h2]; omega, by omega, by omega⟩
                  · exact ⟨(x.at_ + 18446744073709551616).toNat, by rw [h2]; omega, by omega, by omega⟩
                have HR := Lib.hid (fun e w' (h : Revoked wa B T g l0 ts.length asked rev kk m e w') => (revoked_cases h).2 hmb)
                have HRev := Lib.hid ((keep_revoke B T g l0 ts.length asked rev kk m wa HPa.out.keep hmw (by omega)).mono HR.out)
                have HQ := Lib.hid (show x.at_ < 1 ∨ ¬ x.at_ < 1 ∧ (ts.length : Int) < x.at_ by omega)
                clear hin HWr HR hmw hmb
                go_upto_region 15 with (go_at_call 32; refine HRev.out.mono ?_; rintro e w3 ⟨rfl, rfl⟩)
                clear hm
                rcases HQ.out with u1 | ⟨u1, u2⟩
                all_goals
                  go_wp2_with fail
                  go_meet
                  case rel => exact ⟨ts, A, c, asked, rev, kk, rfl, rfl, by omega, by omega, by omega, HPa.out⟩
      case rest =>
      obtain ⟨ts', A', c', asked', rev', kk', rfl, rfl, htk', hak', hkk', hP'⟩ := hcut
      have HP' := Lib.hid hP'
      have hwt : IntKind.u64.wrap ((ts'.length : Nat) : Int) = (ts'.length : Int) := wrap_u64i (by omega) (by omega)
      have HI := Lib.hid (keep_issued B T g l0 ts'.length asked' rev' kk' wc hP'.keep)
      have HAs := Lib.hid (keep_asked B T g l0 ts'.length asked' rev' kk' wc hP'.keep)
      clear hP' q0 q1 q2 q3 q4 q5 q6 q7
      go_wp2_with (first
        | (go_at_call 33; refine HI.out.mono ?_; rintro e w3 ⟨rfl, rfl⟩)
        | (go_at_call 37; refine HAs.out.mono ?_; rintro e w3 ⟨rfl, rfl⟩))
      go_roundw
      case rel => exact ⟨k + 1, ts', A', c', asked', rev', kk', hlt, by go_num, rfl, rfl, htk', hak', hkk', HP'.out⟩
      case measure => simp [intOf]; omega
    · obtain rfl : k = n1 := by omega
      have i3 : ¬ (k : Int) < (k : Int) := by omega
      go_wp2_with fail
      go_ret
      exact ⟨rfl, (show Below w.heap.size w w4 from HGw4.out).trans ((HP.out.out.below HBT.out.1).mono hwB)⟩
end Go.Proofs.Ytohgkadbajmphaa
