/- The walk of rolodexlaw8.TableHolds. -/
import Derived.Test.YtkkeodfoiffofaaAwake8
import Derived.Test.YtkkeodfoiffofaaTabD
import Derived.Test.YtkkeodfoiffofaaTabWalks
import Derived.Test.YtkkeodfoiffofaaTabA
import Derived.Test.YtkkeodfoiffofaaOpenI
import Derived.Test.YtkkeodfoiffofaaRefFrom
import Derived.Test.YtkkeodfoiffofaaSl
namespace Go.Proofs.Ytkkeodfoiffofaa
open Go.RowKit
set_option linter.unusedVariables false
attribute [local go_sem] Oper.semAt_some
def z8 : It := ⟨[122], 0, false, []⟩
/-- an item's own place -/
theorem at_own {l : List It} {k : Nat} {x : It} (hs : ItP.Srt l) (hx : l[k]? = some x) : ItP.at_ ⟨x.key, x.seq, false, []⟩ l = k := by
  have e : ∀ y : It, ItP.ahead y ⟨x.key, x.seq, false, []⟩ = ItP.ahead y x := fun y => ItP.ahead_congr' (a := ⟨x.key, x.seq, false, []⟩) (b := x) ⟨rfl, rfl⟩
  have h1 := at_hi hs hx (by rw [e]; exact ItP.ahead_irrefl x)
  rcases k with _ | k
  · omega
  · have hk1 : k + 1 < l.length := (List.getElem?_eq_some_iff.1 hx).1
    have h2 := at_lo (k := k) (y := l[k]) hs (List.getElem?_eq_getElem (by omega)) (by
      rw [e]
      have h3 := List.pairwise_iff_getElem.1 hs k (k + 1) (by omega) hk1 (Nat.lt_succ_self k)
      rw [(List.getElem?_eq_some_iff.1 hx).2] at h3
      exact h3)
    omega
theorem get_own {l : List It} {k : Nat} {x : It} (hs : ItP.Srt l) (hx : l[k]? = some x) : ItP.get l x.key x.seq = some x := by
  rw [← TabP.get_eq hs, getI_at, at_own hs hx, hx]
  simp
set_option maxRecDepth 100000 in
set_option maxHeartbeats 4000000 in
theorem tableHolds_walk (A0 : Option Addr) (n0 c0 : Nat) (l0 : List It) (a1 : Int) (s2 : ByteArray) (a3 a4 : Int) (w : World) (b0 : ItemsIn w A0 n0 c0 l0) (z0 : n0 * 48 ≤ 140737488351232) (w1 : (Lit.int .i64 a1).wf = true) (z2 : s2.data.toList.length ≤ 140737488351232) (w3 : (Lit.int .u64 a3).wf = true) (w4 : (Lit.int .i64 a4).wf = true) :
    Calls Try.prog 7 #[.slice A0 n0 c0, .int .i64 a1, .string s2, .int .u64 a3, .int .i64 a4] w fun e w' => e = .returned (.bool true) ∧ Below w.heap.size w w' := by
  have HAw := Lib.hid (awake8 w)
  have HI0 := Lib.hid b0.is
  have HQ0 := Lib.hid b0.seq
  have HW1 := Lib.hid w1
  have hl0 := b0.is.len
  have hm0 := b0.is.le
  have hx0 := b0.is.max
  obtain ⟨key, hkey⟩ : ∃ key : List UInt8, Value.string s2 = .string ⟨key.toArray⟩ := ⟨s2.data.toList, by simp⟩
  obtain ⟨q, hq⟩ : ∃ q : Nat, a3 = (q : Int) := ⟨a3.toNat, by have := wf_u64 w3; omega⟩
  subst hq
  rw [hkey]
  obtain ⟨e1, he1⟩ : ∃ z, TabP.buildE l0 a1 = z := ⟨_, rfl⟩
  have HE1 := Lib.hid he1
  clear b0 w1 w3 w4 z0 z2 he1 hkey
  go_enter Try.func7, Try.ntmps7
  go_upto_region 3 with (go_at_call 28; ((with_reducible refine HAw.out.mono ?_); rintro e w1 ⟨rfl, hG⟩; have HG1 := Lib.hid (show Grew w w1 from hG); clear hG))
  by_cases h0 : 300 < n0
  · have i0 : (300 : Int) < (n0 : Int) := by omega
    go_wp2_with fail
    go_ret
    exact ⟨rfl, HG1.out⟩
  have i0 : ¬ (300 : Int) < (n0 : Int) := by omega
  obtain ⟨wE, hwE⟩ : ∃ W, W = w1.alloc (.cells #[] 29) := ⟨_, rfl⟩
  obtain ⟨bE, hbE⟩ : ∃ b, b = w1.heap.size := ⟨_, rfl⟩
  have HOE := Lib.hid (show OwnI wE w1.heap.size (some ⟨bE, 0, none⟩) 0 0 [] by rw [hwE, hbE]; exact OwnI.empty w1 _ (Nat.le_refl _))
  have HGE := Lib.hid (show Grew w1 wE by rw [hwE]; exact grew_new w1 _)
  have HWE := Lib.hid (And.intro hwE hbE)
  have HIE := Lib.hid ((HI0.out.grew HG1.out).grew HGE.out)
  clear hwE hbE
  have HS1 := Lib.hid (show w1.heap.size ≤ wE.heap.size from HGE.out.size)
  go_upto_region 6 with (first
    | (at_builtin; (try rw [← HWE.out.1, ← HWE.out.2]); refine wpList_appI rfl (.tmp 31) (.tmp 32) rfl w1.heap.size (some ⟨bE, 0, none⟩) 0 0 [] rfl HOE.out A0 n0 c0 wE.heap.size l0 rfl hl0 HIE.out.row (by omega) HGE.out.size ?_; intro A2 c2 w2 hO2 hg2 hB2 hb2; have HO2 := Lib.hid (show OwnI w2 w1.heap.size A2 n0 c2 l0 from by have h := hO2; rw [List.nil_append, Nat.zero_add] at h; exact h); have HB2 := Lib.hid (show Grew w1 w2 from Below.trans (show Below w1.heap.size w1 wE from HGE.out) hB2); clear hO2 hg2 hB2 hb2; rw [Nat.zero_add])
    | (at_builtin; refine wpList_appI rfl (.tmp 33) (.tmp 35) rfl w1.heap.size A2 n0 c2 l0 rfl (HO2.out.alloc _) (some ⟨w2.heap.size, 0, none⟩) 1 1 (w2.heap.size + 1) [z8] rfl rfl (IRow.one w2 z8 _ _) (by omega) (by have := HB2.out.size; simp; omega) ?_; intro A3 c3 w3 hO3 hg3 hB3 hb3; have HO3 := Lib.hid hO3; have HG13 := Lib.hid (show Grew w1 w3 from Below.trans (Below.alloc (show Below w1.heap.size w1 w2 from HB2.out) HB2.out.size _) hB3); clear hO3 hg3 hB3 hb3))
  have HI3 := Lib.hid (show Is w3 w3.heap.size A3 n0 c3 l0 from by
    have h := (HO3.out.is (Nat.le_refl _)).to n0 (by omega)
    rw [← hl0, List.take_left] at h
    rw [← hl0]
    exact h)
  clear HOE HGE HWE HIE HS1 HB2 HO2
  have hle3 := HO3.out.le
  have HBu := Lib.hid (build_is HI3.out HQ0.out HW1.out HE1.out)
  go_upto_region 7 with (go_at_call 29; ((with_reducible refine HBu.out.mono ?_); rintro e w4 ⟨Ab, nb, cb, rfl, hO, hG⟩; have HOb := Lib.hid hO; have HG34 := Lib.hid hG; clear hO hG))
  have HG4 := Lib.hid (Grew.trans HG1.out (Grew.trans HG13.out HG34.out))
  have HSm := Lib.hid (show Calls Try.prog 20 #[.slice A3 n0 c3, .slice A0 n0 c0] w4 fun e w' => e = .returned (.bool true) ∧ Grew w4 w' from by
    have := ref_same A3 A0 n0 c3 n0 c0 l0 l0 w4 (HI3.out.grew HG34.out) (HI0.out.grew HG4.out)
    rw [decide_eq_true rfl] at this
    exact this)
  go_upto_region 9 with (go_at_call 20; ((with_reducible refine HSm.out.mono ?_); rintro e w5 ⟨rfl, hG⟩; have HG45 := Lib.hid hG; have HG5 := Lib.hid (Grew.trans HG4.out hG); clear hG))
  have hnb := HOb.out.len
  clear HBu HSm HAw
  by_cases hr : a1 < 1 ∨ 1000 < a1
  · obtain rfl : e1 = 1 := by rw [← HE1.out]; unfold TabP.buildE; rw [if_pos hr]
    obtain rfl : nb = 0 := by rw [← hnb]; unfold TabP.buildB; rw [if_neg (by rw [HE1.out]; decide)]; rfl
    clear hnb
    by_cases hr1 : a1 < 1
    · go_wp2_with fail
      go_ret
      exact ⟨rfl, HG5.out⟩
    · have hr2 : 1000 < a1 := by omega
      go_wp2_with fail
      go_ret
      exact ⟨rfl, HG5.out⟩
  have hr1 : ¬ a1 < 1 := fun h => hr (.inl h)
  have hr2 : ¬ 1000 < a1 := fun h => hr (.inr h)
  have HSo := Lib.hid (ref_sorted A0 n0 c0 l0 w5 (HI0.out.grew HG5.out) (by omega))
  have HMa := Lib.hid (fun W (hG : Grew w W) => law_may A0 n0 c0 l0 W (HI0.out.grew hG) (by omega))
  cases hs : ItP.srt l0 with
  | false =>
    rw [hs] at HSo
    obtain rfl : e1 = 15 := by rw [← HE1.out]; unfold TabP.buildE; rw [if_neg hr, if_pos (by rw [goodL_eq, hs]; rfl)]
    obtain rfl : nb = 0 := by rw [← hnb]; unfold TabP.buildB; rw [if_neg (by rw [HE1.out]; decide)]; rfl
    clear hs hnb
    go_wp2_with (go_at_call 35; ((with_reducible refine HSo.out.mono ?_); rintro e w6 ⟨rfl, hG⟩; have HG6 := Lib.hid (Grew.trans HG5.out hG); clear hG))
    go_ret
    exact ⟨rfl, HG6.out⟩
  | true =>
    rw [hs] at HSo
    cases hm : l0.all ItP.may with
    | false =>
      rw [hm] at HMa
      obtain rfl : e1 = 15 := by rw [← HE1.out]; unfold TabP.buildE; rw [if_neg hr, if_pos (by rw [goodL_eq, hm, Bool.and_false])]
      obtain rfl : nb = 0 := by rw [← hnb]; unfold TabP.buildB; rw [if_neg (by rw [HE1.out]; decide)]; rfl
      clear hs hm hnb
      go_wp2_with (first
        | (go_at_call 35; ((with_reducible refine HSo.out.mono ?_); rintro e w6 ⟨rfl, hG⟩; have HG6 := Lib.hid (Grew.trans HG5.out hG); clear hG))
        | (go_at_call 36; ((with_reducible refine (HMa.out _ HG6.out).mono ?_); rintro e w7 ⟨rfl, hG⟩; have HG7 := Lib.hid (Grew.trans HG6.out hG); clear hG)))
      go_ret
      exact ⟨rfl, HG7.out⟩
    | true =>
      rw [hm] at HMa
      obtain rfl : e1 = 0 := by
        rw [← HE1.out]
        unfold TabP.buildE
        rw [if_neg hr, if_neg (by rw [goodL_eq, hs, hm]; decide), if_neg (by omega)]
      have HSR := Lib.hid (TabP.goodL_srt (TabP.buildE_zero HE1.out).1)
      have hbl := build_le (l := l0) (a := a1)
      have hge := TabP.le4_build HE1.out
      rw [hnb] at hbl hge
      clear hs hm hr
      go_upto_region 15 with (first
        | (go_at_call 35; ((with_reducible refine HSo.out.mono ?_); rintro e w6 ⟨rfl, hG⟩; have HG56 := Lib.hid hG; have HG6 := Lib.hid (Grew.trans HG5.out hG); clear hG))
        | (go_at_call 36; ((with_reducible refine (HMa.out _ HG6.out).mono ?_); rintro e w7 ⟨rfl, hG⟩; have HG57 := Lib.hid (Grew.trans HG56.out hG); have HG7 := Lib.hid (Grew.trans HG6.out hG); clear hG)))
      have HOb7 := Lib.hid (HOb.out.below_all (Grew.trans HG45.out HG57.out))
      obtain ⟨bs, hbs⟩ : ∃ b, b = TabP.buildB l0 a1 := ⟨_, rfl⟩
      have HBS := Lib.hid hbs
      rw [← hbs] at HOb7 hnb hge
      clear hbs HSo HMa HOb
      obtain ⟨w8, hw8⟩ : ∃ W, W = w7.alloc (.cells #[] 5) := ⟨_, rfl⟩
      obtain ⟨b8', hb8⟩ : ∃ b, b = w7.heap.size := ⟨_, rfl⟩
      have HOE := Lib.hid (show OwnB w8 w7.heap.size (some ⟨b8', 0, none⟩) 0 0 [] by rw [hw8, hb8]; exact OwnB.empty w7 _ (Nat.le_refl _))
      have HG78 := Lib.hid (show Grew w7 w8 by rw [hw8]; exact grew_new w7 _)
      have HW8 := Lib.hid (And.intro hw8 hb8)
      have HOb8 := Lib.hid (HOb7.out.below_all HG78.out)
      clear hw8 hb8
      have hrow8 := HOb8.out.row
      go_upto_region 16 with (at_builtin; (try rw [← HW8.out.1, ← HW8.out.2]); refine wpList_app8 rfl (.tmp 83) (.tmp 84) 49 rfl (.inl ⟨_, Try.underlying49⟩) w7.heap.size _ _ _ _ rfl HOE.out nb bs (Src.slice (by simp [hnb]) hrow8) (.inl (by omega)) HG78.out.size ?_; intro Ac cc w9 hO9 hg9 hB9 hb9; have HO9 := Lib.hid (show OwnB w9 w7.heap.size Ac nb cc bs from by have h := hO9; rw [List.nil_append, Nat.zero_add] at h; exact h); have HG79 := Lib.hid (show Grew w7 w9 from Below.trans (show Below w7.heap.size w7 w8 from HG78.out) hB9); clear hO9 hg9 hB9 hb9; rw [Nat.zero_add])
      clear hrow8 HOE HG78 HW8 HOb8
      obtain ⟨bk, hbk⟩ : ∃ bk : Nat, a1 = (bk : Int) := ⟨a1.toNat, by omega⟩
      subst hbk
      have HOp := Lib.hid (show Calls Try.prog 31 #[.slice Ac nb cc] w9 fun e w' => ∃ T A n c F nf cf, e = .returned (.tuple #[.pointer (some ⟨T, 0, none⟩), .int .i64 0]) ∧ TabW T A n c l0 bk F nf cf (TabP.filter l0 l0.length) w' ∧ w9.heap.size ≤ T ∧ T < w'.heap.size ∧ Grew w9 w' ∧ ∀ g, blk A = some g ∨ blk F = some g → w9.heap.size ≤ g from by
        have h := open_buildS HE1.out HQ0.out (show OwnB w9 w7.heap.size Ac nb cc (TabP.buildB l0 (bk : Int)) from by rw [← HBS.out]; exact HO9.out)
        rw [Int.toNat_natCast] at h
        exact h)
      go_upto_region 17 with (go_at_call 31; ((with_reducible refine HOp.out.mono ?_); rintro e w10 ⟨T, A, n, c, F, nf, cf, rfl, hT, hT1, hT2, hG, hfr⟩; have HT := Lib.hid hT; have HTl := Lib.hid hT1; have HG9x := Lib.hid hG; have HFre := Lib.hid hfr; (obtain rfl : n = n0 := hT.is.len.symm.trans hl0); clear hT hT1 hT2 hG hfr))
      obtain ⟨ad, hA, hx1, hx2⟩ := HO9.out.row.at_ 0 (by simp; omega)
      subst hA
      have HNE := Lib.hid (show T ≠ ad.block ∧ blk A ≠ some ad.block ∧ blk F ≠ some ad.block from ⟨by have := HTl.out; omega, fun e => by have := HFre.out _ (.inl e); omega, fun e => by have := HFre.out _ (.inr e); omega⟩)
      have HG7x := Lib.hid (Grew.trans HG79.out HG9x.out)
      clear hx1 hx2 HOp HOb7 HBS HI3 HO3 hle3 HFre HTl hge
      go_wp2_with fail
      go_loopw [16] (fun i wr => ∃ (k : Nat) (t : List UInt8), k ≤ nb ∧ i = .int .i64 (k : Int) ∧ t.length = nb ∧ OwnB wr w7.heap.size (some ad) nb cc t ∧ TabW T A n c l0 bk F nf cf (TabP.filter l0 l0.length) wr ∧ Grew w7 wr) (fun i _ => nb - (intOf i).toNat)
      case atStart => exact ⟨0, bs, Nat.zero_le _, rfl, hnb, HO9.out.below_all HG9x.out, HT.out, HG7x.out⟩
      case round =>
        obtain ⟨k, t, hk, rfl, ht, hO, hTb, hG⟩ := hrel
        have HT := Lib.hid hTb
        have HGr := Lib.hid hG
        have i0 : (0 : Int) ≤ (k : Int) := by omega
        by_cases hlt : k < nb
        · have hk2 : k < t.length := by omega
          obtain ⟨q1, q2, q3, q4, q5⟩ := hO.at_ hk2 0
          have hT2 := hTb.but (w' := wr.setCell (ad.add k) (b8 0)) (gc := ad.block) (by simp) (fun g hg hne => Below.heap_setCell _ _ _ _ (by rw [add_block]; exact hne)) HNE.out.1 HNE.out.2.1 HNE.out.2.2
          have e0 : b8 0 = .int .u8 0 := rfl
          rw [e0] at q5 hT2
          have HQ5 := Lib.hid q5
          have HT2 := Lib.hid hT2
          have HTL := Lib.hid ht
          have i1 : (k : Int) < (nb : Int) := by omega
          clear hO hTb hG q5 hT2 e0 ht
          go_wp2
          go_roundw
          case rel => exact ⟨k + 1, t.set k 0, hlt, by go_num, by rw [List.length_set]; exact HTL.out, HQ5.out, HT2.out, HGr.out.setCell q3 _⟩
          case measure => simp [intOf]; omega
        · have i1 : ¬ (k : Int) < (nb : Int) := by omega
          clear hO hTb hG hlt
          have HGw := Lib.hid (Grew.trans HG7.out (show Grew w7 wr from HGr.out))
          obtain ⟨m, hm⟩ : ∃ m, m = (n + bk - 1) / bk := ⟨_, rfl⟩
          have hmb : m ≤ 2000000 := by rw [hm]; exact Nat.le_trans (Nat.div_le_self _ _) (by omega)
          have j1 : ¬ (bk : Int) = 0 := by omega
          have j2 : ((n : Int) + (bk : Int) - 1).tdiv (bk : Int) = (m : Int) := by
            rw [hm, show (n : Int) + (bk : Int) - 1 = ((n + bk - 1 : Nat) : Int) from by omega, ← Int.ofNat_tdiv]
          have j3 : n ≤ 300 := by omega
          have j4 : bk ≤ 1000 := by omega
          have HLn := Lib.hid (fun V (hG : Grew wr V) => show Calls Try.prog 33 #[.pointer (some ⟨T, 0, none⟩)] V fun e w' => e = .returned (.int .i64 (n : Int)) ∧ Grew V w' from (tab_len V (HT.out.grew hG)).mono fun e w' h => ⟨h.1, h.2 ▸ Grew.refl _⟩)
          have HBl := Lib.hid (fun V (hG : Grew wr V) => show Calls Try.prog 34 #[.pointer (some ⟨T, 0, none⟩)] V fun e w' => e = .returned (.int .i64 (m : Int)) ∧ Grew V w' from by
            have h := tab_blocks V (HT.out.grew hG) (by omega) (by omega)
            rw [← hm] at h
            exact h)
          clear hm
          go_upto_region 21 with fail
          have hqq := And.intro j1 (And.intro j2 (And.intro j3 (And.intro j4 hmb)))
          clear j1 j2 j3 j4 hmb
          refine wp_region_x [] (by kernel_rfl) (by kernel_rfl) (by kernel_rfl) ?_
          simp only [blank, List.foldl_nil]
          repeat (first
            | (refine wpX_value (v := ?_) rfl (by intros; simp) rfl rfl (fun x => ?_) ?_; rotate_left; (focus (simp [go_sem, hqq, ↓IntWalk.iteOmega]; (try go_ints); first | done | (with_reducible rfl))); (simp only [Act.put, List.setIfInBounds_toArray, List.set_cons_succ, List.set_cons_zero]))
            | (refine wpX_skip rfl ?_; (simp only [Act.put, List.setIfInBounds_toArray, List.set_cons_succ, List.set_cons_zero]))
            | (refine wpX_call (o := ⟨some 108, _, _, _, _, _⟩) (.int .i64 (n : Int)) _ _ rfl (by intros; simp) rfl rfl (fun x => ?_) (fun V hG => HLn.out V hG) ?_; (focus (simp [go_sem]; done)); (simp only [Act.put, List.setIfInBounds_toArray, List.set_cons_succ, List.set_cons_zero]))
            | (refine wpX_call (o := ⟨some 115, _, _, _, _, _⟩) (.int .i64 (m : Int)) _ _ rfl (by intros; simp) rfl rfl (fun x => ?_) (fun V hG => HBl.out V hG) ?_; (focus (simp [go_sem]; done)); (simp only [Act.put, List.setIfInBounds_toArray, List.set_cons_succ, List.set_cons_zero])))
          (refine wpX_nil ?_; intro xb wx hxg xl; obtain ⟨xf, xe⟩ := LikeAll.end_ xl; clear xl; subst xe; simp only [fill, List.foldl_nil, Act.put])
          clear hqq
          have HGx := Lib.hid (Grew.trans HGw.out hxg)
          have HTx := Lib.hid (HT.out.grew hxg)
          have hl300 : n ≤ 300 := by omega
          clear HLn HBl HGr HT hxg HNE HO9 HG9x HG79 HG7x HG57 HG56 HG45 HG34 HG13
          go_wp2_with fail
          go_loopw [17] (fun i wy => ∃ j : Nat, j ≤ n ∧ i = .int .i64 (j : Int) ∧ Grew wx wy) (fun i _ => n - (intOf i).toNat)
          case atStart => exact ⟨0, Nat.zero_le _, rfl, Grew.refl _⟩
          case round =>
            obtain ⟨j, hj, rfl, hG⟩ := hrel
            have HGj := Lib.hid hG
            have j0 : (0 : Int) ≤ (j : Int) := by omega
            clear hG
            by_cases hlt : j < n
            · have j1 : (j : Int) < (n : Int) := by omega
              obtain ⟨x, hx⟩ : ∃ y, l0[j]? = some y := ⟨_, List.getElem?_eq_getElem (by omega)⟩
              have HX := Lib.hid hx
              have HGet := Lib.hid (fun V (hG : Grew wx V) => show Calls Try.prog 37 #[.pointer (some ⟨T, 0, none⟩), .string ⟨x.key.toArray⟩, .int .u64 (x.seq : Int)] V fun e w' => e = .returned (.tuple #[.agg #[.string ⟨x.key.toArray⟩, .int .u64 (x.seq : Int), .bool x.gone, .string ⟨x.val.toArray⟩], .bool true]) ∧ Grew V w' from by
                have h := tab_get x.key x.seq V (HTx.out.grew hG) HSR.out.1
                rw [get_own HSR.out.1 hx] at h
                exact h)
              obtain ⟨g1, o1, rfl, q1⟩ := is_grew HI0.out (show Below w.heap.size w wr from Grew.trans HGx.out HGj.out) hx
              simp only [sv] at q1
              have HQ1 := Lib.hid q1
              clear hx q1
              go_upto_region 26 with fail
              go_cut [18, 19] from 131 to 146 (fun y z wy => ∃ b : Nat, y = .pointer (some ⟨b, 0, none⟩) ∧ z = .bool true ∧ IBox wy b x ∧ Grew wr wy)
              case first =>
                have HC := Lib.hid (Grew.drewN wr 1)
                have hqq := And.intro j0 (And.intro j1 (fun V : { V : World // Grew wr V } => show V.1.cell? ⟨g1, o1 + j * 4, none⟩ = some (.string ⟨x.key.toArray⟩) ∧ V.1.cell? ⟨g1, o1 + j * 4 + 1, none⟩ = some (.int .u64 (x.seq : Int)) from ⟨(HQ1.out ⟨V.1, V.2⟩).1, (HQ1.out ⟨V.1, V.2⟩).2.1⟩))
                refine wp_region_c (fun V => Grew wr V) (by kernel_rfl) HC.out ?_
                (refine wpAnyC_free 0 (oi := ⟨some 132, _, _, _, _, _⟩) (v := ?_) rfl (by kernel_rfl) (by kernel_rfl) (by kernel_rfl) HC.out rfl (fun x => ?_) ?_; rotate_left; (focus (simp [go_sem]; (try go_ints); first | done | (with_reducible rfl))); (simp only [Act.put, List.setIfInBounds_toArray, List.set_cons_succ, List.set_cons_zero]))
                (refine wpAnyC_free 1 (oi := ⟨some 133, _, _, _, _, _⟩) (v := ?_) rfl (by kernel_rfl) (by kernel_rfl) (by kernel_rfl) HC.out rfl (fun x => ?_) ?_; rotate_left; (focus (simp [go_sem]; (try go_ints); first | done | (with_reducible rfl))); (simp only [Act.put, List.setIfInBounds_toArray, List.set_cons_succ, List.set_cons_zero]))
                (refine wpAnyC_free 2 (oi := ⟨some 134, _, _, _, _, _⟩) (v := ?_) rfl (by kernel_rfl) (by kernel_rfl) (by kernel_rfl) HC.out rfl (fun x => ?_) ?_; rotate_left; (focus (simp [go_sem]; (try go_ints); first | done | (with_reducible rfl))); (simp only [Act.put, List.setIfInBounds_toArray, List.set_cons_succ, List.set_cons_zero]))
                (refine wpAnyC_free 3 (oi := ⟨some 135, _, _, _, _, _⟩) (v := ?_) rfl (by kernel_rfl) (by kernel_rfl) (by kernel_rfl) HC.out rfl (fun x => ?_) ?_; rotate_left; (focus (simp [go_sem, hqq]; (try go_ints); first | done | (with_reducible rfl))); (simp only [Act.put, List.setIfInBounds_toArray, List.set_cons_succ, List.set_cons_zero]))
                (refine wpAnyC_free 4 (oi := ⟨some 136, _, _, _, _, _⟩) (v := ?_) rfl (by kernel_rfl) (by kernel_rfl) (by kernel_rfl) HC.out rfl (fun x => ?_) ?_; rotate_left; (focus (simp [go_sem]; (try go_ints); first | done | (with_reducible rfl))); (simp only [Act.put, List.setIfInBounds_toArray, List.set_cons_succ, List.set_cons_zero]))
                (refine wpAnyC_free 5 (oi := ⟨some 137, _, _, _, _, _⟩) (v := ?_) rfl (by kernel_rfl) (by kernel_rfl) (by kernel_rfl) HC.out rfl (fun x => ?_) ?_; rotate_left; (focus (simp [go_sem, hqq]; (try go_ints); first | done | (with_reducible rfl))); (simp only [Act.put, List.setIfInBounds_toArray, List.set_cons_succ, List.set_cons_zero]))
                (refine wpAnyC_free 6 (oi := ⟨some 138, _, _, _, _, _⟩) (v := ?_) rfl (by kernel_rfl) (by kernel_rfl) (by kernel_rfl) HC.out rfl (fun x => ?_) ?_; rotate_left; (focus (simp [go_sem]; (try go_ints); first | done | (with_reducible rfl))); (simp only [Act.put, List.setIfInBounds_toArray, List.set_cons_succ, List.set_cons_zero]))
                (refine wpAnyC_free 7 (oi := ⟨some 139, _, _, _, _, _⟩) (v := ?_) rfl (by kernel_rfl) (by kernel_rfl) (by kernel_rfl) HC.out rfl (fun x => ?_) ?_; rotate_left; (focus (simp [go_sem]; (try go_ints); first | done | (with_reducible rfl))); (simp only [Act.put, List.setIfInBounds_toArray, List.set_cons_succ, List.set_cons_zero]))
                (refine wpAnyC_free 8 (oi := ⟨some 140, _, _, _, _, _⟩) (v := ?_) rfl (by kernel_rfl) (by kernel_rfl) (by kernel_rfl) HC.out rfl (fun x => ?_) ?_; rotate_left; (focus (simp [go_sem, hqq]; (try go_ints); first | done | (with_reducible rfl))); (simp only [Act.put, List.setIfInBounds_toArray, List.set_cons_succ, List.set_cons_zero]))
                (refine wpAnyC_free 9 (oi := ⟨some 141, _, _, _, _, _⟩) (v := ?_) rfl (by kernel_rfl) (by kernel_rfl) (by kernel_rfl) HC.out rfl (fun x => ?_) ?_; rotate_left; (focus (simp [go_sem]; (try go_ints); first | done | (with_reducible rfl))); (simp only [Act.put, List.setIfInBounds_toArray, List.set_cons_succ, List.set_cons_zero]))
                (refine wpAnyC_free 10 (oi := ⟨some 142, _, _, _, _, _⟩) (v := ?_) rfl (by kernel_rfl) (by kernel_rfl) (by kernel_rfl) HC.out rfl (fun x => ?_) ?_; rotate_left; (focus (simp [go_sem, hqq]; (try go_ints); first | done | (with_reducible rfl))); (simp only [Act.put, List.setIfInBounds_toArray, List.set_cons_succ, List.set_cons_zero]))
                change wpAnyC _ _ _ _ _ _ _ _ (World.drewN wr 1)
                obtain ⟨wd, hwd⟩ : ∃ W, W = World.drewN wr 1 := ⟨_, rfl⟩
                rw [← hwd] at HC ⊢
                clear hwd hqq
                refine wpAnyC_fork 11 15 (oi := ⟨some 143, _, _, _, _, _⟩) (oj := ⟨some 18, _, _, _, _, _⟩) rfl rfl (by kernel_rfl) ?_ ?_
                · refine cOp_list 11 (o := ⟨some 143, _, _, _, _, _⟩) rfl rfl ?_
                  refine wpList_callR rfl _ _ (fun v w' => v = .tuple #[.agg #[.string ⟨x.key.toArray⟩, .int .u64 (x.seq : Int), .bool x.gone, .string ⟨x.val.toArray⟩], .bool true] ∧ Grew wr w') (by simp [go_sem]) ((HGet.out _ (Grew.trans HGj.out HC.out)).mono fun e w' ⟨h1, h2⟩ => ⟨_, h1, rfl, Grew.trans HC.out h2⟩) ?_
                  rintro v w4 ⟨rfl, hP⟩
                  have HC := Lib.hid hP
                  clear hP
                  (simp only [Act.put, List.setIfInBounds_toArray, List.set_cons_succ, List.set_cons_zero])
                  refine wpList_nil ⟨rfl, HC.out, ?_⟩
                  (refine wpAnyC_free 12 (oi := ⟨some 131, _, _, _, _, _⟩) (v := ?_) rfl (by kernel_rfl) (by kernel_rfl) (by kernel_rfl) HC.out rfl (fun x => ?_) ?_; rotate_left; (focus (simp [go_sem]; (try go_ints); first | done | (with_reducible rfl))); (simp only [Act.put, List.setIfInBounds_toArray, List.set_cons_succ, List.set_cons_zero]))
                  (refine wpAnyC_free 13 (oi := ⟨some 144, _, _, _, _, _⟩) (v := ?_) rfl (by kernel_rfl) (by kernel_rfl) (by kernel_rfl) HC.out rfl (fun x => ?_) ?_; rotate_left; (focus (simp [go_sem]; (try go_ints); first | done | (with_reducible rfl))); (simp only [Act.put, List.setIfInBounds_toArray, List.set_cons_succ, List.set_cons_zero]))
                  (refine wpAnyC_free 14 (oi := ⟨some 145, _, _, _, _, _⟩) (v := ?_) rfl (by kernel_rfl) (by kernel_rfl) (by kernel_rfl) HC.out rfl (fun x => ?_) ?_; rotate_left; (focus (simp [go_sem]; (try go_ints); first | done | (with_reducible rfl))); (simp only [Act.put, List.setIfInBounds_toArray, List.set_cons_succ, List.set_cons_zero]))
                  refine wpAnyC_step 15 (o := ⟨some 18, _, _, _, _, _⟩) rfl (by kernel_rfl) rfl ?_
                  refine wpList_value (o := ⟨some 18, _, _, _, _, _⟩) (v := .pointer (some ⟨w4.heap.size, 0, none⟩)) (w' := w4.alloc (.cells #[.string ⟨#[]⟩, .int .u64 0, .bool false, .string ⟨#[]⟩] 29)) rfl (by kernel_rfl) ?_
                  have hX : IBox (w4.alloc (.cells #[.string ⟨#[]⟩, .int .u64 0, .bool false, .string ⟨#[]⟩] 29)) w4.heap.size ItP.none0 := heap_alloc_new w4 _
                  have hC : Grew wr (w4.alloc (.cells #[.string ⟨#[]⟩, .int .u64 0, .bool false, .string ⟨#[]⟩] 29)) := Grew.trans HC.out (grew_new w4 _)
                  have hbs : wr.heap.size ≤ w4.heap.size := HC.out.size
                  obtain ⟨b, hb⟩ : ∃ b, b = w4.heap.size := ⟨_, rfl⟩
                  rw [← hb] at hX hbs ⊢
                  generalize w4.alloc (.cells #[.string ⟨#[]⟩, .int .u64 0, .bool false, .string ⟨#[]⟩] 29) = wb at hX hC ⊢
                  have HC := Lib.hid hC
                  have HBX := Lib.hid hX
                  have HBS := Lib.hid hbs
                  clear hC hX hbs hb
                  (simp only [Act.put, List.setIfInBounds_toArray, List.set_cons_succ, List.set_cons_zero])
                  refine wpList_nil ⟨rfl, HC.out, ?_⟩
                  refine wpAnyC_step 16 (o := ⟨none, _, _, _, _, _⟩) rfl (by kernel_rfl) rfl ?_
                  refine wpList_storeI rfl (.tmp 18) (.tmp 144) rfl b ItP.none0 x rfl rfl HBX.out ?_
                  (simp only [Act.put])
                  have HC := Lib.hid (show Grew wr _ from Below.grown HC.out (grown_setI wb b x) HC.out.size (fun k e => by injection e with e; have := HBS.out; omega))
                  refine wpList_nil ⟨rfl, HC.out, ?_⟩
                  (refine wpAnyC_free 17 (oi := ⟨some 19, _, _, _, _, _⟩) (v := ?_) rfl (by kernel_rfl) (by kernel_rfl) (by kernel_rfl) HC.out rfl (fun x => ?_) ?_; rotate_left; (focus (simp [go_sem]; (try go_ints); first | done | (with_reducible rfl))); (simp only [Act.put, List.setIfInBounds_toArray, List.set_cons_succ, List.set_cons_zero]))
                  refine wpAnyC_done (by kernel_rfl) (fun _ => ?_) _
                  go_wp2_with fail
                  go_meet
                  case rel => exact ⟨b, rfl, rfl, HBX.out.set _, HC.out⟩
                · refine cOp_list 15 (o := ⟨some 18, _, _, _, _, _⟩) rfl rfl ?_
                  refine wpList_value (o := ⟨some 18, _, _, _, _, _⟩) (v := .pointer (some ⟨wd.heap.size, 0, none⟩)) (w' := wd.alloc (.cells #[.string ⟨#[]⟩, .int .u64 0, .bool false, .string ⟨#[]⟩] 29)) rfl (by kernel_rfl) ?_
                  have hX : IBox (wd.alloc (.cells #[.string ⟨#[]⟩, .int .u64 0, .bool false, .string ⟨#[]⟩] 29)) wd.heap.size ItP.none0 := heap_alloc_new wd _
                  have hC : Grew wr (wd.alloc (.cells #[.string ⟨#[]⟩, .int .u64 0, .bool false, .string ⟨#[]⟩] 29)) := Grew.trans HC.out (grew_new wd _)
                  have hbs : wr.heap.size ≤ wd.heap.size := HC.out.size
                  obtain ⟨b, hb⟩ : ∃ b, b = wd.heap.size := ⟨_, rfl⟩
                  rw [← hb] at hX hbs ⊢
                  generalize wd.alloc (.cells #[.string ⟨#[]⟩, .int .u64 0, .bool false, .string ⟨#[]⟩] 29) = wb at hX hC ⊢
                  have HC := Lib.hid hC
                  have HBX := Lib.hid hX
                  have HBS := Lib.hid hbs
                  clear hC hX hbs hb
                  (simp only [Act.put, List.setIfInBounds_toArray, List.set_cons_succ, List.set_cons_zero])
                  refine wpList_nil ⟨rfl, HC.out, ?_⟩
                  refine wpAnyC_step 11 (o := ⟨some 143, _, _, _, _, _⟩) rfl (by kernel_rfl) rfl ?_
                  refine wpList_callR rfl _ _ (fun v w' => v = .tuple #[.agg #[.string ⟨x.key.toArray⟩, .int .u64 (x.seq : Int), .bool x.gone, .string ⟨x.val.toArray⟩], .bool true] ∧ Grew wr w' ∧ IBox w' b ItP.none0) (by simp [go_sem]) ((HGet.out _ (Grew.trans HGj.out HC.out)).mono fun e w' ⟨h1, h2⟩ => ⟨_, h1, rfl, Grew.trans HC.out h2, HBX.out.grew h2⟩) ?_
                  rintro v w4 ⟨rfl, hP, hX⟩
                  have HC := Lib.hid hP
                  have HBX := Lib.hid hX
                  clear hP hX
                  (simp only [Act.put, List.setIfInBounds_toArray, List.set_cons_succ, List.set_cons_zero])
                  refine wpList_nil ⟨rfl, HC.out, ?_⟩
                  (refine wpAnyC_free 12 (oi := ⟨some 131, _, _, _, _, _⟩) (v := ?_) rfl (by kernel_rfl) (by kernel_rfl) (by kernel_rfl) HC.out rfl (fun x => ?_) ?_; rotate_left; (focus (simp [go_sem]; (try go_ints); first | done | (with_reducible rfl))); (simp only [Act.put, List.setIfInBounds_toArray, List.set_cons_succ, List.set_cons_zero]))
                  (refine wpAnyC_free 13 (oi := ⟨some 144, _, _, _, _, _⟩) (v := ?_) rfl (by kernel_rfl) (by kernel_rfl) (by kernel_rfl) HC.out rfl (fun x => ?_) ?_; rotate_left; (focus (simp [go_sem]; (try go_ints); first | done | (with_reducible rfl))); (simp only [Act.put, List.setIfInBounds_toArray, List.set_cons_succ, List.set_cons_zero]))
                  (refine wpAnyC_free 14 (oi := ⟨some 145, _, _, _, _, _⟩) (v := ?_) rfl (by kernel_rfl) (by kernel_rfl) (by kernel_rfl) HC.out rfl (fun x => ?_) ?_; rotate_left; (focus (simp [go_sem]; (try go_ints); first | done | (with_reducible rfl))); (simp only [Act.put, List.setIfInBounds_toArray, List.set_cons_succ, List.set_cons_zero]))
                  refine wpAnyC_step 16 (o := ⟨none, _, _, _, _, _⟩) rfl (by kernel_rfl) rfl ?_
                  refine wpList_storeI rfl (.tmp 18) (.tmp 144) rfl b ItP.none0 x rfl rfl HBX.out ?_
                  (simp only [Act.put])
                  have HC := Lib.hid (show Grew wr _ from Below.grown HC.out (grown_setI w4 b x) HC.out.size (fun k e => by injection e with e; have := HBS.out; omega))
                  refine wpList_nil ⟨rfl, HC.out, ?_⟩
                  (refine wpAnyC_free 17 (oi := ⟨some 19, _, _, _, _, _⟩) (v := ?_) rfl (by kernel_rfl) (by kernel_rfl) (by kernel_rfl) HC.out rfl (fun x => ?_) ?_; rotate_left; (focus (simp [go_sem]; (try go_ints); first | done | (with_reducible rfl))); (simp only [Act.put, List.setIfInBounds_toArray, List.set_cons_succ, List.set_cons_zero]))
                  refine wpAnyC_done (by kernel_rfl) (fun _ => ?_) _
                  go_wp2_with fail
                  go_meet
                  case rel => exact ⟨b, rfl, rfl, HBX.out.set _, HC.out⟩
              case rest =>
              obtain ⟨b, rfl, rfl, hX, hG⟩ := hcut
              have HGc := Lib.hid hG
              have HXB := Lib.hid (fun y : GrewOf wc => (hX.grew y.2).range)
              have HXR := Lib.hid (fun y : GrewOf wc => show y.1.rangeAt g1 (o1 + j * 4) (itv x) from by
                obtain ⟨g', o', e, hb, hr⟩ := HI0.out.at HX.out
                cases e
                exact range_below hr (show Below w.heap.size w y.1 from Grew.trans HGx.out (Grew.trans HGj.out (Grew.trans hG y.2))) hb)
              have hqq := And.intro j0 (And.intro j1 (fun y : GrewOf wc => show y.1.cell? ⟨g1, o1 + j * 4, none⟩ = some (.string ⟨x.key.toArray⟩) from (HQ1.out ⟨y.1, Grew.trans hG y.2⟩).1))
              have hmem := List.mem_of_getElem? HX.out
              have hnf : nf = TabP.fsize l0.length := by rw [← HTx.out.len, TabP.filter_len]
              have HHas := Lib.hid (fun V (hG' : Grew wc V) => show Calls Try.prog 38 #[.pointer (some ⟨T, 0, none⟩), .string ⟨x.key.toArray⟩] V fun e w' => e = .returned (.bool true) ∧ Grew V w' from
                tab_has x.key V (HTx.out.grew (Grew.trans HGj.out (Grew.trans hG hG'))) (Nat.le_trans (TabP.may_len (HSR.out.2 x hmem)).1 (by omega)) (fun p hp => TabP.bit_filter (l := l0) hmem (by
                  rw [TabP.filter_len]
                  rw [hnf] at hp
                  exact hp)) (by rw [hnf]; unfold TabP.fsize; omega))
              clear hX hG hnf hmem
              go_upto_region 27 with fail
              refine wp_region_x [] (by kernel_rfl) (by kernel_rfl) (by kernel_rfl) ?_
              simp only [blank, List.foldl_nil]
              repeat (first
                | (refine wpX_value (o := ⟨some 149, _, _, _, _, _⟩) (iv x) rfl (by intros; simp) rfl rfl (fun y => exec_loadI (.tmp 18) rfl rfl (HXB.out y)) ?_; (simp only [Act.put, List.setIfInBounds_toArray, List.set_cons_succ, List.set_cons_zero]))
                | (refine wpX_value (o := ⟨some 153, _, _, _, _, _⟩) (iv x) rfl (by intros; simp) rfl rfl (fun y => exec_loadI (.tmp 152) rfl rfl (HXR.out y)) ?_; (simp only [Act.put, List.setIfInBounds_toArray, List.set_cons_succ, List.set_cons_zero]))
                | (refine wpX_value (o := ⟨some 154, _, _, _, _, _⟩) (.bool (!decide (x = x))) rfl (by intros; simp) rfl rfl (fun y => exec_neqI (.tmp 149) (.tmp 153) rfl rfl rfl) ?_; (simp only [Act.put, List.setIfInBounds_toArray, List.set_cons_succ, List.set_cons_zero]); simp only [decide_true, Bool.not_true])
                | (refine wpX_value (v := ?_) rfl (by intros; simp) rfl rfl (fun x => ?_) ?_; rotate_left; (focus (simp [go_sem, hqq]; (try go_ints); first | done | (with_reducible rfl))); (simp only [Act.put, List.setIfInBounds_toArray, List.set_cons_succ, List.set_cons_zero]))
                | (refine wpX_skip rfl ?_; (simp only [Act.put, List.setIfInBounds_toArray, List.set_cons_succ, List.set_cons_zero]))
                | (refine wpX_call (o := ⟨some 163, _, _, _, _, _⟩) (.bool true) _ _ rfl (by intros; simp) rfl rfl (fun x => ?_) (fun V hG => HHas.out V hG) ?_; (focus (simp [go_sem]; done)); (simp only [Act.put, List.setIfInBounds_toArray, List.set_cons_succ, List.set_cons_zero])))
              (refine wpX_nil ?_; intro xb wx hxg xl; obtain ⟨xf, xe⟩ := LikeAll.end_ xl; clear xl; subst xe; simp only [fill, List.foldl_nil, Act.put])
              clear hqq
              go_wp2_with fail
              go_roundw
              case rel => exact ⟨j + 1, hlt, by go_num, Grew.trans HGj.out (Grew.trans HGc.out hxg)⟩
              case measure => simp [intOf]; omega
            · have j1 : ¬ (j : Int) < (n : Int) := by omega
              clear hlt
              obtain ⟨y0, ok, hy0⟩ : ∃ (y0 : It) (ok : Bool), getV (ItP.get l0 key q) = .tuple #[iv y0, .bool ok] := ⟨_, _, rfl⟩
              have HTr := Lib.hid (HTx.out.grew HGj.out)
              have HGr := Lib.hid (Grew.trans HGx.out HGj.out)
              have HGt := Lib.hid (show Calls Try.prog 37 #[.pointer (some ⟨T, 0, none⟩), .string ⟨key.toArray⟩, .int .u64 (q : Int)] wr fun e w' => e = .returned (.tuple #[.agg #[.string ⟨y0.key.toArray⟩, .int .u64 (y0.seq : Int), .bool y0.gone, .string ⟨y0.val.toArray⟩], .bool ok]) ∧ Grew wr w' from by
                have := tab_get key q wr HTr.out HSR.out.1
                rw [hy0] at this
                exact this)
              have HRg := Lib.hid (fun V (hG : Grew wr V) => show Calls Try.prog 24 #[.slice A0 n c0, .string ⟨key.toArray⟩, .int .u64 (q : Int)] V fun e w' => e = .returned (.tuple #[.agg #[.string ⟨y0.key.toArray⟩, .int .u64 (y0.seq : Int), .bool y0.gone, .string ⟨y0.val.toArray⟩], .bool ok]) ∧ Grew V w' from by
                have := ref_get A0 n c0 l0 key q V (HI0.out.grew (Grew.trans HGr.out hG))
                rw [hy0] at this
                exact this)
              have HBd := Lib.hid (fun V (hG : Grew wr V) => show Calls Try.prog 32 #[.pointer (some ⟨T, 0, none⟩)] V fun e w' => e = .returned (.tuple #[.string ⟨(TabP.firstK l0).toArray⟩, .string ⟨(TabP.lastK' l0).toArray⟩]) ∧ Grew V w' from tab_bounds V (HTr.out.grew hG))
              clear hy0
              go_upto_region 30 with (go_at_call 37; ((with_reducible refine HGt.out.mono ?_); rintro e w12 ⟨rfl, hG⟩; have HG12 := Lib.hid (show Grew wr w12 from hG); clear hG))
              obtain ⟨w13, hw13⟩ : ∃ W, W = w12.alloc (.cells #[.string ⟨y0.key.toArray⟩, .int .u64 (y0.seq : Int), .bool y0.gone, .string ⟨y0.val.toArray⟩] 29) := ⟨_, rfl⟩
              obtain ⟨x13, hx13⟩ : ∃ b, b = w12.heap.size := ⟨_, rfl⟩
              have HX13 := Lib.hid (show IBox w13 x13 y0 by rw [hw13, hx13]; exact heap_alloc_new w12 _)
              have HG13 := Lib.hid (show Grew wr w13 by rw [hw13]; exact Grew.trans HG12.out (grew_new w12 _))
              rw [← hw13, ← hx13]
              clear hw13 hx13
              go_upto_region 31 with (go_at_call 24; ((with_reducible refine (HRg.out _ HG13.out).mono ?_); rintro e w14 ⟨rfl, hG⟩; have HG14 := Lib.hid (Grew.trans HG13.out hG); have HX13 := Lib.hid (HX13.out.grew hG); clear hG))
              obtain ⟨w15, hw15⟩ : ∃ W, W = w14.alloc (.cells #[.string ⟨y0.key.toArray⟩, .int .u64 (y0.seq : Int), .bool y0.gone, .string ⟨y0.val.toArray⟩] 29) := ⟨_, rfl⟩
              obtain ⟨x15, hx15⟩ : ∃ b, b = w14.heap.size := ⟨_, rfl⟩
              have HX15 := Lib.hid (show IBox w15 x15 y0 by rw [hw15, hx15]; exact heap_alloc_new w14 _)
              have HG15 := Lib.hid (show Grew wr w15 by rw [hw15]; exact Grew.trans HG14.out (grew_new w14 _))
              have HX13 := Lib.hid (show IBox w15 x13 y0 by rw [hw15]; exact HX13.out.alloc _)
              rw [← hw15, ← hx15]
              clear hw15 hx15
              go_upto_region 32 with (go_at_call 32; ((with_reducible refine (HBd.out _ HG15.out).mono ?_); rintro e w16 ⟨rfl, hG⟩; have HG16 := Lib.hid (Grew.trans HG15.out hG); have HX13 := Lib.hid (HX13.out.grew hG); have HX15 := Lib.hid (HX15.out.grew hG); clear hG))
              have HFr : Hid (∀ V, Grew w16 V → Calls Try.prog 26 #[.slice A0 n c0, .string ⟨key.toArray⟩] V fun e w' => ∃ A' n' c', e = .returned (.slice A' n' c') ∧ Is w' w'.heap.size A' n' c' (l0.drop (TabP.frm key l0)) ∧ Grew V w') := Lib.hid fun V hG => by
                have h := ref_from A0 n c0 l0 key V (HI0.out.grew (Grew.trans HGr.out (Grew.trans HG16.out hG))) (by omega)
                rw [← TabP.from_eq HSR.out.1 HQ0.out] at h
                exact h.mono fun e w' ⟨A', n', c', h1, h2, h3⟩ => ⟨A', n', c', h1, h2.is (Nat.le_refl _), h3⟩
              have HWa : Hid (∀ (V : World) (A' : Option Addr) (n' c' : Nat), Grew w16 V → Is V V.heap.size A' n' c' (l0.drop (TabP.frm key l0)) → Calls Try.prog 39 #[.pointer (some ⟨T, 0, none⟩), .slice A' n' c', .string ⟨key.toArray⟩, .int .i64 a4] V fun e w' => e = .returned (.bool true) ∧ Grew V w') := Lib.hid fun V A' n' c' hG hI =>
                law_walks key a4 A' n' c' V (HTr.out.grew (Grew.trans HG16.out hG)) HSR.out.1 (by omega) hI
              have HWb : Hid (∀ (V : World), Grew w16 V → Calls Try.prog 39 #[.pointer (some ⟨T, 0, none⟩), .slice A0 n c0, .string ⟨#[]⟩, .int .i64 a4] V fun e w' => e = .returned (.bool true) ∧ Grew V w') := Lib.hid fun V hG =>
                law_walks [] a4 A0 n c0 V (HTr.out.grew (Grew.trans HG16.out hG)) HSR.out.1 (by omega) (by
                  rw [TabP.frm_nil HSR.out.2, List.drop_zero]
                  exact HI0.out.grew (Grew.trans HGr.out (Grew.trans HG16.out hG)))
              clear j1
              by_cases hn0 : n = 0
              case pos =>
                have hnil : l0 = [] := List.eq_nil_of_length_eq_zero (by omega)
                have e1 : TabP.firstK l0 = [] := by rw [hnil]; rfl
                have e2 : TabP.lastK' l0 = [] := by rw [hnil]; rfl
                subst hn0
                rw [e1, e2]
                clear e1 e2 hnil
                obtain ⟨p0, p1, p2, p3⟩ := range_cells HX13.out.range
                obtain ⟨r0, r1, r2, r3⟩ := range_cells HX15.out.range
                go_wp2_with (first
                  | (go_at_call 26; ((with_reducible refine (HFr.out _ (Grew.refl _)).mono ?_); rintro e w17 ⟨A', n', c', rfl, hI, hG⟩; have HI17 := Lib.hid hI; have HG17 := Lib.hid (show Grew w16 w17 from hG); clear hI hG))
                  | (go_at_call 39; ((with_reducible refine (HWa.out _ _ _ _ HG17.out HI17.out).mono ?_); rintro e w18 ⟨rfl, hG⟩; have HG18 := Lib.hid (Grew.trans HG17.out hG); clear hG))
                  | (go_at_call 39; ((with_reducible refine (HWb.out _ HG18.out).mono ?_); rintro e w19 ⟨rfl, hG⟩; have HG19 := Lib.hid (Grew.trans HG18.out hG); clear hG)))
                go_ret
                exact ⟨rfl, Grew.trans HGr.out (Grew.trans HG16.out HG19.out)⟩
              case neg =>
                obtain ⟨xa, hxa⟩ : ∃ y, l0[0]? = some y := ⟨_, List.getElem?_eq_getElem (by omega)⟩
                obtain ⟨xz, hxz⟩ : ∃ y, l0[n - 1]? = some y := ⟨_, List.getElem?_eq_getElem (by omega)⟩
                have e1 : TabP.firstK l0 = xa.key := by unfold TabP.firstK; rw [List.head?_eq_getElem?, hxa]; rfl
                have e2 : TabP.lastK' l0 = xz.key := by unfold TabP.lastK'; rw [List.getLast?_eq_getElem?, hl0, hxz]; rfl
                rw [e1, e2]
                obtain ⟨p, hp⟩ : ∃ p, p = n - 1 := ⟨_, rfl⟩
                rw [← hp] at hxz
                have hp1 : (n : Int) - 1 = (p : Int) := by omega
                have hp2 : (p : Int) < (n : Int) := by omega
                have hp3 : (0 : Int) ≤ (p : Int) := by omega
                have hp4 : (0 : Int) < (n : Int) := by omega
                have hp5 : ((n : Int) == 0) = false := by rw [beq_eq_false_iff_ne]; omega
                obtain ⟨g1, o1, rfl, q1⟩ := is_grew HI0.out (show Below w.heap.size w w16 from Grew.trans HGr.out HG16.out) hxa
                obtain ⟨g2, o2, e3, q2⟩ := is_grew HI0.out (show Below w.heap.size w w16 from Grew.trans HGr.out HG16.out) hxz
                cases e3
                obtain ⟨qa, _, _, _⟩ := q1 ⟨_, Grew.refl _⟩
                obtain ⟨qz, _, _, _⟩ := q2 ⟨_, Grew.refl _⟩
                rw [Nat.zero_mul, Nat.add_zero] at qa
                simp only [sv] at qa qz
                obtain ⟨p0, p1, p2, p3⟩ := range_cells HX13.out.range
                obtain ⟨r0, r1, r2, r3⟩ := range_cells HX15.out.range
                clear e1 e2 hxa hxz q1 q2 hp
                go_wp2_with (first
                  | (go_at_call 26; ((with_reducible refine (HFr.out _ (Grew.refl _)).mono ?_); rintro e w17 ⟨A', n', c', rfl, hI, hG⟩; have HI17 := Lib.hid hI; have HG17 := Lib.hid (show Grew w16 w17 from hG); clear hI hG))
                  | (go_at_call 39; ((with_reducible refine (HWa.out _ _ _ _ HG17.out HI17.out).mono ?_); rintro e w18 ⟨rfl, hG⟩; have HG18 := Lib.hid (Grew.trans HG17.out hG); clear hG))
                  | (go_at_call 39; ((with_reducible refine (HWb.out _ HG18.out).mono ?_); rintro e w19 ⟨rfl, hG⟩; have HG19 := Lib.hid (Grew.trans HG18.out hG); clear hG)))
                go_ret
                exact ⟨rfl, Grew.trans HGr.out (Grew.trans HG16.out HG19.out)⟩
end Go.Proofs.Ytkkeodfoiffofaa
