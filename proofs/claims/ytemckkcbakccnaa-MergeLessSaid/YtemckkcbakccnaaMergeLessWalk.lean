/- The walk of rolodexlaw10.MergeLess. -/
import Derived.Test.YtemckkcbakccnaaMergeThinsWalk
namespace Go.Proofs.Ytemckkcbakccnaa
open Go.RowKit
set_option linter.unusedVariables false
/-- how many of b's first i are f's -/
def cnt (b : List It) (f : It → Bool) (i : Nat) : Nat := ((b.take i).filter f).length
theorem cnt_all (b : List It) (f : It → Bool) {i : Nat} (h : b.length ≤ i) : cnt b f i = (b.filter f).length := by unfold cnt; rw [List.take_of_length_le h]
theorem cnt_le (b : List It) (f : It → Bool) (i : Nat) : cnt b f i ≤ b.length := Nat.le_trans (List.length_filter_le _ _) (by rw [List.length_take]; omega)
theorem seqs_add {l : List It} {k : Nat} {x : It} (hx : l[k]? = some x) : (l.take (k + 1)).map (·.seq) = (l.take k).map (·.seq) ++ [x.seq] := by
  rw [List.take_add_one, hx, List.map_append]
  rfl
set_option maxRecDepth 100000 in
set_option maxHeartbeats 4000000 in
theorem mergeLess_walk (A0 : Option Addr) (n0 c0 : Nat) (l0 : List It) (A1 : Option Addr) (n1 c1 : Nat) (l1 : List Int) (A2 : Option Addr) (n2 c2 : Nat) (l2 : List Int) (w : World) (b0 : ItemsIn w A0 n0 c0 l0) (z0 : n0 * 48 ≤ 140737488351232) (b1 : NumsIn .u64 w A1 n1 c1 l1) (z1 : n1 * 8 ≤ 140737488351232) (b2 : NumsIn .u64 w A2 n2 c2 l2) (z2 : n2 * 8 ≤ 140737488351232) :
    Calls Try.prog 8 #[.slice A0 n0 c0, .slice A1 n1 c1, .slice A2 n2 c2] w fun e w' => e = .returned (.bool true) ∧ Below w.heap.size w w' := by
  have hl := b0.is.len
  have hm := b0.is.le
  obtain ⟨ms, hN, hmm, _⟩ := ns_of b1
  obtain ⟨mt, hN2, _, _⟩ := ns_of b2
  have hkl := hN.len
  have hkl2 := hN2.len
  have HI := Lib.hid b0.is
  have HN := Lib.hid hN
  have HN2 := Lib.hid hN2
  have HAw := Lib.hid (awake10 w)
  clear b0 b1 b2 z0 z1 z2 hN hN2 hmm
  go_enter Try.func8, Try.ntmps8
  go_upto_region 3 with (go_at_call 9; ((with_reducible refine HAw.out.mono ?_); rintro e w2 ⟨rfl, hB⟩; have HB2 := Lib.hid hB; clear hB))
  by_cases hbig : 80 < n0
  · have i1 : (80 : Int) < (n0 : Int) := by omega
    go_wp2_with fail
    go_ret
    exact ⟨rfl, HB2.out⟩
  have i1 : ¬ (80 : Int) < (n0 : Int) := by omega
  by_cases hbig2 : 20 < n1
  · have i2 : (20 : Int) < (n1 : Int) := by omega
    go_wp2_with fail
    go_ret
    exact ⟨rfl, HB2.out⟩
  have i2 : ¬ (20 : Int) < (n1 : Int) := by omega
  by_cases hbig3 : 20 < n2
  · have i3 : (20 : Int) < (n2 : Int) := by omega
    go_wp2_with fail
    go_ret
    exact ⟨rfl, HB2.out⟩
  have i3 : ¬ (20 : Int) < (n2 : Int) := by omega
  obtain ⟨s, hs⟩ : ∃ s, s = ItP.srt l0 := ⟨_, rfl⟩
  have HSr : Hid (Calls Try.prog 14 #[.slice A0 n0 c0] w2 fun e w' => e = .returned (.bool s) ∧ Grew w2 w') := Lib.hid (by rw [hs]; exact ref_sorted A0 n0 c0 l0 w2 ((HI.out.below HB2.out).more HB2.out.size) (by omega))
  have HS := Lib.hid hs
  clear hs
  cases s
  · go_wp2_with (go_at_call 14; ((with_reducible refine HSr.out.mono ?_); rintro e w3 ⟨rfl, hG⟩; have HG3 := Lib.hid hG; clear hG))
    go_ret
    exact ⟨rfl, HB2.out.trans (Below.mono HG3.out HB2.out.size)⟩
  go_upto_region 5 with (go_at_call 14; ((with_reducible refine HSr.out.mono ?_); rintro e w3 ⟨rfl, hG⟩; have HB3 := Lib.hid (HB2.out.trans (Below.mono hG HB2.out.size)); clear hG))
  have hsrt : ItP.Srt l0 := ItP.srt_iff.1 HS.out.symm
  obtain ⟨TA, hTA⟩ : ∃ T, T = MrgP.thin l0 ms false := ⟨_, rfl⟩
  obtain ⟨TB, hTB⟩ : ∃ T, T = MrgP.thin l0 (ms ++ mt) false := ⟨_, rfl⟩
  have HIl : Hid (∀ W, Grew w3 W → Is W W.heap.size A0 n0 c0 l0) := Lib.hid fun W hW => (HI.out.below (HB3.out.trans (Below.mono hW HB3.out.size))).more (Nat.le_trans HB3.out.size hW.size)
  have HNl : Hid (∀ W, Grew w3 W → Ns W W.heap.size A1 n1 c1 ms) := Lib.hid fun W hW => (HN.out.below (HB3.out.trans (Below.mono hW HB3.out.size))).more (Nat.le_trans HB3.out.size hW.size)
  have HNm : Hid (∀ W, Grew w3 W → Ns W W.heap.size A2 n2 c2 mt) := Lib.hid fun W hW => (HN2.out.below (HB3.out.trans (Below.mono hW HB3.out.size))).more (Nat.le_trans HB3.out.size hW.size)
  obtain ⟨f, hf⟩ : ∃ f, f = MrgP.shAny l0 ms := ⟨_, rfl⟩
  have HAB := Lib.hid (show TA = TB.filter f by rw [hTA, hTB, hf, MrgP.thin_eq, MrgP.thin_eq]; exact MrgP.thin_more hsrt ms mt)
  have HAl := Lib.hid (show MrgP.thin l0 (l0.map (·.seq)) false = l0 by rw [MrgP.thin_eq]; exact MrgP.thin_all hsrt _ (fun x hx => List.mem_map.2 ⟨x, hx, rfl⟩))
  have hAn : TA.length ≤ n0 := by rw [hTA, MrgP.thin_eq]; have := (MrgP.thin_sub hsrt ms false).length_le; omega
  have hBn : TB.length ≤ n0 := by rw [hTB, MrgP.thin_eq]; have := (MrgP.thin_sub hsrt (ms ++ mt) false).length_le; omega
  have HT1 : Hid (Calls Try.prog 13 #[.slice A0 n0 c0, .slice A1 n1 c1, .bool false] w3 fun e w' => ∃ A n c, e = .returned (.slice A n c) ∧ OwnI w' w3.heap.size A n c TA ∧ Grew w3 w') := Lib.hid (by rw [hTA]; exact mrg_thin A0 A1 n0 c0 n1 c1 l0 ms false w3 (HIl.out _ (Grew.refl _)) (HNl.out _ (Grew.refl _)) (by omega) (by omega))
  have HT2 : Hid (∀ (W : World) (K : Option Addr) (c : Nat), Grew w3 W → Ns W W.heap.size K (n1 + n2) c (ms ++ mt) → Calls Try.prog 13 #[.slice A0 n0 c0, .slice K (n1 + n2) c, .bool false] W fun e w' => ∃ A n c, e = .returned (.slice A n c) ∧ OwnI w' W.heap.size A n c TB ∧ Grew W w') := Lib.hid fun W K c hW hk => by rw [hTB]; exact mrg_thin A0 K n0 c0 (n1 + n2) c l0 (ms ++ mt) false W (HIl.out _ hW) hk (by omega) (by omega)
  have HT3 : Hid (∀ (W : World) (K : Option Addr) (c : Nat), Grew w3 W → Ns W W.heap.size K n0 c (l0.map (·.seq)) → Calls Try.prog 13 #[.slice A0 n0 c0, .slice K n0 c, .bool false] W fun e w' => ∃ A n c, e = .returned (.slice A n c) ∧ OwnI w' W.heap.size A n c l0 ∧ Grew W w') := Lib.hid fun W K c hW hk => by have := mrg_thin A0 K n0 c0 n0 c l0 (l0.map (·.seq)) false W (HIl.out _ hW) hk (by omega) (by omega); rwa [HAl.out] at this
  have HSm : Hid (∀ (W : World) (A B : Option Addr) (n c m d : Nat) (x : List It), Is W W.heap.size A n c x → Is W W.heap.size B m d x → Calls Try.prog 16 #[.slice A n c, .slice B m d] W fun e w' => e = .returned (.bool true) ∧ Grew W w') := Lib.hid fun W A B n c m d x h1 h2 => (ref_same A B n c m d x x W h1 h2).mono fun e w' h => ⟨by rw [h.1, decide_eq_true rfl], h.2⟩
  have hbu : ∀ W : World, (Instr.buildSlice 41 0 #[]).run Try.prog W = .ok (.slice (some ⟨W.heap.size, 0, none⟩) 0 0) (W.alloc (.cells #[] 27)) := fun _ => by kernel_rfl
  clear hTA hTB hf hsrt HSr HAw HB2
  go_upto_region 6 with (go_at_call 13; ((with_reducible refine HT1.out.mono ?_); rintro e w4 ⟨A7, n7, c7, rfl, hO, hG⟩; have HOA := Lib.hid hO; have HG4 := Lib.hid (show Grew w3 w4 from hG); clear hO hG))
  have HR1 := Lib.hid ((HNl.out w4 HG4.out).row)
  have HR2 := Lib.hid ((HNm.out w4 HG4.out).row)
  go_wp2_with (first
    | (at_builtin; refine wpList_appU rfl (.tmp 37) (.tmp 38) rfl w4.heap.size _ 0 0 [] rfl (OwnU.empty w4 w4.heap.size (Nat.le_refl _)) A1 n1 c1 w4.heap.size ms rfl hkl (Row.below HR1.out ((Below.refl _ _).alloc (Nat.le_refl _) _)) (by omega) (by simp) ?_; intro A5 c5 w5 hO5 hg5 hB5; have HO5 := Lib.hid (show OwnU w5 w4.heap.size A5 n1 c5 ms by simpa using hO5); have HG5 := Lib.hid (show Grew w4 w5 from ((Below.refl _ _).alloc (Nat.le_refl _) _).trans hB5); clear hO5 hg5 hB5)
    | (at_builtin; refine wpList_appU rfl (.tmp 39) (.tmp 40) rfl w4.heap.size A5 n1 c5 ms rfl HO5.out A2 n2 c2 w4.heap.size mt rfl hkl2 (Row.below HR2.out HG5.out) (by omega) HG5.out.size ?_; intro A6 c6 w6 hO6 hg6 hB6; have HO6 := Lib.hid hO6; have HG6 := Lib.hid (show Grew w4 w6 from Below.trans HG5.out hB6); clear hO6 hg6 hB6)
    | (go_at_call 13; ((with_reducible refine (HT2.out w6 A6 c6 (HG4.out.trans HG6.out) (HO6.out.ns (Nat.le_refl _))).mono ?_); rintro e w7 ⟨A8, n8, c8, rfl, hO, hG⟩; have HOB := Lib.hid hO; have HG7 := Lib.hid (show Grew w3 w7 from (HG4.out.trans HG6.out).trans hG); have HOA := Lib.hid (HOA.out.below_all (HG6.out.trans hG)); clear hO hG)))
  have hn7 := HOA.out.len
  have hn8 := HOB.out.len
  clear HR1 HR2 HO5 HO6 HG5 HG6 HT1 HT2 HNl HNm HN HN2
  go_loopw [9, 10] (fun a i wy => ∃ k : Nat, k ≤ n8 ∧ i = .int .i64 (k : Int) ∧ a = .int .i64 (cnt TB f k : Int) ∧ Grew w7 wy) (fun _ i _ => n8 - (intOf i).toNat)
  case atStart => exact ⟨0, Nat.zero_le _, rfl, rfl, Grew.refl _⟩
  case round =>
    obtain ⟨k, hk, rfl, rfl, hG⟩ := hrel
    have HG := Lib.hid hG
    clear hG
    have j0 : (0 : Int) ≤ (k : Int) := by omega
    by_cases hlt : k < n8
    · have j1 : (k : Int) < (n8 : Int) := by omega
      obtain ⟨x, hx⟩ : ∃ x, TB[k]? = some x := ⟨_, List.getElem?_eq_getElem (by omega)⟩
      have hgr := MrgP.greedy (f := f) hx
      rw [← HAB.out] at hgr
      obtain ⟨at_, hat⟩ : ∃ a, a = cnt TB f k := ⟨_, rfl⟩
      have hadd : cnt TB f (k + 1) = at_ + (if f x = true then 1 else 0) := by rw [hat]; exact hgr.2
      have h1 : (f x = true → TA[at_]? = some x) ∧ (f x = false → ∀ y, TA[at_]? = some y → y ≠ x) := by rw [hat]; exact hgr.1
      have hab : at_ ≤ 80 := by rw [hat]; have := cnt_le TB f k; omega
      rw [← hat]
      have HADD := Lib.hid hadd
      have a0 : (0 : Int) ≤ (at_ : Int) := by omega
      obtain ⟨g2, o2, rfl, q2⟩ := is_grew ((HOB.out.below_all HG.out).is (Nat.le_refl _)) (Below.refl _ _) hx
      clear hgr hadd hat hx
      by_cases hin : at_ < n7
      · have j2 : (at_ : Int) < (n7 : Int) := by omega
        obtain ⟨y, hy⟩ : ∃ y, TA[at_]? = some y := ⟨_, List.getElem?_eq_getElem (by omega)⟩
        obtain ⟨g1, o1, rfl, q1⟩ := is_grew ((HOA.out.below_all HG.out).is (Nat.le_refl _)) (Below.refl _ _) hy
        by_cases hfx : f x = true
        · obtain rfl : y = x := by have := h1.1 hfx; rw [hy] at this; exact Option.some.inj this
          have q3 := fun W => eql_item y y W
          rw [decide_eq_true rfl] at q3
          have HADD := Lib.hid (show cnt TB f (k + 1) = at_ + 1 by rw [HADD.out, if_pos hfx])
          clear h1 hy hfx
          go_upto_region 11 with fail
          have hqq := And.intro q1 (And.intro q2 (And.intro q3 (And.intro j2 (And.intro j1 (And.intro a0 j0)))))
          clear q1 q2 q3
          refine wp_region_x [] (by kernel_rfl) (by kernel_rfl) (by kernel_rfl) ?_
          simp only [blank, List.foldl_nil]
          repeat (first | (refine wpX_value (v := ?_) rfl (by intros; simp) rfl rfl (fun x => ?_) ?_; rotate_left; (focus (simp [go_sem, hqq]; (try go_ints); first | done | (with_reducible rfl))); (simp only [Act.put, List.setIfInBounds_toArray, List.set_cons_succ, List.set_cons_zero])) | (refine wpX_skip rfl ?_; (simp only [Act.put, List.setIfInBounds_toArray, List.set_cons_succ, List.set_cons_zero])))
          (refine wpX_nil ?_; intro xb wx hxg xl; obtain ⟨xf, xe⟩ := LikeAll.end_ xl; clear xl; subst xe; simp only [fill, List.foldl_nil, Act.put])
          clear hqq
          go_wp2_with fail
          go_roundw
          case rel => exact ⟨k + 1, hlt, by go_num, by rw [HADD.out]; go_num, HG.out.trans hxg⟩
          case measure => simp [intOf]; omega
        · have hfx : f x = false := by simpa using hfx
          have hne := h1.2 hfx y hy
          have q3 := fun W => eql_item y x W
          rw [decide_eq_false hne] at q3
          have HADD := Lib.hid (show cnt TB f (k + 1) = at_ by rw [HADD.out, hfx]; simp)
          clear h1 hy hfx hne
          go_upto_region 11 with fail
          have hqq := And.intro q1 (And.intro q2 (And.intro q3 (And.intro j2 (And.intro j1 (And.intro a0 j0)))))
          clear q1 q2 q3
          refine wp_region_x [] (by kernel_rfl) (by kernel_rfl) (by kernel_rfl) ?_
          simp only [blank, List.foldl_nil]
          repeat (first | (refine wpX_value (v := ?_) rfl (by intros; simp) rfl rfl (fun x => ?_) ?_; rotate_left; (focus (simp [go_sem, hqq]; (try go_ints); first | done | (with_reducible rfl))); (simp only [Act.put, List.setIfInBounds_toArray, List.set_cons_succ, List.set_cons_zero])) | (refine wpX_skip rfl ?_; (simp only [Act.put, List.setIfInBounds_toArray, List.set_cons_succ, List.set_cons_zero])))
          (refine wpX_nil ?_; intro xb wx hxg xl; obtain ⟨xf, xe⟩ := LikeAll.end_ xl; clear xl; subst xe; simp only [fill, List.foldl_nil, Act.put])
          clear hqq
          go_wp2_with fail
          go_roundw
          case rel => exact ⟨k + 1, hlt, by go_num, by rw [HADD.out], HG.out.trans hxg⟩
          case measure => simp [intOf]; omega
      · have j2 : ¬ (at_ : Int) < (n7 : Int) := by omega
        have hfx : f x = false := by
          cases hfx : f x with
          | false => rfl
          | true =>
            have := (List.getElem?_eq_some_iff.1 (h1.1 hfx)).1
            omega
        have HADD := Lib.hid (show cnt TB f (k + 1) = at_ by rw [HADD.out, hfx]; simp)
        clear h1 hfx q2
        go_upto_region 11 with fail
        have hqq := j2
        refine wp_region_x [] (by kernel_rfl) (by kernel_rfl) (by kernel_rfl) ?_
        simp only [blank, List.foldl_nil]
        repeat (first | (refine wpX_value (v := ?_) rfl (by intros; simp) rfl rfl (fun x => ?_) ?_; rotate_left; (focus (simp [go_sem, hqq]; (try go_ints); first | done | (with_reducible rfl))); (simp only [Act.put, List.setIfInBounds_toArray, List.set_cons_succ, List.set_cons_zero])) | (refine wpX_skip rfl ?_; (simp only [Act.put, List.setIfInBounds_toArray, List.set_cons_succ, List.set_cons_zero])))
        (refine wpX_nil ?_; intro xb wx hxg xl; obtain ⟨xf, xe⟩ := LikeAll.end_ xl; clear xl; subst xe; simp only [fill, List.foldl_nil, Act.put])
        clear hqq
        go_wp2_with fail
        go_roundw
        case rel => exact ⟨k + 1, hlt, by go_num, by rw [HADD.out], HG.out.trans hxg⟩
        case measure => simp [intOf]; omega
    · obtain rfl : k = n8 := by omega
      have j1 : ¬ (k : Int) < (k : Int) := by omega
      have HE := Lib.hid (show cnt TB f k = n7 by rw [cnt_all TB f (by omega), ← HAB.out]; exact hn7)
      rw [HE.out]
      obtain ⟨wq, hwq⟩ : ∃ W, W = wr := ⟨_, rfl⟩
      rw [← hwq]
      have HGq := Lib.hid (show Grew w3 wq by rw [hwq]; exact HG7.out.trans HG.out)
      clear hwq
      go_wp2_with fail
      go_loopw [11, 12] (fun o i wy => ∃ (m : Nat) (A9 : Option Addr) (n9 c9 : Nat), m ≤ n0 ∧ i = .int .i64 (m : Int) ∧ o = .slice A9 n9 c9 ∧ OwnU wy wq.heap.size A9 n9 c9 ((l0.take m).map (·.seq)) ∧ Grew wq wy) (fun _ i _ => n0 - (intOf i).toNat)
      case atStart => exact ⟨0, none, 0, 0, Nat.zero_le _, rfl, rfl, OwnU.nil _ _, Grew.refl _⟩
      case round =>
        obtain ⟨m, A9, n9, c9, hm9, rfl, rfl, hO, hG⟩ := hrel
        have HO9 := Lib.hid hO
        have HG9 := Lib.hid hG
        have hn9 : n9 = m := by have := hO.len; rw [List.length_map, List.length_take] at this; omega
        subst hn9
        clear hO hG
        have e0 : (0 : Int) ≤ (n9 : Int) := by omega
        by_cases hlt2 : n9 < n0
        · obtain ⟨x, hx⟩ : ∃ x, l0[n9]? = some x := ⟨_, List.getElem?_eq_getElem (by omega)⟩
          obtain ⟨g, o, rfl, _, hr⟩ := (HIl.out wr (HGq.out.trans HG9.out)).at hx
          obtain ⟨p0, p1, p2, p3⟩ := range_cells hr
          have HSE := Lib.hid (seqs_add hx)
          have e1 : (n9 : Int) < (n0 : Int) := by omega
          clear hx hr
          have hbs := HG9.out.size
          go_wp2_with (at_builtin; refine wpList_appU rfl (.tmp 72) (.tmp 78) rfl wq.heap.size A9 n9 c9 _ rfl (HO9.out.alloc _) (some ⟨wr.heap.size, 0, none⟩) 1 1 (wr.heap.size + 1) [x.seq] rfl rfl (URow.one wr x.seq _ _) (by omega) (by simp; omega) ?_; intro A10 c10 w10 hO10 hg10 hB10)
          go_roundw
          case rel => exact ⟨n9 + 1, A10, _, c10, hlt2, by go_num, rfl, by rw [HSE.out]; exact hO10, (HG9.out.alloc HG9.out.size _).trans hB10⟩
          case measure => simp [intOf]; omega
        · obtain rfl : n9 = n0 := by omega
          have e1 : ¬ (n9 : Int) < (n9 : Int) := by omega
          have HT := Lib.hid (show l0.take n9 = l0 from List.take_of_length_le (by omega))
          have HO10 := Lib.hid (show OwnU wr wq.heap.size A9 n9 c9 (l0.map (·.seq)) by have := HO9.out; rwa [HT.out] at this)
          go_wp2_with (first
            | (go_at_call 13; ((with_reducible refine (HT3.out wr A9 c9 (HGq.out.trans HG9.out) (HO10.out.ns (Nat.le_refl _))).mono ?_); rintro e w11 ⟨A11, n11, c11, rfl, hO, hG⟩; have HO11 := Lib.hid hO; have HG11 := Lib.hid (show Grew w3 w11 from (HGq.out.trans HG9.out).trans hG); clear hO hG))
            | (go_at_call 16; ((with_reducible refine (HSm.out _ _ _ _ _ _ _ _ (HO11.out.is (Nat.le_refl _)) (HIl.out _ HG11.out)).mono ?_); rintro e w12 ⟨rfl, hG⟩; have HG12 := Lib.hid (HG11.out.trans hG); clear hG)))
          go_ret
          exact ⟨rfl, HB3.out.trans (Below.mono HG12.out HB3.out.size)⟩
end Go.Proofs.Ytemckkcbakccnaa
