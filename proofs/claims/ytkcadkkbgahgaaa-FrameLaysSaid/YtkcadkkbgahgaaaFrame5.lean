/- The walk of the reference's Scan. -/
import Derived.Test.YtkcadkkbgahgaaaFrame4
import Derived.Deep.CutRange
namespace Go.Proofs.Ytkcadkkbgahgaaa
open Go.RowKit
set_option linter.unusedVariables false
theorem OwnLL.made (w : World) (base : Nat) (hb : base ≤ w.heap.size) : OwnLL (w.alloc (.cells #[] 25)) base (some ⟨w.heap.size, 0, none⟩) 0 0 [] :=
  ⟨[], Own.made w #[] _ (0, 0) 1 0 0 [] hb rfl (Nat.le_refl _) (Nat.zero_le _) (Nat.zero_le _) (.inr rfl) (fun j u hu => by simp at hu), rfl, fun i l h => by simp at h⟩
theorem ref_bad {r : List UInt8} (h : 8 ≤ r.length) (hm : ¬ 65536 < (FrameP.at4 r 0).toNat) (ht : ¬ r.length - 8 < (FrameP.at4 r 0).toNat) (hs : ¬ FrameP.frame ((r.drop 8).take (FrameP.at4 r 0).toNat) = r.take (8 + (FrameP.at4 r 0).toNat)) : FrameP.step r = .inl 2 := by rw [FrameP.step_ref, if_neg (by omega), if_neg (by omega), if_neg hm, if_neg ht, if_neg hs]
theorem ref_good {r : List UInt8} (h : 8 ≤ r.length) (hm : ¬ 65536 < (FrameP.at4 r 0).toNat) (ht : ¬ r.length - 8 < (FrameP.at4 r 0).toNat) (hs : FrameP.frame ((r.drop 8).take (FrameP.at4 r 0).toNat) = r.take (8 + (FrameP.at4 r 0).toNat)) : FrameP.step r = .inr ((r.drop 8).take (FrameP.at4 r 0).toNat) := by rw [FrameP.step_ref, if_neg (by omega), if_neg (by omega), if_neg hm, if_neg ht, if_pos hs]
theorem make_lists (w : World) : (Instr.makeSlice 32 (.int .i64 0) (.int .i64 0)).run Try.prog w = .ok (.slice (some ⟨w.heap.size, 0, none⟩) 0 0) (w.alloc (.cells #[] 25)) := by kernel_rfl
set_option maxRecDepth 4000 in
set_option maxHeartbeats 2000000 in
theorem ref_scan (A : Option Addr) (n c B : Nat) (l : List UInt8) (w : World) (h : Sl w B A n c l) (hB : B ≤ w.heap.size) (hm : n ≤ 1099511627776) :
    Calls Try.prog 32 #[.slice A n c] w (ScanGives w l) := by
  obtain ⟨hn, hnc, hcm, hr⟩ := id h
  subst hn
  unfold maxLen at hcm
  have hmk := make_lists
  go_enter Try.func32, Try.ntmps32
  go_wp2_with fail
  go_loopw [5, 6] (fun ps u wr => ∃ (k : Nat) (ll : List (List UInt8)) (A2 : Option Addr) (n2 c2 : Nat), k ≤ l.length ∧ u = .int .i64 (k : Int) ∧ ps = .slice A2 n2 c2 ∧ OwnLL wr w.heap.size A2 n2 c2 ll ∧ FrameP.behind ll k (FrameP.scan (l.drop k)) = FrameP.scan l ∧ 8 * n2 ≤ k ∧ Below w.heap.size w wr) (fun _ u _ => l.length - (intOf u).toNat)
  case atStart => exact ⟨0, [], _, 0, 0, Nat.zero_le _, rfl, rfl, OwnLL.made w _ (Nat.le_refl _), FrameP.behind_nil _, by omega, (Below.refl _ _).alloc (Nat.le_refl _) _⟩
  case round =>
    obtain ⟨k, ll, A2, n2, c2, hk, rfl, rfl, hO, hs, h8, hBw⟩ := hrel
    by_cases hlt : k < l.length
    · obtain ⟨ad, hA, _, _⟩ := hr.at_ k (by simpa using hlt)
      subst hA
      have hR := (h.below (hBw.mono hB)).mid k l.length hk (Nat.le_refl _)
      have e1 : (l.drop k).take (l.length - k) = l.drop k := List.take_of_length_le (by simp)
      rw [e1] at hR
      have HS := Lib.hid hs
      clear e1 hs h hr
      obtain ⟨R, hRR⟩ : ∃ R, R = l.drop k := ⟨_, rfl⟩
      have hRl : R.length = l.length - k := by rw [hRR]; simp
      rw [← hRR] at hR
      have HRR := Lib.hid hRR
      have HRL := Lib.hid hRl
      clear hRR hRl
      have hI1 : (k : Int) < (l.length : Int) := by omega
      have hI2 : (k : Int) ≤ (l.length : Int) := by omega
      have hI3 : ¬ c = k := by omega
      by_cases c8 : l.length - k < 8
      · have c8' : ((l.length - k : Nat) : Int) < 8 := by omega
        go_wp2_with fail
        go_ret3
        exact scan_gives (st := 1) hO HS.out (by rw [← HRR.out]; exact step_torn (by rw [HRL.out]; omega) (by rw [HRL.out]; exact c8)) hBw
      · have c8' : ¬ ((l.length - k : Nat) : Int) < 8 := by omega
        obtain ⟨m, hmm⟩ : ∃ m : Nat, m = (FrameP.at4 R 0).toNat := ⟨_, rfl⟩
        have hm32 : m < 4294967296 := by rw [hmm]; exact lt32 _
        have hrd := ref_number (some (ad.add k)) (l.length - k) (c - k) B R wr HRL.out (by omega) (by unfold maxLen; omega) hR.2.2.2
        have em : bv32 (FrameP.at4 R 0) = (m : Int) := by rw [hmm]; rfl
        rw [em] at hrd
        have HRD := Lib.hid hrd
        have HMM := Lib.hid hmm
        have h8R : 8 ≤ R.length := by rw [HRL.out]; omega
        clear em hrd hmm
        by_cases cm : 65536 < m
        · have cm' : (65536 : Int) < (m : Int) := by omega
          go_wp2_with fail
          refine HRD.out.mono ?_
          rintro e w1 ⟨rfl, k1, rfl⟩
          go_wp2_with fail
          go_ret3
          exact scan_gives (st := 2) (hO.below (Grew.drewN wr k1)) HS.out (by rw [← HRR.out]; exact step_big h8R (by rw [← HMM.out]; exact cm)) (hBw.trans ((Grew.drewN wr k1).mono hBw.size))
        · have cm' : ¬ (65536 : Int) < (m : Int) := by omega
          by_cases ct : l.length - k - 8 < m
          · have ct' : ((l.length - k : Nat) : Int) - 8 < (m : Int) := by omega
            go_wp2_with fail
            refine HRD.out.mono ?_
            rintro e w1 ⟨rfl, k1, rfl⟩
            go_wp2_with fail
            go_ret3
            exact scan_gives (st := 1) (hO.below (Grew.drewN wr k1)) HS.out (by rw [← HRR.out]; exact step_short h8R (by rw [← HMM.out]; exact cm) (by rw [← HMM.out, HRL.out]; exact ct)) (hBw.trans ((Grew.drewN wr k1).mono hBw.size))
          · have ct' : ¬ ((l.length - k : Nat) : Int) - 8 < (m : Int) := by omega
            have hI4 : (8 : Int) + (m : Int) ≤ ((l.length - k : Nat) : Int) := by omega
            have hI5 : 8 + m ≤ l.length - k := by omega
            have hI6 : 8 + m ≤ c - k := by omega
            have hI7 : (0 : Int) ≤ 8 + (m : Int) := by omega
            have hI8 : IntKind.i64.wrap (8 + (m : Int)) = 8 + (m : Int) := IntWalk.i64_in _ (by omega)
            have hI9 : (8 + (m : Int)).toNat = 8 + m := by omega
            have HI8 := Lib.hid hI8
            have HI10 := Lib.hid (show IntKind.i64.wrap (m : Int) = (m : Int) from IntWalk.i64_in _ (by omega))
            have HI9 := Lib.hid hI9
            clear hI8 hI9
            have hbs : B ≤ wr.heap.size := Nat.le_trans hB hBw.size
            obtain ⟨P, hPP⟩ : ∃ P, P = (R.drop 8).take m := ⟨_, rfl⟩
            have hPl : P.length = m := by rw [hPP]; simp [HRL.out]; omega
            have hT := hR.mid 0 (8 + m) (by omega) hI5
            have HPP := Lib.hid hPP
            have HPL := Lib.hid hPl
            have hPle : P.length ≤ m := by omega
            have hPge : m ≤ P.length := by omega
            clear hPP hPl
            have HE8 := Lib.hid (show 0 + (8 + m - 8) = m by omega)
            by_cases hcut : c - k ≤ 8
            · have hcut2 : 8 ≤ c - k := by omega
              have hP : Sl wr B (some (ad.add k)) m 0 P := (by have e : P = [] := List.eq_nil_of_length_eq_zero (by omega); rw [e]; have e2 : m = 0 := (by omega); rw [e2]; exact Sl.zero (by unfold maxLen; omega))
              go_wp2_with fail
              refine HRD.out.mono ?_
              rintro e w1 ⟨rfl, k1, hk1⟩
              have hBw1 : Grew wr w1 := by subst hk1; exact Grew.drewN wr k1
              have hP1 := (hP.below (hBw1.mono hbs)).alloc (Nat.le_trans hbs hBw1.size) (.cells #[] 5)
              have hT1 := hT.below (hBw1.mono hbs)
              have hO1 := hO.below hBw1
              have hBwr1 := hBw.trans (hBw1.mono hBw.size)
              have hs1 := hBw1.size
              have hE1 := OwnB.empty w1 w1.heap.size (Nat.le_refl _)
              have hltA2 : ∀ g, blk A2 = some g → g < w1.heap.size := by
                obtain ⟨_, ho, _⟩ := hO1
                exact fun g hg => (ho.lt g hg).2
              clear hk1 hP hO hBw HRD hR hT
              go_wp2_with (at_builtin; go_loud (refine wpList_app8 rfl (.tmp 37) (.tmp 42) 25 rfl (.inl ⟨_, Try.underlying25⟩) w1.heap.size _ _ _ [] rfl hE1 (8 + m - 8) P (Src.slice (by simp; omega) hP1.2.2.2) (.inl (by omega)) (by simp) ?_); intro A3 cap3 w2 hO3 hg3 hB3 hb3; rw [HE8.out] at hO3 ⊢; simp only [List.nil_append] at hO3)
              have hB13 : Grew w1 w2 := ((Below.refl _ _).alloc (Nat.le_refl _) _).trans hB3
              have hO2 := hO1.below hB13
              have hT2 := hT1.below (hB13.mono (Nat.le_trans hbs hs1))
              have hBw2 : Below w.heap.size w w2 := hBwr1.trans (hB13.mono hBwr1.size)
              have hs2 := hB13.size
              have hne : ∀ g, blk A3 = some g → blk A2 ≠ some g := fun g hg e2 => by
                have h1 := (hO3.lt g hg).1
                have h2 := hltA2 g e2
                omega
              have hSl3 := hO3.sl
              have hlt3 : ∀ g, blk A3 = some g → g < w2.heap.size := fun g hg => (hO3.lt g hg).2
              have hle3 := hO3.le
              have hrow3 := hO3.row
              have hrow4 : Row w2 B (some (ad.add k)) ((R.take (8 + m)).map b8) := hT2.2.2.2
              have hTl : (R.take (8 + m)).length = 8 + m := hT2.1
              have HTL := Lib.hid hTl
              have hbs2 : B ≤ w2.heap.size := by omega
              clear hO1 hB3 hltA2 hO3 hE1 hP1 hT1 hBwr1 hB13 hTl hg3 hb3 hT2
              have hI8 := HI8.out
              have hI9 := HI9.out
              obtain ⟨T, hTT⟩ : ∃ T, T = R.take (8 + m) := ⟨_, rfl⟩
              rw [← hTT] at hrow4 HTL
              have HTT := Lib.hid hTT
              clear hTT
              by_cases hsum : FrameP.frame P = T
              · have hfr := fun w' (hg : Grew w2 w') => ref_frame A3 m cap3 w2.heap.size P w' (hSl3.below hg) hg.size (by omega)
                rw [hsum] at hfr
                have HFR := Lib.hid hfr
                have HSUM := Lib.hid hsum
                clear hsum hfr hSl3
                go_upto_region 13 with fail
                refine wp_region_x [45] (by kernel_rfl) (by kernel_rfl) (by kernel_rfl) ?_
                simp only [blank, List.foldl_cons, List.foldl_nil, Act.put, List.setIfInBounds_toArray, List.set_cons_succ, List.set_cons_zero]
                have hII := And.intro hI8 (And.intro hI9 (And.intro hI5 (And.intro hI6 HI10.out)))
                repeat (first
                  | (refine wpX_value (v := ?_) rfl (by intros; simp) rfl rfl (fun x => ?_) ?_; rotate_left; (focus (simp [go_sem, hII, ↓IntWalk.iteOmega]; first | done | (with_reducible rfl))); (simp only [Act.put, List.setIfInBounds_toArray, List.set_cons_succ, List.set_cons_zero]))
                  | (refine wpX_str8 (some (ad.add k)) (8 + m) (c - k) B T rfl rfl rfl rfl HTL.out hbs2 hrow4 ?_; (simp only [Act.put, List.setIfInBounds_toArray, List.set_cons_succ, List.set_cons_zero]))
                  | (refine wpX_strM _ rfl rfl rfl rfl ?_; (simp only [Act.put, List.setIfInBounds_toArray, List.set_cons_succ, List.set_cons_zero]))
                  | (refine wpX_callM T _ _ 45 rfl (by intros; simp) rfl rfl rfl (fun _ => by simp [go_sem]) (fun w' hw' => (HFR.out w' hw').mono fun _ _ h => h.sl') ?_; (simp only [Act.put, List.setIfInBounds_toArray, List.set_cons_succ, List.set_cons_zero])))
                (refine wpX_nil ?_; intro xb wx hxg xl; obtain ⟨xf, xe⟩ := LikeAll.end_ xl; clear xl; subst xe; try simp only [fill, List.foldl_cons, List.foldl_nil, Act.put, List.setIfInBounds_toArray, List.set_cons_succ, List.set_cons_zero])
                clear hI8 hI9 hII
                have hO5 := hO2.below hxg
                have hBwx : Below w.heap.size w wx := hBw2.trans (hxg.mono hBw2.size)
                have hrow5 := (hrow3.below hxg).more hxg.size
                have hlt5 : ∀ g, blk A3 = some g → g < wx.heap.size := fun g hg => Nat.lt_of_lt_of_le (hlt3 g hg) hxg.size
                clear hO2 hBw2 hrow3 hlt3 hrow4
                have hPm := Lib.hid (show m = P.length by omega)
                go_wp2_with (at_builtin; rw [hPm.out]; refine wpList_appL rfl (.tmp 56) (.tmp 58) rfl w.heap.size _ _ _ ll rfl (hO5.alloc _) _ 1 A3 cap3 P rfl (Row.new _ _ _ _ _ _ rfl (by simp) _ rfl) (by omega) hle3.2 ((hrow5.alloc (Nat.le_refl _) _).more (by simp)) hne (fun g hg => by have := hlt5 g hg; simp; omega) (by omega) (by have := hBwx.size; simp; omega) ?_; intro A5 cap5 w5 hO6 hB5)
                have hBw5 : Below w.heap.size w w5 := (hBwx.alloc hBwx.size _).trans hB5
                go_roundw
                case rel => exact ⟨k + (8 + P.length), ll ++ [P], _, _, _, by omega, by rw [HPL.out]; go_num, rfl, hO6, scan_next HS.out (by rw [← HRR.out, HPP.out]; rw [HMM.out]; exact ref_good h8R (by rw [← HMM.out]; exact cm) (by rw [← HMM.out, HRL.out]; exact ct) (by rw [← HMM.out, ← HPP.out, ← HTT.out]; exact HSUM.out)), by omega, hBw5⟩
                case measure => simp [intOf]; omega
              · have hfr := Lib.hid (fun w' (hg : Grew w2 w') => ref_frame A3 m cap3 w2.heap.size P w' (hSl3.below hg) hg.size (by omega))
                obtain ⟨FR, hFR⟩ : ∃ FR, FR = FrameP.frame P := ⟨_, rfl⟩
                rw [← hFR] at hsum hfr
                have HFR := Lib.hid hFR
                clear hSl3 hFR
                go_upto_region 13 with fail
                refine wp_region_x [45] (by kernel_rfl) (by kernel_rfl) (by kernel_rfl) ?_
                simp only [blank, List.foldl_cons, List.foldl_nil, Act.put, List.setIfInBounds_toArray, List.set_cons_succ, List.set_cons_zero]
                have hII := And.intro (show (FR == T) = false from beq_eq_false_iff_ne.2 hsum) (And.intro hI8 (And.intro hI9 (And.intro hI5 (And.intro hI6 HI10.out))))
                repeat (first
                  | (refine wpX_value (v := ?_) rfl (by intros; simp) rfl rfl (fun x => ?_) ?_; rotate_left; (focus (simp [go_sem, hII, ↓IntWalk.iteOmega]; first | done | (with_reducible rfl))); (simp only [Act.put, List.setIfInBounds_toArray, List.set_cons_succ, List.set_cons_zero]))
                  | (refine wpX_str8 (some (ad.add k)) (8 + m) (c - k) B T rfl rfl rfl rfl HTL.out hbs2 hrow4 ?_; (simp only [Act.put, List.setIfInBounds_toArray, List.set_cons_succ, List.set_cons_zero]))
                  | (refine wpX_strM _ rfl rfl rfl rfl ?_; (simp only [Act.put, List.setIfInBounds_toArray, List.set_cons_succ, List.set_cons_zero]))
                  | (refine wpX_callM FR _ _ 45 rfl (by intros; simp) rfl rfl rfl (fun _ => by simp [go_sem]) (fun w' hw' => (hfr.out w' hw').mono fun _ _ h => h.sl') ?_; (simp only [Act.put, List.setIfInBounds_toArray, List.set_cons_succ, List.set_cons_zero])))
                (refine wpX_nil ?_; intro xb wx hxg xl; obtain ⟨xf, xe⟩ := LikeAll.end_ xl; clear xl; subst xe; try simp only [fill, List.foldl_cons, List.foldl_nil, Act.put, List.setIfInBounds_toArray, List.set_cons_succ, List.set_cons_zero])
                clear hI8 hI9 hII
                have hBwx : Below w.heap.size w wx := hBw2.trans (hxg.mono hBw2.size)
                go_wp2_with fail
                go_ret3
                exact scan_gives (st := 2) (hO2.below hxg) HS.out (by rw [← HRR.out]; exact ref_bad h8R (by rw [← HMM.out]; exact cm) (by rw [← HMM.out, HRL.out]; exact ct) (by rw [← HMM.out, ← HPP.out, ← HTT.out, ← HFR.out]; exact hsum)) hBwx
            · have hcut2 : ¬ 8 = c - k := by omega
              have hP : Sl wr B (some ⟨(ad.add k).block, (ad.add k).off + 8, none⟩) m (c - k - 8) P := (by have h1 := hR.mid 8 (8 + m) (by omega) (by omega); have e : 8 + m - 8 = m := (by omega); rw [e] at h1; rw [← HPP.out] at h1; exact h1)
              go_wp2_with fail
              refine HRD.out.mono ?_
              rintro e w1 ⟨rfl, k1, hk1⟩
              have hBw1 : Grew wr w1 := by subst hk1; exact Grew.drewN wr k1
              have hP1 := (hP.below (hBw1.mono hbs)).alloc (Nat.le_trans hbs hBw1.size) (.cells #[] 5)
              have hT1 := hT.below (hBw1.mono hbs)
              have hO1 := hO.below hBw1
              have hBwr1 := hBw.trans (hBw1.mono hBw.size)
              have hs1 := hBw1.size
              have hE1 := OwnB.empty w1 w1.heap.size (Nat.le_refl _)
              have hltA2 : ∀ g, blk A2 = some g → g < w1.heap.size := by
                obtain ⟨_, ho, _⟩ := hO1
                exact fun g hg => (ho.lt g hg).2
              clear hk1 hP hO hBw HRD hR hT
              go_wp2_with (at_builtin; go_loud (refine wpList_app8 rfl (.tmp 37) (.tmp 42) 25 rfl (.inl ⟨_, Try.underlying25⟩) w1.heap.size _ _ _ [] rfl hE1 (8 + m - 8) P (Src.slice (by simp; omega) hP1.2.2.2) (.inl (by omega)) (by simp) ?_); intro A3 cap3 w2 hO3 hg3 hB3 hb3; rw [HE8.out] at hO3 ⊢; simp only [List.nil_append] at hO3)
              have hB13 : Grew w1 w2 := ((Below.refl _ _).alloc (Nat.le_refl _) _).trans hB3
              have hO2 := hO1.below hB13
              have hT2 := hT1.below (hB13.mono (Nat.le_trans hbs hs1))
              have hBw2 : Below w.heap.size w w2 := hBwr1.trans (hB13.mono hBwr1.size)
              have hs2 := hB13.size
              have hne : ∀ g, blk A3 = some g → blk A2 ≠ some g := fun g hg e2 => by
                have h1 := (hO3.lt g hg).1
                have h2 := hltA2 g e2
                omega
              have hSl3 := hO3.sl
              have hlt3 : ∀ g, blk A3 = some g → g < w2.heap.size := fun g hg => (hO3.lt g hg).2
              have hle3 := hO3.le
              have hrow3 := hO3.row
              have hrow4 : Row w2 B (some (ad.add k)) ((R.take (8 + m)).map b8) := hT2.2.2.2
              have hTl : (R.take (8 + m)).length = 8 + m := hT2.1
              have HTL := Lib.hid hTl
              have hbs2 : B ≤ w2.heap.size := by omega
              clear hO1 hB3 hltA2 hO3 hE1 hP1 hT1 hBwr1 hB13 hTl hg3 hb3 hT2
              have hI8 := HI8.out
              have hI9 := HI9.out
              obtain ⟨T, hTT⟩ : ∃ T, T = R.take (8 + m) := ⟨_, rfl⟩
              rw [← hTT] at hrow4 HTL
              have HTT := Lib.hid hTT
              clear hTT
              by_cases hsum : FrameP.frame P = T
              · have hfr := fun w' (hg : Grew w2 w') => ref_frame A3 m cap3 w2.heap.size P w' (hSl3.below hg) hg.size (by omega)
                rw [hsum] at hfr
                have HFR := Lib.hid hfr
                have HSUM := Lib.hid hsum
                clear hsum hfr hSl3
                go_upto_region 13 with fail
                refine wp_region_x [45] (by kernel_rfl) (by kernel_rfl) (by kernel_rfl) ?_
                simp only [blank, List.foldl_cons, List.foldl_nil, Act.put, List.setIfInBounds_toArray, List.set_cons_succ, List.set_cons_zero]
                have hII := And.intro hI8 (And.intro hI9 (And.intro hI5 (And.intro hI6 HI10.out)))
                repeat (first
                  | (refine wpX_value (v := ?_) rfl (by intros; simp) rfl rfl (fun x => ?_) ?_; rotate_left; (focus (simp [go_sem, hII, ↓IntWalk.iteOmega]; first | done | (with_reducible rfl))); (simp only [Act.put, List.setIfInBounds_toArray, List.set_cons_succ, List.set_cons_zero]))
                  | (refine wpX_str8 (some (ad.add k)) (8 + m) (c - k) B T rfl rfl rfl rfl HTL.out hbs2 hrow4 ?_; (simp only [Act.put, List.setIfInBounds_toArray, List.set_cons_succ, List.set_cons_zero]))
                  | (refine wpX_strM _ rfl rfl rfl rfl ?_; (simp only [Act.put, List.setIfInBounds_toArray, List.set_cons_succ, List.set_cons_zero]))
                  | (refine wpX_callM T _ _ 45 rfl (by intros; simp) rfl rfl rfl (fun _ => by simp [go_sem]) (fun w' hw' => (HFR.out w' hw').mono fun _ _ h => h.sl') ?_; (simp only [Act.put, List.setIfInBounds_toArray, List.set_cons_succ, List.set_cons_zero])))
                (refine wpX_nil ?_; intro xb wx hxg xl; obtain ⟨xf, xe⟩ := LikeAll.end_ xl; clear xl; subst xe; try simp only [fill, List.foldl_cons, List.foldl_nil, Act.put, List.setIfInBounds_toArray, List.set_cons_succ, List.set_cons_zero])
                clear hI8 hI9 hII
                have hO5 := hO2.below hxg
                have hBwx : Below w.heap.size w wx := hBw2.trans (hxg.mono hBw2.size)
                have hrow5 := (hrow3.below hxg).more hxg.size
                have hlt5 : ∀ g, blk A3 = some g → g < wx.heap.size := fun g hg => Nat.lt_of_lt_of_le (hlt3 g hg) hxg.size
                clear hO2 hBw2 hrow3 hlt3 hrow4
                have hPm := Lib.hid (show m = P.length by omega)
                go_wp2_with (at_builtin; rw [hPm.out]; refine wpList_appL rfl (.tmp 56) (.tmp 58) rfl w.heap.size _ _ _ ll rfl (hO5.alloc _) _ 1 A3 cap3 P rfl (Row.new _ _ _ _ _ _ rfl (by simp) _ rfl) (by omega) hle3.2 ((hrow5.alloc (Nat.le_refl _) _).more (by simp)) hne (fun g hg => by have := hlt5 g hg; simp; omega) (by omega) (by have := hBwx.size; simp; omega) ?_; intro A5 cap5 w5 hO6 hB5)
                have hBw5 : Below w.heap.size w w5 := (hBwx.alloc hBwx.size _).trans hB5
                go_roundw
                case rel => exact ⟨k + (8 + P.length), ll ++ [P], _, _, _, by omega, by rw [HPL.out]; go_num, rfl, hO6, scan_next HS.out (by rw [← HRR.out, HPP.out]; rw [HMM.out]; exact ref_good h8R (by rw [← HMM.out]; exact cm) (by rw [← HMM.out, HRL.out]; exact ct) (by rw [← HMM.out, ← HPP.out, ← HTT.out]; exact HSUM.out)), by omega, hBw5⟩
                case measure => simp [intOf]; omega
              · have hfr := Lib.hid (fun w' (hg : Grew w2 w') => ref_frame A3 m cap3 w2.heap.size P w' (hSl3.below hg) hg.size (by omega))
                obtain ⟨FR, hFR⟩ : ∃ FR, FR = FrameP.frame P := ⟨_, rfl⟩
                rw [← hFR] at hsum hfr
                have HFR := Lib.hid hFR
                clear hSl3 hFR
                go_upto_region 13 with fail
                refine wp_region_x [45] (by kernel_rfl) (by kernel_rfl) (by kernel_rfl) ?_
                simp only [blank, List.foldl_cons, List.foldl_nil, Act.put, List.setIfInBounds_toArray, List.set_cons_succ, List.set_cons_zero]
                have hII := And.intro (show (FR == T) = false from beq_eq_false_iff_ne.2 hsum) (And.intro hI8 (And.intro hI9 (And.intro hI5 (And.intro hI6 HI10.out))))
                repeat (first
                  | (refine wpX_value (v := ?_) rfl (by intros; simp) rfl rfl (fun x => ?_) ?_; rotate_left; (focus (simp [go_sem, hII, ↓IntWalk.iteOmega]; first | done | (with_reducible rfl))); (simp only [Act.put, List.setIfInBounds_toArray, List.set_cons_succ, List.set_cons_zero]))
                  | (refine wpX_str8 (some (ad.add k)) (8 + m) (c - k) B T rfl rfl rfl rfl HTL.out hbs2 hrow4 ?_; (simp only [Act.put, List.setIfInBounds_toArray, List.set_cons_succ, List.set_cons_zero]))
                  | (refine wpX_strM _ rfl rfl rfl rfl ?_; (simp only [Act.put, List.setIfInBounds_toArray, List.set_cons_succ, List.set_cons_zero]))
                  | (refine wpX_callM FR _ _ 45 rfl (by intros; simp) rfl rfl rfl (fun _ => by simp [go_sem]) (fun w' hw' => (hfr.out w' hw').mono fun _ _ h => h.sl') ?_; (simp only [Act.put, List.setIfInBounds_toArray, List.set_cons_succ, List.set_cons_zero])))
                (refine wpX_nil ?_; intro xb wx hxg xl; obtain ⟨xf, xe⟩ := LikeAll.end_ xl; clear xl; subst xe; try simp only [fill, List.foldl_cons, List.foldl_nil, Act.put, List.setIfInBounds_toArray, List.set_cons_succ, List.set_cons_zero])
                clear hI8 hI9 hII
                have hBwx : Below w.heap.size w wx := hBw2.trans (hxg.mono hBw2.size)
                go_wp2_with fail
                go_ret3
                exact scan_gives (st := 2) (hO2.below hxg) HS.out (by rw [← HRR.out]; exact ref_bad h8R (by rw [← HMM.out]; exact cm) (by rw [← HMM.out, HRL.out]; exact ct) (by rw [← HMM.out, ← HPP.out, ← HTT.out, ← HFR.out]; exact hsum)) hBwx
    · obtain rfl : k = l.length := by omega
      go_wp2_with fail
      go_ret3
      exact scan_gives (st := 0) hO hs (by rw [List.drop_length]; rfl) hBw
end Go.Proofs.Ytkcadkkbgahgaaa
