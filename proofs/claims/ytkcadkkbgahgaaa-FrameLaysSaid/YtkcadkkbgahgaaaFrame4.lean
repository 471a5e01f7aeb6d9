/- The walk of frame.Scan. -/
import Derived.Test.YtkcadkkbgahgaaaFrame3
namespace Go.Proofs.Ytkcadkkbgahgaaa
open Go.RowKit
set_option linter.unusedVariables false
/-- what a scan answers -/
def ScanGives (w : World) (l : List UInt8) (e : Ending) (w' : World) : Prop :=
  ∃ A n c, e = .returned (.tuple #[.slice A n c, .int .i64 ((FrameP.scan l).2.1 : Nat), .int .i64 ((FrameP.scan l).2.2 : Nat)]) ∧ OwnLL w' w.heap.size A n c (FrameP.scan l).1 ∧ Below w.heap.size w w'
theorem scan_gives {w w' : World} {l : List UInt8} {A2 : Option Addr} {n2 c2 k st : Nat} {ll : List (List UInt8)} (hO : OwnLL w' w.heap.size A2 n2 c2 ll) (hs : FrameP.behind ll k (FrameP.scan (l.drop k)) = FrameP.scan l) (hst : FrameP.step (l.drop k) = .inl st) (hB : Below w.heap.size w w') :
    ScanGives w l (.returned (.tuple #[.slice A2 n2 c2, .int .i64 (k : Int), .int .i64 (st : Int)])) w' := by
  rw [FrameP.scan_end hst] at hs
  unfold ScanGives
  rw [← hs]
  refine ⟨A2, n2, c2, by simp [FrameP.behind], ?_, hB⟩
  simpa [FrameP.behind] using hO
theorem step_torn {r : List UInt8} (h0 : 0 < r.length) (h : r.length < 8) : FrameP.step r = .inl 1 := by unfold FrameP.step; rw [if_neg (by omega), if_pos h]
theorem step_big {r : List UInt8} (h : 8 ≤ r.length) (hm : 65536 < (FrameP.at4 r 0).toNat) : FrameP.step r = .inl 2 := by unfold FrameP.step; rw [if_neg (by omega), if_neg (by omega), if_pos hm]
theorem step_short {r : List UInt8} (h : 8 ≤ r.length) (hm : ¬ 65536 < (FrameP.at4 r 0).toNat) (ht : r.length - 8 < (FrameP.at4 r 0).toNat) : FrameP.step r = .inl 1 := by unfold FrameP.step; rw [if_neg (by omega), if_neg (by omega), if_neg hm, if_pos ht]
theorem step_bad {r : List UInt8} (h : 8 ≤ r.length) (hm : ¬ 65536 < (FrameP.at4 r 0).toNat) (ht : ¬ r.length - 8 < (FrameP.at4 r 0).toNat) (hs : ¬ FrameP.at4 r 4 = FrameP.sum (r.take 4) ((r.drop 8).take (FrameP.at4 r 0).toNat)) : FrameP.step r = .inl 2 := by unfold FrameP.step; rw [if_neg (by omega), if_neg (by omega), if_neg hm, if_neg ht, if_neg hs]
theorem step_good {r : List UInt8} (h : 8 ≤ r.length) (hm : ¬ 65536 < (FrameP.at4 r 0).toNat) (ht : ¬ r.length - 8 < (FrameP.at4 r 0).toNat) (hs : FrameP.at4 r 4 = FrameP.sum (r.take 4) ((r.drop 8).take (FrameP.at4 r 0).toNat)) : FrameP.step r = .inr ((r.drop 8).take (FrameP.at4 r 0).toNat) := by unfold FrameP.step; rw [if_neg (by omega), if_neg (by omega), if_neg hm, if_neg ht, if_pos hs]
theorem scan_next {l : List UInt8} {k : Nat} {ll : List (List UInt8)} {p : List UInt8} (hs : FrameP.behind ll k (FrameP.scan (l.drop k)) = FrameP.scan l) (hst : FrameP.step (l.drop k) = .inr p) :
    FrameP.behind (ll ++ [p]) (k + (8 + p.length)) (FrameP.scan (l.drop (k + (8 + p.length)))) = FrameP.scan l := by
  rw [FrameP.scan_on hst, FrameP.behind_onto, List.drop_drop] at hs
  exact hs
set_option maxRecDepth 4000 in
set_option maxHeartbeats 2000000 in
theorem frame_scan (A : Option Addr) (n c B : Nat) (l : List UInt8) (w : World) (h : Sl w B A n c l) (hB : B ≤ w.heap.size) (hm : n ≤ 1099511627776) :
    Calls Try.prog 21 #[.slice A n c] w (ScanGives w l) := by
  obtain ⟨hn, hnc, hcm, hr⟩ := id h
  subst hn
  unfold maxLen at hcm
  go_enter Try.func21, Try.ntmps21
  go_wp2_with fail
  go_loopw [2, 3] (fun ps u wr => ∃ (k : Nat) (ll : List (List UInt8)) (A2 : Option Addr) (n2 c2 : Nat), k ≤ l.length ∧ u = .int .i64 (k : Int) ∧ ps = .slice A2 n2 c2 ∧ OwnLL wr w.heap.size A2 n2 c2 ll ∧ FrameP.behind ll k (FrameP.scan (l.drop k)) = FrameP.scan l ∧ 8 * n2 ≤ k ∧ Below w.heap.size w wr) (fun _ u _ => l.length - (intOf u).toNat)
  case atStart => exact ⟨0, [], none, 0, 0, Nat.zero_le _, rfl, rfl, OwnLL.nil _ _, FrameP.behind_nil _, by omega, Below.refl _ _⟩
  case round =>
    obtain ⟨k, ll, A2, n2, c2, hk, rfl, rfl, hO, hs, h8, hBw⟩ := hrel
    by_cases hlt : k < l.length
    · obtain ⟨ad, hA, _, _⟩ := hr.at_ k (by simpa using hlt)
      subst hA
      have hR := (h.below (hBw.mono hB)).mid k l.length hk (Nat.le_refl _)
      have e1 : (l.drop k).take (l.length - k) = l.drop k := List.take_of_length_le (by simp)
      rw [e1] at hR
      have HS := Lib.hid hs
      clear e1 hs h hr
      obtain ⟨R, hRR⟩ : ∃ R, R = l.drop k := ⟨_, rfl⟩
      have hRl : R.length = l.length - k := by rw [hRR]; simp
      rw [← hRR] at hR
      have HRR := Lib.hid hRR
      have HRL := Lib.hid hRl
      clear hRR hRl
      have hI1 : (k : Int) < (l.length : Int) := by omega
      have hI2 : (k : Int) ≤ (l.length : Int) := by omega
      have hI3 : ¬ c = k := by omega
      by_cases c8 : l.length - k < 8
      · have c8' : ((l.length - k : Nat) : Int) < 8 := by omega
        go_wp2_with fail
        go_ret3
        exact scan_gives (st := 1) hO HS.out (by rw [← HRR.out]; exact step_torn (by rw [HRL.out]; omega) (by rw [HRL.out]; exact c8)) hBw
      · have c8' : ¬ ((l.length - k : Nat) : Int) < 8 := by omega
        obtain ⟨m, hmm⟩ : ∃ m : Nat, m = (FrameP.at4 R 0).toNat := ⟨_, rfl⟩
        have hm32 : m < 4294967296 := by rw [hmm]; exact lt32 _
        have hrd := frame_read (some (ad.add k)) (l.length - k) (c - k) B R wr HRL.out (by omega) (by unfold maxLen; omega) hR.2.2.2
        have em : bv32 (FrameP.at4 R 0) = (m : Int) := by rw [hmm]; rfl
        rw [em] at hrd
        have HRD := Lib.hid hrd
        have HMM := Lib.hid hmm
        have h8R : 8 ≤ R.length := by rw [HRL.out]; omega
        clear em hrd hmm
        by_cases cm : 65536 < m
        · have cm' : (65536 : Int) < (m : Int) := by omega
          go_wp2_with fail
          refine HRD.out.mono ?_
          rintro e w1 ⟨rfl, k1, rfl⟩
          go_wp2_with fail
          go_ret3
          exact scan_gives (st := 2) (hO.below (Grew.drewN wr k1)) HS.out (by rw [← HRR.out]; exact step_big h8R (by rw [← HMM.out]; exact cm)) (hBw.trans ((Grew.drewN wr k1).mono hBw.size))
        · have cm' : ¬ (65536 : Int) < (m : Int) := by omega
          by_cases ct : l.length - k - 8 < m
          · have ct' : ((l.length - k : Nat) : Int) - 8 < (m : Int) := by omega
            go_wp2_with fail
            refine HRD.out.mono ?_
            rintro e w1 ⟨rfl, k1, rfl⟩
            go_wp2_with fail
            go_ret3
            exact scan_gives (st := 1) (hO.below (Grew.drewN wr k1)) HS.out (by rw [← HRR.out]; exact step_short h8R (by rw [← HMM.out]; exact cm) (by rw [← HMM.out, HRL.out]; exact ct)) (hBw.trans ((Grew.drewN wr k1).mono hBw.size))
          · have ct' : ¬ ((l.length - k : Nat) : Int) - 8 < (m : Int) := by omega
            have hI4 : (8 : Int) + (m : Int) ≤ ((l.length - k : Nat) : Int) := by omega
            have hbs : B ≤ wr.heap.size := Nat.le_trans hB hBw.size
            obtain ⟨P, hPP⟩ : ∃ P, P = (R.drop 8).take m := ⟨_, rfl⟩
            have hPl : P.length = m := by rw [hPP]; simp [HRL.out]; omega
            have hP8 : P.length = 8 + m - 8 := by omega
            have e4 : FrameP.at4 (R.drop 4) 0 = FrameP.at4 R 4 := by
              obtain ⟨a0, a1, a2, a3, a4, a5, a6, a7, t, rfl⟩ := FrameP.eight h8R
              rfl
            have H44 := Lib.hid e4
            have HPP := Lib.hid hPP
            have HPL := Lib.hid hPl
            have hPle : P.length ≤ m := by omega
            have hPge : m ≤ P.length := by omega
            have hP9 : Hid (P.length = 8 + m - 8) := Lib.hid hP8
            clear e4 hPP hPl hP8
            have hq1 : 4 ≤ l.length - k := by omega
            have hq2 : (4 : Int) ≤ ((l.length - k : Nat) : Int) := by omega
            have hq3 : ¬ c - k = 4 := by omega
            have hq4 : ¬ 4 = c - k := by omega
            have hq5 : 4 ≤ c - k := by omega
            have hq6 : (4 : Int) ≤ ((c - k : Nat) : Int) := by omega
            have hq7 : l.length - k ≤ c - k := by omega
            by_cases hcut : c - k ≤ 8
            · have hcut2 : 8 ≤ c - k := by omega
              have hP : Sl wr B (some (ad.add k)) m 0 P := (by have e : P = [] := List.eq_nil_of_length_eq_zero (by omega); rw [e]; have e2 : m = 0 := (by omega); rw [e2]; exact Sl.zero (by unfold maxLen; omega))
              go_wp2_with fail
              refine HRD.out.mono ?_
              rintro e w1 ⟨rfl, k1, hk1⟩
              have hBw1 : Grew wr w1 := by subst hk1; exact Grew.drewN wr k1
              have H4 := Lib.hid (show ∀ q, Calls Try.prog 29 #[.slice (some ⟨(ad.add k).block, (ad.add k).off + 4, none⟩) (l.length - k - 4) (c - k - 4)] (w1.drewN q) fun e w' => e = .returned (.int .u32 (bv32 (FrameP.at4 R 4))) ∧ ∃ m, w' = (w1.drewN q).drewN m from fun q => by
                have h1 := (hR.below (hBw1.mono hbs)).mid 4 (l.length - k) (by omega) (Nat.le_refl _)
                have h2 : (R.drop 4).take (l.length - k - 4) = R.drop 4 := List.take_of_length_le (by simp [HRL.out])
                rw [h2] at h1
                have h3 := frame_read (some ((ad.add k).add 4)) (l.length - k - 4) (c - k - 4) B (R.drop 4) (w1.drewN q) (by simp [HRL.out]) (by omega) (by unfold maxLen; omega) h1.2.2.2
                rw [H44.out] at h3
                exact h3)
              have HS4 := Lib.hid (show ∀ q, Calls Try.prog 28 #[.slice (some (ad.add k)) 4 (c - k), .slice (some (ad.add k)) m 0] (w1.drewN q) fun e w' => e = .returned (.int .u32 (bv32 (FrameP.sum (R.take 4) P))) ∧ w' = w1.drewN q from fun q => by
                have h1 := (hR.below (hBw1.mono hbs)).mid 0 4 (by omega) (by omega)
                have hP1 := hP.below (hBw1.mono hbs)
                exact (frame_sum (some (ad.add k)) 4 (c - k) B (R.take 4) (some (ad.add k)) m 0 B P (w1.drewN q) (by simp; omega) h1.2.2.2 (by decide) hP1.1 hP1.2.2.2 (by unfold maxLen; omega)).mono fun _ _ ⟨a, b⟩ => ⟨a, b.symm⟩)
              have hP1 := hP.below (hBw1.mono hbs)
              have hO1 := hO.below hBw1
              have hBwr1 := hBw.trans (hBw1.mono hBw.size)
              have hs1 := hBw1.size
              clear hk1 hP hO hBw HRD hR
              by_cases hsum : FrameP.at4 R 4 = FrameP.sum (R.take 4) P
              · have hb : (bv32 (FrameP.at4 R 4) != bv32 (FrameP.sum (R.take 4) P)) = false := by rw [hsum]; simp
                have HSUM := Lib.hid hsum
                clear hsum
                go_wp2_with fail
                go_quiet ((first | (go_at_call 29; exact Calls.quiet_of (H4.out _)) | (go_at_call 28; exact Calls.quiet_of_same (HS4.out _))))
                go_wp2_with fail
                refine (clone8 (some (ad.add k)) m 0 P B (w1.drewN nq) hP1.1 hP1.2.2.2 (Nat.le_trans hbs hs1) (by omega)).mono ?_
                rintro e w2 ⟨A3, n3, c3, rfl, hO3, hB3⟩
                have hn3 : n3 = P.length := hO3.len.symm
                subst hn3
                have hO2 := (hO1.below (Grew.drewN w1 nq)).below hB3
                have hBw2 : Below w.heap.size w w2 := hBwr1.trans ((Grew.drewN w1 nq).trans hB3 |>.mono hBwr1.size)
                have hn2 := hO1.len
                have hltA2 : ∀ g, blk A2 = some g → g < w1.heap.size := by
                  obtain ⟨_, ho, _⟩ := hO1
                  exact fun g hg => (ho.lt g hg).2
                have hne : ∀ g, blk A3 = some g → blk A2 ≠ some g := fun g hg e2 => by
                  have h1 := (hO3.lt g hg).1
                  have h2 := hltA2 g e2
                  simp only [World.drewN] at h1
                  omega
                have hlt3 : ∀ g, blk A3 = some g → g < w2.heap.size := fun g hg => (hO3.lt g hg).2
                have hle3 := hO3.le
                have hrow3 := hO3.row
                clear hO1 hB3 hltA2 hO3 hn2
                go_wp2_with (at_builtin; refine wpList_appL rfl (.tmp 51) (.tmp 54) rfl w.heap.size _ _ _ ll rfl (hO2.alloc _) _ 1 A3 c3 P rfl (Row.new _ _ _ _ _ _ rfl (by simp) _ rfl) hle3.1 hle3.2 ((hrow3.alloc (Nat.le_refl _) _).more (by simp)) hne (fun g hg => by have := hlt3 g hg; simp; omega) (by omega) (by have := hBw2.size; simp; omega) ?_; intro A5 cap5 w5 hO5 hB5)
                have hBw5 : Below w.heap.size w w5 := (hBw2.alloc hBw2.size _).trans hB5
                go_roundw
                case rel => exact ⟨k + (8 + P.length), ll ++ [P], _, _, _, by omega, by rw [HPL.out]; go_num, rfl, hO5, scan_next HS.out (by rw [← HRR.out, HPP.out]; rw [HMM.out]; exact step_good h8R (by rw [← HMM.out]; exact cm) (by rw [← HMM.out, HRL.out]; exact ct) (by rw [← HMM.out, ← HPP.out]; exact HSUM.out)), by omega, hBw5⟩
                case measure => simp [intOf]; omega
              · have hb : (bv32 (FrameP.at4 R 4) != bv32 (FrameP.sum (R.take 4) P)) = true := by rw [bne_iff_ne]; intro e2; exact hsum ((u32_inj _ _).1 e2)
                go_wp2_with fail
                go_quiet ((first | (go_at_call 29; exact Calls.quiet_of (H4.out _)) | (go_at_call 28; exact Calls.quiet_of_same (HS4.out _))))
                go_wp2_with fail
                go_ret3
                exact scan_gives (st := 2) (hO1.below (Grew.drewN w1 nq)) HS.out (by rw [← HRR.out]; exact step_bad h8R (by rw [← HMM.out]; exact cm) (by rw [← HMM.out, HRL.out]; exact ct) (by rw [← HMM.out, ← HPP.out]; exact hsum)) (hBwr1.trans ((Grew.drewN w1 nq).mono hBwr1.size))
            · have hcut2 : ¬ 8 = c - k := by omega
              have hP : Sl wr B (some ⟨(ad.add k).block, (ad.add k).off + 8, none⟩) m (c - k - 8) P := (by have h1 := hR.mid 8 (8 + m) (by omega) (by omega); have e : 8 + m - 8 = m := (by omega); rw [e] at h1; rw [← HPP.out] at h1; exact h1)
              go_wp2_with fail
              refine HRD.out.mono ?_
              rintro e w1 ⟨rfl, k1, hk1⟩
              have hBw1 : Grew wr w1 := by subst hk1; exact Grew.drewN wr k1
              have H4 := Lib.hid (show ∀ q, Calls Try.prog 29 #[.slice (some ⟨(ad.add k).block, (ad.add k).off + 4, none⟩) (l.length - k - 4) (c - k - 4)] (w1.drewN q) fun e w' => e = .returned (.int .u32 (bv32 (FrameP.at4 R 4))) ∧ ∃ m, w' = (w1.drewN q).drewN m from fun q => by
                have h1 := (hR.below (hBw1.mono hbs)).mid 4 (l.length - k) (by omega) (Nat.le_refl _)
                have h2 : (R.drop 4).take (l.length - k - 4) = R.drop 4 := List.take_of_length_le (by simp [HRL.out])
                rw [h2] at h1
                have h3 := frame_read (some ((ad.add k).add 4)) (l.length - k - 4) (c - k - 4) B (R.drop 4) (w1.drewN q) (by simp [HRL.out]) (by omega) (by unfold maxLen; omega) h1.2.2.2
                rw [H44.out] at h3
                exact h3)
              have HS4 := Lib.hid (show ∀ q, Calls Try.prog 28 #[.slice (some (ad.add k)) 4 (c - k), .slice (some ⟨(ad.add k).block, (ad.add k).off + 8, none⟩) m (c - k - 8)] (w1.drewN q) fun e w' => e = .returned (.int .u32 (bv32 (FrameP.sum (R.take 4) P))) ∧ w' = w1.drewN q from fun q => by
                have h1 := (hR.below (hBw1.mono hbs)).mid 0 4 (by omega) (by omega)
                have hP1 := hP.below (hBw1.mono hbs)
                exact (frame_sum (some (ad.add k)) 4 (c - k) B (R.take 4) (some ⟨(ad.add k).block, (ad.add k).off + 8, none⟩) m (c - k - 8) B P (w1.drewN q) (by simp; omega) h1.2.2.2 (by decide) hP1.1 hP1.2.2.2 (by unfold maxLen; omega)).mono fun _ _ ⟨a, b⟩ => ⟨a, b.symm⟩)
              have hP1 := hP.below (hBw1.mono hbs)
              have hO1 := hO.below hBw1
              have hBwr1 := hBw.trans (hBw1.mono hBw.size)
              have hs1 := hBw1.size
              clear hk1 hP hO hBw HRD hR
              by_cases hsum : FrameP.at4 R 4 = FrameP.sum (R.take 4) P
              · have hb : (bv32 (FrameP.at4 R 4) != bv32 (FrameP.sum (R.take 4) P)) = false := by rw [hsum]; simp
                have HSUM := Lib.hid hsum
                clear hsum
                go_wp2_with fail
                go_quiet ((first | (go_at_call 29; exact Calls.quiet_of (H4.out _)) | (go_at_call 28; exact Calls.quiet_of_same (HS4.out _))))
                go_wp2_with fail
                refine (clone8 (some ⟨(ad.add k).block, (ad.add k).off + 8, none⟩) m (c - k - 8) P B (w1.drewN nq) hP1.1 hP1.2.2.2 (Nat.le_trans hbs hs1) (by omega)).mono ?_
                rintro e w2 ⟨A3, n3, c3, rfl, hO3, hB3⟩
                have hn3 : n3 = P.length := hO3.len.symm
                subst hn3
                have hO2 := (hO1.below (Grew.drewN w1 nq)).below hB3
                have hBw2 : Below w.heap.size w w2 := hBwr1.trans ((Grew.drewN w1 nq).trans hB3 |>.mono hBwr1.size)
                have hn2 := hO1.len
                have hltA2 : ∀ g, blk A2 = some g → g < w1.heap.size := by
                  obtain ⟨_, ho, _⟩ := hO1
                  exact fun g hg => (ho.lt g hg).2
                have hne : ∀ g, blk A3 = some g → blk A2 ≠ some g := fun g hg e2 => by
                  have h1 := (hO3.lt g hg).1
                  have h2 := hltA2 g e2
                  simp only [World.drewN] at h1
                  omega
                have hlt3 : ∀ g, blk A3 = some g → g < w2.heap.size := fun g hg => (hO3.lt g hg).2
                have hle3 := hO3.le
                have hrow3 := hO3.row
                clear hO1 hB3 hltA2 hO3 hn2
                go_wp2_with (at_builtin; refine wpList_appL rfl (.tmp 51) (.tmp 54) rfl w.heap.size _ _ _ ll rfl (hO2.alloc _) _ 1 A3 c3 P rfl (Row.new _ _ _ _ _ _ rfl (by simp) _ rfl) hle3.1 hle3.2 ((hrow3.alloc (Nat.le_refl _) _).more (by simp)) hne (fun g hg => by have := hlt3 g hg; simp; omega) (by omega) (by have := hBw2.size; simp; omega) ?_; intro A5 cap5 w5 hO5 hB5)
                have hBw5 : Below w.heap.size w w5 := (hBw2.alloc hBw2.size _).trans hB5
                go_roundw
                case rel => exact ⟨k + (8 + P.length), ll ++ [P], _, _, _, by omega, by rw [HPL.out]; go_num, rfl, hO5, scan_next HS.out (by rw [← HRR.out, HPP.out]; rw [HMM.out]; exact step_good h8R (by rw [← HMM.out]; exact cm) (by rw [← HMM.out, HRL.out]; exact ct) (by rw [← HMM.out, ← HPP.out]; exact HSUM.out)), by omega, hBw5⟩
                case measure => simp [intOf]; omega
              · have hb : (bv32 (FrameP.at4 R 4) != bv32 (FrameP.sum (R.take 4) P)) = true := by rw [bne_iff_ne]; intro e2; exact hsum ((u32_inj _ _).1 e2)
                go_wp2_with fail
                go_quiet ((first | (go_at_call 29; exact Calls.quiet_of (H4.out _)) | (go_at_call 28; exact Calls.quiet_of_same (HS4.out _))))
                go_wp2_with fail
                go_ret3
                exact scan_gives (st := 2) (hO1.below (Grew.drewN w1 nq)) HS.out (by rw [← HRR.out]; exact step_bad h8R (by rw [← HMM.out]; exact cm) (by rw [← HMM.out, HRL.out]; exact ct) (by rw [← HMM.out, ← HPP.out]; exact hsum)) (hBwr1.trans ((Grew.drewN w1 nq).mono hBwr1.size))
    · obtain rfl : k = l.length := by omega
      go_wp2_with fail
      go_ret3
      exact scan_gives (st := 0) hO hs (by rw [List.drop_length]; rfl) hBw
end Go.Proofs.Ytkcadkkbgahgaaa
