/- The walk of rolodexlaw4.FrameLays. -/
import Derived.Test.YtkcadkkbgahgaaaFrameJoinsWalk
namespace Go.Proofs.Ytkcadkkbgahgaaa
open Go.RowKit
set_option linter.unusedVariables false
theorem Sl.pre {w : World} {B : Nat} {A : Option Addr} {n c k : Nat} {l : List UInt8} (h : Sl w B A n c l) (hk : k ≤ n) : Sl w B A k c (l.take k) := ⟨by rw [List.length_take, h.1]; omega, by have := h.2.1; omega, h.2.2.1, by rw [List.map_take]; exact h.2.2.2.take k⟩
theorem scan_cut (l : List (List UInt8)) (cut j : Nat) (hl : ∀ p ∈ l, p.length ≤ 65536) (hj : j ≤ l.length) (h0 : (FrameP.frames (l.take j)).length ≤ cut) (h1 : cut ≤ (FrameP.frames l).length) (h2 : ∀ h : j < l.length, cut < (FrameP.frames (l.take j)).length + (8 + l[j].length)) :
    FrameP.scan ((FrameP.frames l).take cut) = (l.take j, (FrameP.frames (l.take j)).length, if (FrameP.frames (l.take j)).length = cut then 0 else 1) := by
  have e : FrameP.frames l = FrameP.frames (l.take j) ++ FrameP.frames (l.drop j) := by rw [← FrameP.frames_append, List.take_append_drop]
  have hsc := FrameP.scan_frames (l.take j) ((FrameP.frames (l.drop j)).take (cut - (FrameP.frames (l.take j)).length)) (fun p hp => hl p (List.mem_of_mem_take hp))
  rw [e, List.take_append, List.take_of_length_le h0, hsc]
  by_cases hc : (FrameP.frames (l.take j)).length = cut
  · rw [if_pos hc, hc, Nat.sub_self, List.take_zero, FrameP.scan_nil]
    simp [FrameP.behind]
  · rw [if_neg hc]
    have hjl : j < l.length := by
      rcases Nat.lt_or_ge j l.length with h | h
      · exact h
      · rw [List.take_of_length_le h] at h0 hc
        omega
    have h3 := h2 hjl
    have ed : l.drop j = l[j] :: l.drop (j + 1) := List.drop_eq_getElem_cons hjl
    rw [ed, FrameP.frames]
    have hfl := FrameP.frame_len l[j]
    rw [List.take_append_of_le_length (by omega), FrameP.scan_end (FrameP.step_cut l[j] (cut - (FrameP.frames (l.take j)).length) (hl _ (List.getElem_mem hjl)) (by omega) (by omega))]
    simp [FrameP.behind]
set_option maxRecDepth 4000 in
set_option maxHeartbeats 2000000 in
theorem frameLays_walk (A0 : Option Addr) (n0 c0 : Nat) (l0 : List (List UInt8)) (a1 : Int) (w : World) (b0 : LBytesIn w A0 n0 c0 l0) (z0 : n0 * 24 ≤ 140737488351232) (w1 : (Lit.int .i64 a1).wf = true) :
    Calls Try.prog 10 #[.slice A0 n0 c0, .int .i64 a1] w fun e w' => e = .returned (.bool true) ∧ Below w.heap.size w w' := by
  obtain ⟨hn0, hnc0, hcm0, hr0⟩ := b0
  subst hn0
  have hL0 : LSl w w.heap.size A0 l0.length c0 l0 := ⟨rfl, hnc0, hcm0, hr0⟩
  unfold maxLen at hcm0
  clear w1
  go_enter Try.func10, Try.ntmps10
  go_wp2_with fail
  refine (awake4 w).mono ?_
  rintro e w1 ⟨rfl, hB1⟩
  by_cases h30 : 30 < l0.length
  · have h30' : (30 : Int) < (l0.length : Int) := by omega
    go_wp2_with fail
    go_ret
    exact ⟨rfl, hB1⟩
  have h30' : ¬ (30 : Int) < (l0.length : Int) := by omega
  go_wp2_with fail
  go_loopw [5, 6, 7] (fun f v i wr => ∃ (k : Nat) (A n c A2 n2 c2 : _), k ≤ l0.length ∧ i = .int .i64 (k : Int) ∧ f = .slice A n c ∧ v = .slice A2 n2 c2 ∧ OwnB wr w.heap.size A n c (FrameP.frames (l0.take k)) ∧ OwnB wr w.heap.size A2 n2 c2 (FrameP.frames (l0.take k)) ∧ n ≤ 2008 * k ∧ n2 ≤ 2008 * k ∧ (∀ p ∈ l0.take k, p.length ≤ 2000) ∧ Below w.heap.size w wr) (fun _ _ i _ => l0.length - (intOf i).toNat)
  case atStart => exact ⟨0, none, 0, 0, none, 0, 0, Nat.zero_le _, rfl, rfl, rfl, Own.nil _ _ _ _, Own.nil _ _ _ _, by omega, by omega, by simp, hB1⟩
  case round =>
    obtain ⟨k, A, n, c, A2, n2, c2, hk, rfl, rfl, rfl, hO, hO2, hn5, hn25, hall, hB⟩ := hrel
    clear hB1
    have HALL := Lib.hid hall
    clear hall
    have hsr := hB.size
    by_cases hlt : k < l0.length
    · obtain ⟨ad, A', c', hA, hab, hcell0, h3, h4, hrow0⟩ := hr0 k l0[k] (List.getElem?_eq_getElem hlt)
      subst hA
      have hI1 : (k : Int) < (l0.length : Int) := by omega
      have HFT := Lib.hid (frames_take' l0 k hlt)
      have HTK := Lib.hid (show l0.take (k + 1) = l0.take k ++ [l0[k]] from List.take_succ_eq_append_getElem hlt)
      obtain ⟨x, hx⟩ : ∃ x, x = l0[k] := ⟨_, rfl⟩
      rw [← hx] at hcell0 h3 hrow0 HFT HTK
      have HX := Lib.hid (fun (wy : World) (hb : Below w.heap.size w wy) => And.intro ((hb.cell (p := ad.add k) (by rw [add_block]; exact hab)).trans hcell0) (hrow0.below hb))
      clear hx hcell0 hrow0
      obtain ⟨hcell, hrow⟩ := HX.out wr hB
      by_cases h2k : 2000 < x.length
      · have h500' : (2000 : Int) < (x.length : Int) := by omega
        go_wp2_with fail
        go_ret
        exact ⟨rfl, hB⟩
      · have h500' : ¬ (2000 : Int) < (x.length : Int) := by omega
        go_wp2_with fail
        refine (frame_append A n c _ A' x.length c' x wr hO.sl ⟨rfl, h3, h4, hrow.more hsr⟩ (by omega) (by omega)).mono ?_
        rintro e w5 ⟨A5, n5, c5, rfl, hO5, hB5⟩
        have hn5' : n5 ≤ 2008 * (k + 1) := by rw [← hO5.len, List.length_append, FrameP.frame_len, hO.len]; omega
        have hBw5 := hB.trans (hB5.mono hsr)
        have hs5 := hBw5.size
        have hO25 := hO2.below_all hB5
        have hlt2 := fun g hg => (hO2.lt g hg).2
        obtain ⟨hcell5, hrow5⟩ := HX.out w5 hBw5
        clear hO hB hcell hrow hO2
        go_wp2_with fail
        refine (ref_frame A' x.length c' w.heap.size x w5 ⟨rfl, h3, h4, hrow5⟩ hs5 (by omega)).mono ?_
        rintro e w6 ⟨A6, n6, c6, rfl, hO6, hB6⟩
        have hn6 : n6 ≤ 2008 := by rw [← hO6.len, FrameP.frame_len]; omega
        have hBw6 := hBw5.trans (hB6.mono hs5)
        have hO56 := hO5.below_all hB6
        have hO26 := hO25.below_all hB6
        have hl6 := Lib.hid hO6.len
        have hrow6 := hO6.row
        clear hO25 hO5 hB6 hO6
        have hl56 := Lib.hid hO56.len
        have hl26 := Lib.hid (show (FrameP.frames (l0.take k) ++ FrameP.frame x).length = n2 + n6 by rw [List.length_append, hO26.len, hl6.out])
        go_wp2_with (first | (at_builtin; refine wpList_app8 rfl (.tmp 41) (.tmp 46) 25 rfl (.inl ⟨_, Try.underlying25⟩) w.heap.size _ _ _ _ rfl hO26 n6 (FrameP.frame x) (Src.slice (by simp [hl6.out]) hrow6) (.inl (by omega)) hBw6.size ?_; intro A7 cap7 w7 hO7 hg7 hB7 hb7; have hO57 := hO56.other hg7 (fun g e e2 => by have h1 := (hO56.lt g e).1; have h2 := hlt2 g e2; omega); have hr57 := hO57.row; have hr7 := hO7.row) | (refine wpList_str8 (dst := some 52) A5 n5 c5 w7.heap.size _ rfl rfl hl56.out hr57 ?_) | (refine wpList_str8 (dst := some 54) A7 (n2 + n6) cap7 w7.heap.size _ rfl rfl hl26.out hr7 ?_))
        go_roundw
        case rel => exact ⟨k + 1, A5, n5, c5, A7, _, cap7, by omega, by go_num, rfl, rfl, by rw [HFT.out]; exact Own.lower hO57 hsr, by rw [HFT.out]; exact hO7, hn5', by omega, by rw [HTK.out]; intro p hp; simp only [List.mem_append, List.mem_singleton] at hp; rcases hp with hp | rfl; exact HALL.out p hp; omega, hBw6.trans hB7⟩
        case measure => simp [intOf]; omega
    · obtain rfl : k = l0.length := by omega
      rw [List.take_length] at hO hO2 HALL
      have hl := hO.len
      have hle := hO.le
      have hall := FrameP.scan_all l0 (fun p hp => by have := HALL.out p hp; omega)
      have hcuts := fun cut j => scan_cut l0 cut j (fun p hp => by have := HALL.out p hp; omega)
      obtain ⟨F, hF⟩ : ∃ F, F = FrameP.frames l0 := ⟨_, rfl⟩
      rw [← hF] at hO hl hall
      subst hl
      have HSC := Lib.hid hall
      have HCUTS := Lib.hid hcuts
      have HF := Lib.hid hF
      have hS := hO.sl
      clear hF hall hcuts hO2 hO
      go_wp2_with fail
      refine (frame_scan A F.length c wr.heap.size F wr hS (Nat.le_refl _) (by omega)).mono ?_
      rintro e w5 ⟨A5, n5, c5, rfl, hO5, hB5⟩
      rw [HSC.out] at hO5 ⊢
      simp only at hO5 ⊢
      have hBw5 := hB.trans (hB5.mono hsr)
      have hS5 := hS.below hB5
      have hs5 := hB5.size
      go_wp2_with fail
      refine (same4 A5 n5 c5 w5.heap.size A0 l0.length c0 w.heap.size l0 w5 hO5.lsl (Nat.le_refl _) (hL0.below hBw5) hBw5.size).mono ?_
      rintro e w6 ⟨rfl, hB6⟩
      have hBw6 := hBw5.trans (hB6.mono hBw5.size)
      have hS6 := hS5.below (hB6.mono hs5)
      have hs6 := hBw6.size
      have hs56 : wr.heap.size ≤ w6.heap.size := Nat.le_trans hs5 hB6.size
      clear hO5 hS5
      by_cases hcc : 0 ≤ a1 ∧ a1 ≤ (F.length : Int)
      · obtain ⟨hc0, hcF⟩ := hcc
        obtain ⟨cut, rfl⟩ := Int.eq_ofNat_of_zero_le hc0
        have hcF' : cut ≤ F.length := by omega
        have hF2 : F.length ≤ 60240 := by omega
        have hc5 : cut ≤ 60240 := by omega
        have hd1 : decide ((cut : Int) < 0) = false := by simp
        have hd2 : decide ((F.length : Int) < (cut : Int)) = false := by simp; omega
        go_wp2_with fail
        go_loop [13, 14] (fun v a => ∃ j t : Nat, j ≤ l0.length ∧ v = .int .i64 (j : Int) ∧ a = .int .i64 (t : Int) ∧ t = (FrameP.frames (l0.take j)).length ∧ t ≤ cut) (fun v _ => l0.length - (intOf v).toNat)
        case atStart => exact ⟨0, 0, Nat.zero_le _, rfl, rfl, rfl, Nat.zero_le _⟩
        case round =>
          obtain ⟨j, t, hj, rfl, rfl, ht, htc⟩ := hrel
          have HT := Lib.hid ht
          clear ht
          have fin : ∀ (hend : ∀ h : j < l0.length, cut < t + (8 + l0[j].length)), Hid (FrameP.scan (F.take cut) = (l0.take j, t, if t = cut then 0 else 1)) := fun hend => by
            have := HCUTS.out cut j hj (by rw [← HT.out]; exact htc) (by rw [← HF.out]; exact hcF') (fun h => by rw [← HT.out]; exact hend h)
            rw [← HF.out, ← HT.out] at this
            exact Lib.hid this
          have FIN := Lib.hid fin
          clear fin
          by_cases hlt : j < l0.length
          · obtain ⟨ad, A', c', hA, hab, hcell, h3, h4, hrow⟩ := (hr0.below hBw6) j l0[j] (List.getElem?_eq_getElem hlt)
            subst hA
            have hI1 : (j : Int) < (l0.length : Int) := by omega
            have hd3 : decide ((j : Int) < (l0.length : Int)) = true := by simp; omega
            have hstep : (FrameP.frames (l0.take (j + 1))).length = t + (8 + l0[j].length) := by rw [frames_take' l0 j hlt, List.length_append, FrameP.frame_len, ← HT.out]
            have hfin2 : cut < t + (8 + l0[j].length) → Hid (FrameP.scan (F.take cut) = (l0.take j, t, if t = cut then 0 else 1)) := fun h => FIN.out fun _ => h
            obtain ⟨x, hx⟩ : ∃ x, x = l0[j] := ⟨_, rfl⟩
            have hx2 : l0[j].length ≤ 2000 := HALL.out _ (List.getElem_mem hlt)
            rw [← hx] at hcell h3 hrow hstep hfin2 hx2
            have HSTEP := Lib.hid hstep
            have HFIN2 := Lib.hid hfin2
            clear hx hstep hfin2
            by_cases hfit : t + (8 + x.length) ≤ cut
            · have hd4 : decide ((t : Int) + 8 + (x.length : Int) ≤ (cut : Int)) = true := by simp; omega
              go_wp2_with fail
              go_round
              case rel => exact ⟨j + 1, t + (8 + x.length), by omega, by go_num, by go_num, by rw [HSTEP.out], hfit⟩
              case measure => simp [intOf]; omega
            · have hd4 : decide ((t : Int) + 8 + (x.length : Int) ≤ (cut : Int)) = false := by simp; omega
              have HFIN := (HFIN2.out (by omega))
              go_wp2_with fail
              refine (frame_scan A cut c wr.heap.size (F.take cut) w6 (hS6.pre hcF') (hs56) (by omega)).mono ?_
              rintro e w7 ⟨A7, n7, c7, rfl, hO7, hB7⟩
              rw [HFIN.out] at hO7 ⊢
              simp only at hO7 ⊢
              have hBw7 := hBw6.trans (hB7.mono hs6)
              by_cases htc2 : t = cut
              · rw [if_pos htc2]
                have hdd : decide ((t : Int) = (cut : Int)) = true := by simp; omega
                have hdl : decide ((t : Int) < (cut : Int)) = false := by simp; omega
                have hdl' : decide (t < cut) = false := by simp; omega
                have hdb : ((t : Int) == (cut : Int)) = true := by simp; omega
                clear htc2
                go_wp2_with fail
                refine (same4 A7 n7 c7 w7.heap.size (some ad) j c0 w.heap.size (l0.take j) w7 hO7.lsl (Nat.le_refl _) ((hL0.below hBw7).pre hj) hBw7.size).mono ?_
                rintro e w8 ⟨rfl, hB8⟩
                go_wp2_with fail
                go_ret
                exact ⟨rfl, hBw7.trans (hB8.mono hBw7.size)⟩
              · rw [if_neg htc2]
                have hdd : decide ((t : Int) = (cut : Int)) = false := by simp; omega
                have hdl : decide ((t : Int) < (cut : Int)) = true := by simp; omega
                have hdl' : decide (t < cut) = true := by simp; omega
                have hdb : ((t : Int) == (cut : Int)) = false := by simp; omega
                clear htc2
                go_wp2_with fail
                refine (same4 A7 n7 c7 w7.heap.size (some ad) j c0 w.heap.size (l0.take j) w7 hO7.lsl (Nat.le_refl _) ((hL0.below hBw7).pre hj) hBw7.size).mono ?_
                rintro e w8 ⟨rfl, hB8⟩
                go_wp2_with fail
                go_ret
                exact ⟨rfl, hBw7.trans (hB8.mono hBw7.size)⟩
          · obtain rfl : j = l0.length := by omega
            have HFIN := FIN.out (fun h => absurd h (by omega))
            have hd3 : decide ((l0.length : Int) < (l0.length : Int)) = false := by simp
            go_wp2_with fail
            refine (frame_scan A cut c wr.heap.size (F.take cut) w6 (hS6.pre hcF') (hs56) (by omega)).mono ?_
            rintro e w7 ⟨A7, n7, c7, rfl, hO7, hB7⟩
            rw [HFIN.out] at hO7 ⊢
            simp only at hO7 ⊢
            have hBw7 := hBw6.trans (hB7.mono hs6)
            by_cases htc2 : t = cut
            · rw [if_pos htc2]
              have hdd : decide ((t : Int) = (cut : Int)) = true := by simp; omega
              have hdl : decide ((t : Int) < (cut : Int)) = false := by simp; omega
              have hdl' : decide (t < cut) = false := by simp; omega
              have hdb : ((t : Int) == (cut : Int)) = true := by simp; omega
              clear htc2
              go_wp2_with fail
              refine (same4 A7 n7 c7 w7.heap.size A0 l0.length c0 w.heap.size (l0.take l0.length) w7 hO7.lsl (Nat.le_refl _) ((hL0.below hBw7).pre (Nat.le_refl _)) hBw7.size).mono ?_
              rintro e w8 ⟨rfl, hB8⟩
              go_wp2_with fail
              go_ret
              exact ⟨rfl, hBw7.trans (hB8.mono hBw7.size)⟩
            · rw [if_neg htc2]
              have hdd : decide ((t : Int) = (cut : Int)) = false := by simp; omega
              have hdl : decide ((t : Int) < (cut : Int)) = true := by simp; omega
              have hdl' : decide (t < cut) = true := by simp; omega
              have hdb : ((t : Int) == (cut : Int)) = false := by simp; omega
              clear htc2
              go_wp2_with fail
              refine (same4 A7 n7 c7 w7.heap.size A0 l0.length c0 w.heap.size (l0.take l0.length) w7 hO7.lsl (Nat.le_refl _) ((hL0.below hBw7).pre (Nat.le_refl _)) hBw7.size).mono ?_
              rintro e w8 ⟨rfl, hB8⟩
              go_wp2_with fail
              go_ret
              exact ⟨rfl, hBw7.trans (hB8.mono hBw7.size)⟩
      · by_cases h0 : a1 < 0
        · have hd1 : decide (a1 < 0) = true := by simp; omega
          clear hcc
          go_wp2_with fail
          go_ret
          exact ⟨rfl, hBw6⟩
        · have hd1 : decide (a1 < 0) = false := by simp; omega
          have hd2 : decide ((F.length : Int) < a1) = true := by simp; omega
          clear hcc
          go_wp2_with fail
          go_ret
          exact ⟨rfl, hBw6⟩
end Go.Proofs.Ytkcadkkbgahgaaa
