/- The walk of rolodexlaw4.FrameJoins. -/
import Derived.Test.YtkcadkkbgahgaaaAwake4
namespace Go.Proofs.Ytkcadkkbgahgaaa
open Go.RowKit
set_option linter.unusedVariables false
theorem frames_take' (ll : List (List UInt8)) (k : Nat) (hk : k < ll.length) : FrameP.frames (ll.take (k + 1)) = FrameP.frames (ll.take k) ++ FrameP.frame ll[k] := by
  rw [List.take_succ_eq_append_getElem hk, FrameP.frames_append]
  simp [FrameP.frames]
theorem scanF_le : ∀ (f : Nat) (r : List UInt8), (FrameP.scanF f r).2.1 ≤ r.length
  | 0, _ => Nat.zero_le _
  | f + 1, r => by
    unfold FrameP.scanF
    split
    · exact Nat.zero_le _
    · rename_i p hp
      have h1 := FrameP.step_inr hp
      have h2 := scanF_le f (r.drop (8 + p.length))
      simp only [FrameP.onto]
      simp only [List.length_drop] at h2
      omega
theorem LRow.drop {w : World} {B : Nat} {ad : Addr} {ll : List (List UInt8)} (h : LRow w B (some ad) ll) (k : Nat) : LRow w B (some (ad.add k)) (ll.drop k) := by
  intro i l hil
  rw [List.getElem?_drop] at hil
  obtain ⟨ad', A', c', e, hb, hc, h1⟩ := h _ _ hil
  injection e with e
  subst e
  exact ⟨_, A', c', rfl, by rw [add_block]; exact hb, by rw [add_add]; exact hc, h1⟩
theorem LRow.take {w : World} {B : Nat} {A : Option Addr} {ll : List (List UInt8)} (h : LRow w B A ll) (k : Nat) : LRow w B A (ll.take k) := by
  intro i l hil
  rw [List.getElem?_take] at hil
  split at hil
  · exact h i l hil
  · cases hil
theorem LSl.nil {w : World} {B : Nat} {A : Option Addr} {c : Nat} (hc : c ≤ maxLen) : LSl w B A 0 c [] := ⟨rfl, Nat.zero_le _, hc, fun i l h => by simp at h⟩
theorem LSl.pre {w : World} {B : Nat} {A : Option Addr} {n c k : Nat} {ll : List (List UInt8)} (h : LSl w B A n c ll) (hk : k ≤ n) : LSl w B A k c (ll.take k) := ⟨by rw [List.length_take, h.1]; omega, by have := h.2.1; omega, h.2.2.1, h.2.2.2.take k⟩
set_option maxRecDepth 4000 in
set_option maxHeartbeats 2000000 in
theorem frameJoins_walk (A0 : Option Addr) (n0 c0 : Nat) (l0 : List (List UInt8)) (A1 : Option Addr) (n1 c1 : Nat) (l1 : List UInt8) (w : World) (b0 : LBytesIn w A0 n0 c0 l0) (z0 : n0 * 24 ≤ 140737488351232) (b1 : BytesIn w A1 n1 c1 l1) (z1 : n1 * 1 ≤ 140737488351232) :
    Calls Try.prog 13 #[.slice A0 n0 c0, .slice A1 n1 c1] w fun e w' => e = .returned (.bool true) ∧ Below w.heap.size w w' := by
  obtain ⟨hn0, hnc0, hcm0, hr0⟩ := b0
  obtain ⟨hn1, hnc1, hcm1, hr1⟩ := b1
  subst hn0 hn1
  have hL0 : LSl w w.heap.size A0 l0.length c0 l0 := ⟨rfl, hnc0, hcm0, hr0⟩
  have hS1 : Sl w w.heap.size A1 l1.length c1 l1 := ⟨rfl, hnc1, hcm1, hr1⟩
  unfold maxLen at hcm0 hcm1
  go_enter Try.func13, Try.ntmps13
  go_wp2_with fail
  refine (awake4 w).mono ?_
  rintro e w1 ⟨rfl, hB1⟩
  by_cases h20 : 20 < l0.length
  · have h20' : decide ((20 : Int) < (l0.length : Int)) = true := by simp; omega
    go_wp2_with fail
    go_ret
    exact ⟨rfl, hB1⟩
  by_cases h2k : 2000 < l1.length
  · have h20' : decide ((20 : Int) < (l0.length : Int)) = false := by simp; omega
    have h2k' : decide ((2000 : Int) < (l1.length : Int)) = true := by simp; omega
    go_wp2_with fail
    go_ret
    exact ⟨rfl, hB1⟩
  have h20' : ¬ (20 : Int) < (l0.length : Int) := by omega
  have h2k' : ¬ (2000 : Int) < (l1.length : Int) := by omega
  go_wp2_with fail
  go_loopw [5, 6] (fun f i wr => ∃ (k : Nat) (A n c : _), k ≤ l0.length ∧ i = .int .i64 (k : Int) ∧ f = .slice A n c ∧ OwnB wr w.heap.size A n c (FrameP.frames (l0.take k)) ∧ n ≤ 508 * k ∧ (∀ p ∈ l0.take k, p.length ≤ 500) ∧ Below w.heap.size w wr) (fun _ i _ => l0.length - (intOf i).toNat)
  case atStart => exact ⟨0, none, 0, 0, Nat.zero_le _, rfl, rfl, Own.nil _ _ _ _, by omega, by simp, hB1⟩
  case round =>
    obtain ⟨k, A, n, c, hk, rfl, rfl, hO, hn5, hall, hB⟩ := hrel
    clear hB1
    have HALL := Lib.hid hall
    clear hall
    have hsr := hB.size
    by_cases hlt : k < l0.length
    · obtain ⟨ad, A', c', hA, hab, hcell, h3, h4, hrow⟩ := (hr0.below hB) k l0[k] (List.getElem?_eq_getElem hlt)
      subst hA
      have hI1 : (k : Int) < (l0.length : Int) := by omega
      have HFT := Lib.hid (frames_take' l0 k hlt)
      have HTK := Lib.hid (show l0.take (k + 1) = l0.take k ++ [l0[k]] from List.take_succ_eq_append_getElem hlt)
      obtain ⟨x, hx⟩ : ∃ x, x = l0[k] := ⟨_, rfl⟩
      rw [← hx] at hcell h3 hrow HFT HTK
      clear hx
      by_cases h500 : 500 < x.length
      · have h500' : (500 : Int) < (x.length : Int) := by omega
        go_wp2_with fail
        go_ret
        exact ⟨rfl, hB⟩
      · have h500' : ¬ (500 : Int) < (x.length : Int) := by omega
        go_wp2_with fail
        refine (frame_append A n c _ A' x.length c' x wr hO.sl ⟨rfl, h3, h4, hrow.more hsr⟩ (by omega) (by omega)).mono ?_
        rintro e w5 ⟨A5, n5, c5, rfl, hO5, hB5⟩
        have hn5' : n5 ≤ 508 * (k + 1) := by rw [← hO5.len, List.length_append, FrameP.frame_len, hO.len]; omega
        have hBw5 := hB.trans (hB5.mono hsr)
        have hO6 := Own.lower hO5 hsr
        clear hO hB hB5 hO5
        go_wp2_with fail
        go_roundw
        case rel => exact ⟨k + 1, A5, n5, c5, by omega, by go_num, rfl, by rw [HFT.out]; exact hO6, hn5', by rw [HTK.out]; intro p hp; simp only [List.mem_append, List.mem_singleton] at hp; rcases hp with hp | rfl; exact HALL.out p hp; omega, hBw5⟩
        case measure => simp [intOf]; omega
    · obtain rfl : k = l0.length := by omega
      rw [List.take_length] at hO HALL
      have hl := hO.len
      have hle := hO.le
      have hscan := FrameP.scan_frames l0 l1 (fun p hp => by have := HALL.out p hp; omega)
      obtain ⟨F, hF⟩ : ∃ F, F = FrameP.frames l0 := ⟨_, rfl⟩
      rw [← hF] at hO hl hscan
      clear hF
      subst hl
      have HSCAN := Lib.hid hscan
      have hE1 := OwnB.empty wr wr.heap.size (Nat.le_refl _)
      have hS1r := hS1.below hB
      have hL0r := hL0.below hB
      clear hscan
      go_wp2_with (first
        | (at_builtin; refine wpList_app8 rfl (.tmp 45) (.tmp 46) 25 rfl (.inl ⟨_, Try.underlying25⟩) wr.heap.size _ _ _ [] rfl hE1 F.length F (Src.slice (by simp) (hO.alloc _).row) (.inl (by omega)) (by simp) ?_; intro A6 cap6 w6 hO6 hg6 hB6 hb6; simp only [List.nil_append, Nat.zero_add] at hO6; have hBr6 := ((Below.refl wr.heap.size wr).alloc (Nat.le_refl _) (.cells #[] 5)).trans hB6; have h16 := (hS1r.2.2.2.below (hBr6.mono hsr)))
        | (at_builtin; refine wpList_app8 rfl (.tmp 47) (.tmp 48) 25 rfl (.inl ⟨_, Try.underlying25⟩) wr.heap.size _ _ _ F rfl hO6 l1.length l1 (Src.slice (by simp) h16) (.inl (by omega)) hBr6.size ?_; intro A7 cap7 w7 hO7 hg7 hB7 hb7))
      have hBr7 := hBr6.trans hB7
      have hBw7 := hB.trans (hBr7.mono hsr)
      refine (frame_scan A7 (F.length + l1.length) cap7 w7.heap.size (F ++ l1) w7 hO7.sl (Nat.le_refl _) (by omega)).mono ?_
      rintro e w8 ⟨A8, n8, c8, rfl, hO8, hB8⟩
      rw [HSCAN.out] at hO8 ⊢
      simp only [FrameP.behind] at hO8 ⊢
      have hBw8 := hBw7.trans (hB8.mono hBw7.size)
      clear hE1 hO6 hg6 hb6 h16 hO7 hg7 hb7
      go_wp2_with fail
      refine (frame_scan A1 l1.length c1 w.heap.size l1 w8 (hS1.below hBw8) hBw8.size (by omega)).mono ?_
      rintro e w9 ⟨A9, n9, c9, rfl, hO9, hB9⟩
      have hBw9 := hBw8.trans (hB9.mono hBw8.size)
      have hO89 := hO8.below hB9
      obtain ⟨Q, hQ⟩ : ∃ Q, Q = (FrameP.scan l1).1 := ⟨_, rfl⟩
      obtain ⟨m, hm⟩ : ∃ m, m = (FrameP.scan l1).2.1 := ⟨_, rfl⟩
      obtain ⟨st, hst⟩ : ∃ st, st = (FrameP.scan l1).2.2 := ⟨_, rfl⟩
      rw [← hQ] at hO89 hO9
      rw [← hm, ← hst]
      have hmb : m ≤ 2000 := by have := scanF_le (l1.length + 1) l1; unfold FrameP.scan at hm; omega
      have hn8 : n8 = l0.length + Q.length := by rw [← hO89.len, List.length_append]
      have hn9 := hO9.len
      subst hn8 hn9
      have hle8 := hO89.le
      have hL8 := hO89.lsl
      have hL9 := hO9.lsl
      have hL0' := hL0.below hBw9
      have hQl : Q.length ≤ 9223372036854775807 := by have := hL9.2.1; have := hL9.2.2.1; unfold maxLen at this; omega
      have hsum : l0.length + Q.length ≤ 9223372036854775807 := by have := hL8.2.1; have := hL8.2.2.1; unfold maxLen at this; omega
      have hnone : A8 = none → c8 = 0 := fun h => by
        obtain ⟨_, ho, _⟩ := hO89
        rcases ho.2.2.2 with h1 | ⟨g, _, _, _, h1, _⟩
        · exact h1.2
        · rw [h] at h1; cases h1
      rw [Int.natCast_add]
      have hp1 := hL8.pre (k := l0.length) (by omega)
      rw [List.take_left] at hp1
      have HNONE := Lib.hid hnone
      have hI1 : l0.length ≤ c8 := by omega
      have hI2 : l0.length ≤ l0.length + Q.length := by omega
      have hI3 : l0.length + Q.length ≤ c8 := hle8.1
      clear hO8 hO9 hO89 hQ hm hst hnone
      by_cases hcut : c8 ≤ l0.length
      · have hcut2 : l0.length ≤ c8 := by omega
        have hQ0 : Q = [] := List.eq_nil_of_length_eq_zero (by omega)
        have HQ0 := Lib.hid hQ0
        clear hQ0
        go_wp2_with fail
        refine (same4 A8 l0.length c8 w9.heap.size A0 l0.length c0 w.heap.size l0 w9 hp1 (Nat.le_refl _) hL0' hBw9.size).mono ?_
        rintro e w10 ⟨rfl, hB10⟩
        go_wp2_with fail
        refine (same4 A8 Q.length 0 w9.heap.size A9 Q.length c9 w9.heap.size Q w10 (by rw [HQ0.out]; exact LSl.nil (Nat.zero_le _)) hB10.size (hL9.below hB10) hB10.size).mono ?_
        rintro e w11 ⟨rfl, hB11⟩
        go_wp2_with fail
        go_ret
        exact ⟨rfl, hBw9.trans ((Grew.trans hB10 hB11).mono hBw9.size)⟩
      · have hcut2 : ¬ c8 = l0.length := by omega
        have hcut3 : ¬ l0.length = c8 := by omega
        rcases hA8 : A8 with _ | ad8
        · exact absurd (HNONE.out hA8) (by omega)
        · subst hA8
          go_wp2_with fail
          refine (same4 (some ad8) l0.length c8 w9.heap.size A0 l0.length c0 w.heap.size l0 w9 hp1 (Nat.le_refl _) hL0' hBw9.size).mono ?_
          rintro e w10 ⟨rfl, hB10⟩
          go_wp2_with fail
          refine (same4 (some (ad8.add l0.length)) Q.length (c8 - l0.length) w9.heap.size A9 Q.length c9 w9.heap.size Q w10 (LSl.below (w := w9) ⟨rfl, by omega, by have := hL8.2.2.1; omega, by have := hL8.2.2.2.drop l0.length; rwa [List.drop_left] at this⟩ hB10) hB10.size (hL9.below hB10) hB10.size).mono ?_
          rintro e w11 ⟨rfl, hB11⟩
          go_wp2_with fail
          go_ret
          exact ⟨rfl, hBw9.trans ((Grew.trans hB10 hB11).mono hBw9.size)⟩
end Go.Proofs.Ytkcadkkbgahgaaa
