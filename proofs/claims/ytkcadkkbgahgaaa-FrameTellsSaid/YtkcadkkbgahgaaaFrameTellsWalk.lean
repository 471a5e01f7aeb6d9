/- The walk of rolodexlaw4.FrameTells. -/
import Derived.Test.YtkcadkkbgahgaaaAwake4
import Derived.Test.YtkcadkkbgahgaaaCrcTellsWalk
import Derived.Test.YtkcadkkbgahgaaaFrameScansWalk
import Derived.Deep.CutRange
namespace Go.Proofs.Ytkcadkkbgahgaaa
open Go.RowKit
set_option linter.unusedVariables false
attribute [local go_sem] u8_xor_part
theorem told_behind (x y : List UInt8) (p : Nat) (s : BitVec 32) : ∀ k, told (x ++ y) (x.length + p) s k = x ++ told y p s k
  | 0 => rfl
  | k + 1 => by
    rw [told, told, told_behind x y p s k, List.set_append_right _ _ (by omega)]
    congr 2
    · omega
    · congr 1
      simp only [List.getD_eq_getElem?_getD]
      rw [List.getElem?_append_right (by omega)]
      congr 2
      omega
theorem told_frames (a b : List UInt8) (p : Nat) (s : BitVec 32) : told (FrameP.frame a ++ FrameP.frame b) (a.length + 16 + p) s 4 = FrameP.frame a ++ (FrameP.le4 (FrameP.len32 b.length) ++ (FrameP.le4 (FrameP.sum (FrameP.le4 (FrameP.len32 b.length)) b) ++ told b p s 4)) := by
  have e1 : a.length + 16 + p = (FrameP.frame a).length + (8 + p) := by rw [FrameP.frame_len]; omega
  rw [e1, told_behind]
  congr 1
  have e2 : FrameP.frame b = (FrameP.le4 (FrameP.len32 b.length) ++ FrameP.le4 (FrameP.sum (FrameP.le4 (FrameP.len32 b.length)) b)) ++ b := by unfold FrameP.frame; rw [List.append_assoc]
  have e3 := told_behind (FrameP.le4 (FrameP.len32 b.length) ++ FrameP.le4 (FrameP.sum (FrameP.le4 (FrameP.len32 b.length)) b)) b p s 4
  rw [← e2] at e3
  rw [← List.append_assoc, ← e3]
  rfl
theorem step_told (b t : List UInt8) (p : Nat) (s : BitVec 32) (hb : b.length ≤ 500) (hp : p + 4 ≤ b.length) (hs : s ≠ 0#32) :
    FrameP.step (FrameP.le4 (FrameP.len32 b.length) ++ (FrameP.le4 (FrameP.sum (FrameP.le4 (FrameP.len32 b.length)) b) ++ told b p s 4) ++ t) = .inl 2 := by
  have hl := FrameP.len32_toNat (n := b.length) (by omega)
  have htl := told_len b p s 4
  obtain ⟨q, hq⟩ : ∃ q, q = told b p s 4 := ⟨_, rfl⟩
  have hne : ¬ FrameP.sum (FrameP.le4 (FrameP.len32 b.length)) b = FrameP.sum (FrameP.le4 (FrameP.len32 b.length)) q := by
    intro e
    obtain ⟨u, v, b0, b1, b2, b3, rfl, rfl⟩ := four_at b p hp
    rw [hq, told_four] at e
    have h := (CrcP.tells _ u v b0 b1 b2 b3 (byteOf s 0) (byteOf s 1) (byteOf s 2) (byteOf s 3)).1 e.symm
    exact hs ((byteOf_zero s).1 h)
  rw [← hq] at htl ⊢
  generalize FrameP.sum (FrameP.le4 (FrameP.len32 b.length)) b = m at hne
  have e0 : FrameP.at4 (FrameP.le4 (FrameP.len32 b.length) ++ (FrameP.le4 m ++ q) ++ t) 0 = FrameP.len32 b.length := FrameP.num4_le4 _
  have e4 : FrameP.at4 (FrameP.le4 (FrameP.len32 b.length) ++ (FrameP.le4 m ++ q) ++ t) 4 = m := FrameP.num4_le4 _
  have ht : (FrameP.le4 (FrameP.len32 b.length) ++ (FrameP.le4 m ++ q) ++ t).take 4 = FrameP.le4 (FrameP.len32 b.length) := rfl
  have hd : (FrameP.le4 (FrameP.len32 b.length) ++ (FrameP.le4 m ++ q) ++ t).drop 8 = q ++ t := rfl
  have hlen : (FrameP.le4 (FrameP.len32 b.length) ++ (FrameP.le4 m ++ q) ++ t).length = 8 + b.length + t.length := by simp [FrameP.le4_len, htl]; omega
  unfold FrameP.step
  rw [e0, e4, ht, hd, hl, hlen, if_neg (by omega), if_neg (by omega), if_neg (by omega), if_neg (by omega), List.take_append_of_le_length (by omega), List.take_of_length_le (by omega), if_neg hne]
theorem scan_told (a b t : List UInt8) (p : Nat) (s : BitVec 32) (ha : a.length ≤ 500) (hb : b.length ≤ 500) (hp : p + 4 ≤ b.length) (hs : s ≠ 0#32) :
    FrameP.scan (told (FrameP.frame a ++ FrameP.frame b) (a.length + 16 + p) s 4 ++ t) = ([a], 8 + a.length, 2) := by
  rw [told_frames, List.append_assoc, FrameP.scan_frame _ _ (by omega), FrameP.scan_end (step_told b t p s hb hp hs)]
  rfl
set_option maxRecDepth 4000 in
set_option maxHeartbeats 2000000 in
theorem frameTells_walk (A0 : Option Addr) (n0 c0 : Nat) (l0 : List UInt8) (A1 : Option Addr) (n1 c1 : Nat) (l1 : List UInt8) (a2 a3 : Int) (w : World) (b0 : BytesIn w A0 n0 c0 l0) (z0 : n0 * 1 ≤ 140737488351232) (b1 : BytesIn w A1 n1 c1 l1) (z1 : n1 * 1 ≤ 140737488351232) (w2 : (Lit.int .i64 a2).wf = true) (w3 : (Lit.int .u32 a3).wf = true) :
    Calls Try.prog 12 #[.slice A0 n0 c0, .slice A1 n1 c1, .int .i64 a2, .int .u32 a3] w fun e w' => e = .returned (.bool true) ∧ Below w.heap.size w w' := by
  obtain ⟨s, rfl⟩ := u32_arg w3
  obtain ⟨hn0, hnc0, hcm0, hr0⟩ := b0
  obtain ⟨hn1, hnc1, hcm1, hr1⟩ := b1
  subst hn0 hn1
  have hS0 : Sl w w.heap.size A0 l0.length c0 l0 := ⟨rfl, hnc0, hcm0, hr0⟩
  have hS1 : Sl w w.heap.size A1 l1.length c1 l1 := ⟨rfl, hnc1, hcm1, hr1⟩
  unfold maxLen at hcm0 hcm1
  clear w3 w2
  have key : ∀ (d1 d2 d3 d4 d5 : Bool), decide ((500 : Int) < (l0.length : Int)) = d1 → decide ((500 : Int) < (l1.length : Int)) = d2 → decide (a2 < 0) = d3 → decide ((l1.length : Int) - 4 < a2) = d4 → (bv32 s == 0) = d5 → (d1 || d2 || d3 || d4 || d5) = true →
      Calls Try.prog 12 #[.slice A0 l0.length c0, .slice A1 l1.length c1, .int .i64 a2, .int .u32 (bv32 s)] w fun e w' => e = .returned (.bool true) ∧ Below w.heap.size w w' := by
    intro d1 d2 d3 d4 d5 e1 e2 e3 e4 e5 hd
    go_enter Try.func12, Try.ntmps12
    go_wp2_with fail
    refine (awake4 w).mono ?_
    rintro e w1 ⟨rfl, hB1⟩
    cases d1 <;> cases d2 <;> cases d3 <;> cases d4 <;> cases d5 <;> first | (exact absurd hd (by decide)) | (go_wp2_with fail; go_ret; exact ⟨rfl, hB1⟩)
  by_cases h1 : 500 < l0.length
  · exact key true _ _ _ _ (by simp; omega) rfl rfl rfl rfl (by simp)
  by_cases h2 : 500 < l1.length
  · exact key _ true _ _ _ rfl (by simp; omega) rfl rfl rfl (by simp)
  by_cases h3 : a2 < 0
  · exact key _ _ true _ _ rfl rfl (by simp; omega) rfl rfl (by simp)
  by_cases h4 : (l1.length : Int) - 4 < a2
  · exact key _ _ _ true _ rfl rfl rfl (by simp; omega) rfl (by simp)
  by_cases h5 : s = 0#32
  · exact key _ _ _ _ true rfl rfl rfl rfl (by rw [h5]; rfl) (by simp)
  clear key
  obtain ⟨p, rfl⟩ := Int.eq_ofNat_of_zero_le (show 0 ≤ a2 by omega)
  have hp4 : p + 4 ≤ l1.length := by omega
  have hd1 : ¬ (500 : Int) < (l0.length : Int) := by omega
  have hd2 : ¬ (500 : Int) < (l1.length : Int) := by omega
  have hd5 : (bv32 s == 0) = false := by rw [beq_eq_false_iff_ne, ne_eq, show (0 : Int) = bv32 0#32 from rfl, u32_inj]; exact h5
  have hsc := fun t => scan_told l0 l1 t p s (by omega) (by omega) hp4 h5
  have HSC := Lib.hid hsc
  clear hsc h5
  go_enter Try.func12, Try.ntmps12
  go_wp2_with fail
  refine (awake4 w).mono ?_
  rintro e w1 ⟨rfl, hB1⟩
  have hs1 := hB1.size
  go_wp2_with fail
  refine (ref_frame A0 l0.length c0 w.heap.size l0 w1 (hS0.below hB1) hs1 (by omega)).mono ?_
  rintro e w2 ⟨A2, n2, c2, rfl, hO2, hB2⟩
  have hBw2 := hB1.trans (hB2.mono hs1)
  go_wp2_with fail
  refine (ref_frame A1 l1.length c1 w.heap.size l1 w2 (hS1.below hBw2) hBw2.size (by omega)).mono ?_
  rintro e w3 ⟨A3, n3, c3, rfl, hO3, hB3⟩
  have hBw3 := hBw2.trans (hB3.mono hBw2.size)
  have hO23 := Own.lower (hO2.below_all hB3) hs1
  have hn2 : n2 ≤ 508 := by rw [← hO2.len, FrameP.frame_len]; omega
  have hn3 : n3 ≤ 508 := by rw [← hO3.len, FrameP.frame_len]; omega
  have hl3 := Lib.hid hO3.len
  have hrow3 := hO3.row
  clear hB1 hB2 hB3 hO2 hO3 hBw2
  go_wp2_with (at_builtin; refine wpList_app8 rfl (.tmp 41) (.tmp 43) 25 rfl (.inl ⟨_, Try.underlying25⟩) w.heap.size _ _ _ _ rfl hO23 n3 (FrameP.frame l1) (Src.slice (by simp [hl3.out]) hrow3) (.inl (by omega)) hBw3.size ?_; intro A4 cap4 w4 hO4 hg4 hB4 hb4)
  have hBw4 := hBw3.trans hB4
  obtain ⟨F, hF⟩ : ∃ F, F = FrameP.frame l0 ++ FrameP.frame l1 := ⟨_, rfl⟩
  have hFl : F.length = l0.length + 16 + l1.length := by rw [hF, List.length_append, FrameP.frame_len, FrameP.frame_len]; omega
  rw [← hF] at hO4 HSC
  have hFn : n2 + n3 = F.length := hO4.len.symm
  rw [hFn] at hO4 ⊢
  have HFL := Lib.hid hFl
  have hF1 : l0.length + 16 + l1.length ≤ F.length := by omega
  have hF2 : F.length ≤ 1016 := by omega
  obtain ⟨ad, hA, hx1, hx2⟩ := hO4.row.at_ 0 (by simp; omega)
  subst hA
  clear hF hFl hFn hO23 hrow3 hB4 hg4 hb4 hn2 hn3 hl3 hBw3 hx1 hx2
  go_loopw [10] (fun i wr => ∃ k : Nat, k ≤ 4 ∧ i = .int .i64 k ∧ OwnB wr w.heap.size (some ad) F.length cap4 (told F (l0.length + 16 + p) s k) ∧ Below w.heap.size w wr) (fun i _ => 4 - (intOf i).toNat)
  case atStart => exact ⟨0, by omega, rfl, hO4, hBw4⟩
  case round =>
    obtain ⟨k, hk, rfl, hO, hB⟩ := hrel
    clear hO4 hBw4
    by_cases hlt : k < 4
    · have hl := told_len F (l0.length + 16 + p) s k
      obtain ⟨t, ht⟩ : ∃ t, t = told F (l0.length + 16 + p) s k := ⟨_, rfl⟩
      rw [← ht] at hO hl
      have HTK := Lib.hid ht
      have HL := Lib.hid hl
      have hk2 : l0.length + 16 + p + k < t.length := by omega
      obtain ⟨q1, q2, q3, q4, q5⟩ := hO.at_ hk2 (t[l0.length + 16 + p + k] ^^^ byteOf s k)
      have HQ5 := Lib.hid q5
      clear ht hl hO q5
      go_wp2
      go_roundw
      case rel =>
        refine ⟨k + 1, by omega, by go_num, ?_, hB.setCell q3 _⟩
        rw [told, ← HTK.out, List.getD_eq_getElem?_getD, List.getElem?_eq_getElem hk2]
        have e6 : b8 (t[l0.length + 16 + p + k] ^^^ byteOf s k) = .int .u8 ((t[l0.length + 16 + p + k].toNat ^^^ (byteOf s k).toNat : Nat) : Int) := by simp [b8, UInt8.toNat_xor]
        have := HQ5.out
        rw [e6] at this
        exact this
      case measure => simp [intOf]; omega
    · obtain rfl : k = 4 := by omega
      have hsr := hB.size
      obtain ⟨T, hT⟩ : ∃ T, T = told F (l0.length + 16 + p) s 4 := ⟨_, rfl⟩
      have hscan := HSC.out (FrameP.frame l0)
      rw [← hT] at hO hscan
      have HSCAN := Lib.hid hscan
      clear hT hscan
      go_wp2_with fail
      refine (ref_frame A0 l0.length c0 w.heap.size l0 wr (hS0.below hB) hsr (by omega)).mono ?_
      rintro e w5 ⟨A5, n5, c5, rfl, hO5, hB5⟩
      have hBw5 := hB.trans (hB5.mono hsr)
      have hn5 : n5 ≤ 508 := by rw [← hO5.len, FrameP.frame_len]; omega
      have hl5 := Lib.hid hO5.len
      have hrow5 := hO5.row
      have hOT := hO.below_all hB5
      clear hO hB5 hO5 hB
      go_wp2_with (at_builtin; refine wpList_app8 rfl (.tmp 71) (.tmp 73) 25 rfl (.inl ⟨_, Try.underlying25⟩) w.heap.size _ _ _ _ rfl hOT n5 (FrameP.frame l0) (Src.slice (by simp [hl5.out]) hrow5) (.inl (by omega)) hBw5.size ?_; intro A6 cap6 w6 hO6 hg6 hB6 hb6)
      have hBw6 := hBw5.trans hB6
      have hs6 := hBw6.size
      refine (frame_scan A6 (F.length + n5) cap6 w6.heap.size _ w6 hO6.sl (Nat.le_refl _) (by omega)).mono ?_
      rintro e w7 ⟨A7, n7, c7, rfl, hO7, hB7⟩
      rw [HSCAN.out] at hO7 ⊢
      simp only at hO7 ⊢
      have hn7 : n7 = 1 := by have := hO7.len; simpa using this.symm
      subst hn7
      obtain ⟨ad7, A8, c8, hA7, hab7, hc7, h8, h9, hrow8⟩ := hO7.lrow 0 l0 rfl
      subst hA7
      have hc7' : w7.cell? ad7 = some (.slice A8 l0.length c8) := hc7
      have hBw7 := hBw6.trans (hB7.mono hs6)
      have hs7 := hBw7.size
      have hq : ∀ y : GrewOf w7, y.1.cell? ad7 = some (.slice A8 l0.length c8) := fun y => (Below.cell y.2 (p := ad7) hab7).trans hc7'
      have hr0' := hr0.below hBw7
      have hw8 : IntKind.i64.wrap (8 + (l0.length : Int)) = 8 + (l0.length : Int) := IntWalk.i64_in _ (by omega)
      have HQ := Lib.hid (And.intro hq hw8)
      rw [Int.natCast_add]
      clear hOT hrow5 hO6 hg6 hB6 hb6 hc7 hc7' hB7 hq hw8
      go_upto_region 12 with fail
      have hqq := HQ.out
      refine wp_region_x [] (by kernel_rfl) (by kernel_rfl) (by kernel_rfl) ?_
      simp only [blank, List.foldl_nil]
      repeat (first
        | (refine wpX_value (v := ?_) rfl (by intros; simp) rfl rfl (fun x => ?_) ?_; rotate_left; (focus (simp [go_sem, hqq, ↓IntWalk.iteOmega]; first | done | (with_reducible rfl))); (simp only [Act.put, List.setIfInBounds_toArray, List.set_cons_succ, List.set_cons_zero]))
        | (refine wpX_str8 A8 l0.length c8 w7.heap.size l0 rfl rfl rfl rfl rfl (Nat.le_refl _) hrow8 ?_; (simp only [Act.put, List.setIfInBounds_toArray, List.set_cons_succ, List.set_cons_zero]))
        | (refine wpX_str8 A0 l0.length c0 w.heap.size l0 rfl rfl rfl rfl rfl hs7 hr0' ?_; (simp only [Act.put, List.setIfInBounds_toArray, List.set_cons_succ, List.set_cons_zero])))
      (refine wpX_nil ?_; intro xb wx hxg xl; obtain ⟨xf, xe⟩ := LikeAll.end_ xl; clear xl; subst xe; try simp only [fill, List.foldl_cons, List.foldl_nil, Act.put, List.setIfInBounds_toArray, List.set_cons_succ, List.set_cons_zero])
      clear hqq
      go_wp2_with fail
      go_ret
      exact ⟨rfl, hBw7.trans (hxg.mono hs7)⟩
end Go.Proofs.Ytkcadkkbgahgaaa
