/- The walk of rolodexlaw4.FrameScans. -/
import Derived.Test.YtkcadkkbgahgaaaAwake4
namespace Go.Proofs.Ytkcadkkbgahgaaa
open Go.RowKit
set_option linter.unusedVariables false
attribute [local go_sem] u8_xor_nat'
theorem u8_arg {a : Int} (h : (Lit.int .u8 a).wf = true) : ∃ y : UInt8, a = (y.toNat : Int) := by
  have h := wf_u8 h
  refine ⟨UInt8.ofNat a.toNat, ?_⟩
  rw [UInt8.toNat_ofNat']
  omega
/-- a store into a slice of one's own, wherever it begins -/
theorem OwnB.at_ {w : World} {base n cap : Nat} {ad : Addr} {l : List UInt8} (h : OwnB w base (some ad) n cap l) {j : Nat} (hj : j < l.length) (x : UInt8) :
    w.cell? (ad.add j) = some (b8 l[j]) ∧ w.frozen? (ad.add j) = false ∧ base ≤ (ad.add j).block ∧ (ad.add j).block < w.heap.size ∧ OwnB (w.setCell (ad.add j) (b8 x)) base (some ad) n cap (l.set j x) := by
  have hn := h.len
  have hle := h.le
  obtain ⟨g, off, cur, fr, ha, hb, hh, hs, hf, hc⟩ := h.2.2.2.resolve_left (fun h0 => by cases h0.1)
  injection ha with ha
  subst ha
  have hlt := lt_of_blk hh
  refine ⟨?_, ?_, ?_, ?_, ?_⟩
  · rw [add_off, cell_blk hh]
    exact hc j _ (by simp [hj])
  · rw [add_off]
    exact hf j (by omega)
  · rw [add_off]; exact hb
  · rw [add_off]; exact hlt
  · rw [add_off]
    have := Own.set h (j := j) (by omega) (b8 x)
    unfold OwnB
    rw [List.map_set]
    exact this
theorem frames_take (ll : List (List UInt8)) (k : Nat) (hk : k < ll.length) : FrameP.frames (ll.take (k + 1)) = FrameP.frames (ll.take k) ++ FrameP.frame ll[k] := by
  rw [List.take_succ_eq_append_getElem hk, FrameP.frames_append]
  simp [FrameP.frames]
set_option maxRecDepth 4000 in
set_option maxHeartbeats 2000000 in
theorem frameScans_walk (A0 : Option Addr) (n0 c0 : Nat) (l0 : List UInt8) (A1 : Option Addr) (n1 c1 : Nat) (l1 : List (List UInt8)) (a2 a3 : Int) (w : World) (b0 : BytesIn w A0 n0 c0 l0) (z0 : n0 * 1 ≤ 140737488351232) (b1 : LBytesIn w A1 n1 c1 l1) (z1 : n1 * 24 ≤ 140737488351232) (w2 : (Lit.int .i64 a2).wf = true) (w3 : (Lit.int .u8 a3).wf = true) (hup : n0 + bulk_lbytes l1 ≤ 1048576) :
    Calls Try.prog 11 #[.slice A0 n0 c0, .slice A1 n1 c1, .int .i64 a2, .int .u8 a3] w fun e w' => e = .returned (.bool true) ∧ Below w.heap.size w w' := by
  obtain ⟨y, rfl⟩ := u8_arg w3
  obtain ⟨hn0, hnc0, hcm0, hr0⟩ := b0
  obtain ⟨hn1, hnc1, hcm1, hr1⟩ := b1
  subst hn1
  have hS0 : Sl w w.heap.size A0 n0 c0 l0 := ⟨hn0, hnc0, hcm0, hr0⟩
  have hsm : n0 ≤ 1099511627776 := by omega
  unfold maxLen at hcm0 hcm1
  clear w3 hup hr0 hn0
  go_enter Try.func11, Try.ntmps11
  go_wp2_with fail
  refine (awake4 w).mono ?_
  rintro e w1 ⟨rfl, hB1⟩
  go_wp2_with fail
  refine (scans4 A0 n0 c0 w.heap.size l0 w1 (hS0.below hB1) hB1.size hsm).mono ?_
  rintro e w4 ⟨rfl, hB4⟩
  have hBw4 := hB1.trans (hB4.mono hB1.size)
  clear hB1 hB4 hS0
  by_cases h20 : 20 < l1.length
  · have h20' : (20 : Int) < (l1.length : Int) := by omega
    go_wp2_with fail
    go_ret
    exact ⟨rfl, hBw4⟩
  · have h20' : ¬ (20 : Int) < (l1.length : Int) := by omega
    go_wp2_with fail
    go_loopw [9, 10] (fun f i wr => ∃ (k : Nat) (A n c : _), k ≤ l1.length ∧ i = .int .i64 (k : Int) ∧ f = .slice A n c ∧ OwnB wr w.heap.size A n c (FrameP.frames (l1.take k)) ∧ n ≤ 508 * k ∧ Below w.heap.size w wr) (fun _ i _ => l1.length - (intOf i).toNat)
    case atStart => exact ⟨0, none, 0, 0, Nat.zero_le _, rfl, rfl, Own.nil _ _ _ _, by omega, hBw4⟩
    case round =>
      obtain ⟨k, A, n, c, hk, rfl, rfl, hO, hn5, hB⟩ := hrel
      clear hBw4
      have hsr := hB.size
      by_cases hlt : k < l1.length
      · obtain ⟨ad, A', c', hA, hab, hcell, h3, h4, hrow⟩ := (hr1.below hB) k l1[k] (List.getElem?_eq_getElem hlt)
        subst hA
        have hI1 : (k : Int) < (l1.length : Int) := by omega
        have HFT := Lib.hid (frames_take l1 k hlt)
        obtain ⟨x, hx⟩ : ∃ x, x = l1[k] := ⟨_, rfl⟩
        rw [← hx] at hcell h3 hrow HFT
        clear hx
        by_cases h500 : 500 < x.length
        · have h500' : (500 : Int) < (x.length : Int) := by omega
          go_wp2_with fail
          go_ret
          exact ⟨rfl, hB⟩
        · have h500' : ¬ (500 : Int) < (x.length : Int) := by omega
          go_wp2_with fail
          refine (ref_frame A' x.length c' w.heap.size x wr ⟨rfl, h3, h4, hrow⟩ hsr (by omega)).mono ?_
          rintro e w5 ⟨A5, n5, c5, rfl, hO5, hB5⟩
          have hn5' : n5 ≤ 508 := by rw [← hO5.len, FrameP.frame_len]; omega
          have hO' := hO.below_all hB5
          have hBw5 := hB.trans (hB5.mono hsr)
          have hrow5 := hO5.row
          have hl5 := Lib.hid hO5.len
          clear hO hB hB5 hO5
          go_wp2_with (at_builtin; refine wpList_app8 rfl (.tmp 33) (.tmp 38) 25 rfl (.inl ⟨_, Try.underlying25⟩) w.heap.size _ _ _ _ rfl hO' n5 (FrameP.frame x) (Src.slice (by simp [hl5.out]) hrow5) (.inl (by omega)) hBw5.size ?_; intro A6 cap6 w6 hO6 hg6 hB6 hb6)
          go_roundw
          case rel => exact ⟨k + 1, A6, _, cap6, by omega, by go_num, rfl, by rw [HFT.out]; exact hO6, by omega, hBw5.trans hB6⟩
          case measure => simp [intOf]; omega
      · obtain rfl : k = l1.length := by omega
        rw [List.take_length] at hO
        have hl := hO.len
        have hle := hO.le
        obtain ⟨F, hF⟩ : ∃ F, F = FrameP.frames l1 := ⟨_, rfl⟩
        rw [← hF] at hO hl
        clear hF
        subst hl
        by_cases hat : 0 ≤ a2 ∧ a2 < (F.length : Int)
        · obtain ⟨h0, h1⟩ := hat
          obtain ⟨j, rfl⟩ := Int.eq_ofNat_of_zero_le h0
          have hj : j < F.length := by omega
          obtain ⟨ad, hA, hx1, hx2⟩ := hO.row.at_ j (by simpa using hj)
          subst hA
          clear hx1 hx2
          obtain ⟨q1, q2, q3, q4, q5⟩ := hO.at_ hj (F[j] ^^^ y)
          obtain ⟨z, hz⟩ : ∃ z, z = F[j] := ⟨_, rfl⟩
          rw [← hz] at q1 q5
          rw [show b8 (z ^^^ y) = .int .u8 ((z.toNat ^^^ y.toNat : Nat) : Int) by simp [b8, UInt8.toNat_xor]] at q5
          have HZ := Lib.hid hz
          have HQ5 := Lib.hid q5
          clear hz hO q5
          have hd1 : decide ((0 : Int) ≤ (j : Int)) = true := by simp
          have hd2 : decide ((j : Int) < (F.length : Int)) = true := by simp; omega
          go_wp2_with fail
          refine (scans4 (some ad) F.length c _ (F.set j (z ^^^ y)) _ HQ5.out.sl (Nat.le_refl _) (by omega)).mono ?_
          rintro e w7 ⟨rfl, hB7⟩
          go_wp2_with fail
          go_ret
          exact ⟨rfl, (hB.setCell q3 _).trans (hB7.mono (by simpa [World.setCell] using hsr))⟩
        · by_cases h0 : 0 ≤ a2
          · have h1 : ¬ a2 < (F.length : Int) := fun h => hat ⟨h0, h⟩
            clear hat
            go_wp2_with fail
            refine (scans4 A F.length c wr.heap.size F wr hO.sl (Nat.le_refl _) (by omega)).mono ?_
            rintro e w7 ⟨rfl, hB7⟩
            go_wp2_with fail
            go_ret
            exact ⟨rfl, hB.trans (hB7.mono hsr)⟩
          · clear hat
            go_wp2_with fail
            refine (scans4 A F.length c wr.heap.size F wr hO.sl (Nat.le_refl _) (by omega)).mono ?_
            rintro e w7 ⟨rfl, hB7⟩
            go_wp2_with fail
            go_ret
            exact ⟨rfl, hB.trans (hB7.mono hsr)⟩
end Go.Proofs.Ytkcadkkbgahgaaa
