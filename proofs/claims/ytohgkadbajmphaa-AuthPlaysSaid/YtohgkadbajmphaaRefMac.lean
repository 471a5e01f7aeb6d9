/- The walks of the reference's pad and Mac. -/
import Derived.Test.YtohgkadbajmphaaRefSum
import Derived.Test.YtohgkadbajmphaaShaMac
import Derived.Test.YtohgkadbajmphaaChain
import Derived.Test.YtohgkadbajmphaaShaLib
namespace Go.Proofs.Ytohgkadbajmphaa
open Go.RowKit
set_option linter.unusedVariables false
/-- the first k bytes xored, the others as they were -/
def mixed (L : List UInt8) (x : UInt8) (k : Nat) : List UInt8 := (L.map (· ^^^ x)).take k ++ L.drop k
theorem mixed_len (L : List UInt8) (x : UInt8) (k : Nat) (hk : k ≤ L.length) : (mixed L x k).length = L.length := by unfold mixed; simp; omega
theorem mixed_zero (L : List UInt8) (x : UInt8) : mixed L x 0 = L := rfl
theorem mixed_all (L : List UInt8) (x : UInt8) : mixed L x L.length = L.map (· ^^^ x) := by
  unfold mixed
  rw [List.drop_length, List.append_nil, List.take_of_length_le (by simp)]
theorem mixed_at (L : List UInt8) (x : UInt8) (k : Nat) (hk : k < L.length) : (mixed L x k)[k]? = some L[k] := by
  unfold mixed
  rw [List.getElem?_append_right (by simp; omega), List.length_take, List.length_map, show k - min k L.length = 0 by omega, List.getElem?_drop, Nat.add_zero, List.getElem?_eq_getElem hk]
theorem mixed_set (L : List UInt8) (x : UInt8) (k : Nat) (hk : k < L.length) : (mixed L x k).set k (L[k] ^^^ x) = mixed L x (k + 1) := by
  have h2 : k < (L.map (· ^^^ x)).length := by simp [hk]
  unfold mixed
  rw [List.set_append_right _ _ (by rw [List.length_take]; omega), List.length_take, List.length_map, show k - min k L.length = 0 by omega, List.drop_eq_getElem_cons hk, List.set_cons_zero, List.take_succ_eq_append_getElem h2, List.append_assoc]
  simp
/-- behind the test of the key's length -/
def PadCut (w : World) (key : List UInt8) (k : Value) (wx : World) : Prop :=
  ∃ A c, k = .slice A (ShaP.keyOf key).length c ∧ OwnB wx w.heap.size A (ShaP.keyOf key).length c (ShaP.keyOf key) ∧ Below w.heap.size w wx
set_option maxRecDepth 100000 in
set_option maxHeartbeats 1000000 in
theorem ref_pad (A1 : Option Addr) (n1 c1 B : Nat) (key : List UInt8) (x : UInt8) (w : World) (h1 : Sl w B A1 n1 c1 key) (hB : B ≤ w.heap.size) (hm1 : n1 ≤ 70368744177000) :
    Calls Try.prog 48 #[.slice A1 n1 c1, .int .u8 (x.toNat : Int)] w fun e w' => ∃ A c, e = .returned (.slice A 64 c) ∧ OwnB w' w.heap.size A 64 c ((ShaP.key64 key).map (· ^^^ x)) ∧ Below w.heap.size w w' := by
  obtain ⟨hn1, hnc1, hcm1, hr1⟩ := id h1
  subst hn1
  have HX := Lib.hid (show x.toNat < 256 from x.toNat_lt)
  obtain ⟨X, hX⟩ : ∃ X : Int, X = (x.toNat : Int) := ⟨_, rfl⟩
  have hX0 : 0 ≤ X := by omega
  have hX1 : X < 256 := by have := HX.out; omega
  rw [← hX]
  have HXX := Lib.hid hX
  clear hX
  go_enter Try.func48, Try.ntmps48
  go_upto_if 13 with (at_builtin; refine wpList_appn1 rfl (.tmp 8) (.tmp 9) 31 5 (.int .u8 0) 1 rfl Try.underlying31 info_u8 rfl (by omega) w.heap.size _ _ _ _ rfl (Own.empty1 w w.heap.size 5 (Nat.le_refl _)) key.length (key.map b8) (Src.slice (by simp) (hr1.alloc hB _)) (one_b8s key) key.length (by omega) (key.map b8) rfl (by omega) (by simp) ?_; intro A2 c2 w2 hO2 hg2 hB2 hor2; have HB2 := Lib.hid (((Below.refl w.heap.size w).alloc (Nat.le_refl _) (.cells #[] 5)).trans hB2); clear hB2 hor2 hg2)
  have hO2' : OwnB w2 w.heap.size A2 key.length c2 key := hO2
  have HO2 := Lib.hid hO2'
  clear hO2 hO2'
  go_cut [5] (fun k wx => PadCut w key k wx)
  case first =>
    by_cases hk : 64 < key.length
    · have hI : (64 : Int) < (key.length : Int) := by omega
      have hT := Lib.hid (ref_sum A2 key.length c2 w2.heap.size key w2 HO2.out.sl (Nat.le_refl _) (by omega))
      obtain ⟨D, hD⟩ : ∃ D : List UInt8, D = ShaP.digest key := ⟨_, rfl⟩
      have hDl : D.length = 32 := by rw [hD]; exact ShaP.digest_len _
      obtain ⟨C, hC⟩ : ∃ C, C = D.map b8 := ⟨_, rfl⟩
      rw [← hD, ← hC] at hT
      have HC := Lib.hid hC
      have HD := Lib.hid hD
      have HDl := Lib.hid hDl
      clear hC hD hDl
      go_wp2_with fail
      refine hT.out.mono ?_
      rintro e w3 ⟨rfl, hB3⟩
      have HST := Lib.hid (boxed_store w3 C D HDl.out HC.out)
      obtain ⟨wc, hwc⟩ : ∃ wc, wc = boxed32 w3 C := ⟨_, rfl⟩
      have hgc : Grew w3 wc := by rw [hwc]; exact boxed_grew w3 C
      have HA := Lib.hid (show ArrV wc w3.heap.size (D.map b8) by rw [hwc, ← HC.out]; exact HST.out.2.2.2.1)
      have HB3 := Lib.hid (HB2.out.trans ((hB3.trans (hgc.mono hB3.size)).mono HB2.out.size))
      have HWC := Lib.hid hwc
      have HSZ := Lib.hid (show w.heap.size ≤ wc.heap.size from HB3.out.size)
      clear hT hB3 hgc hwc
      go_wp2_with (first
        | (refine wpList_value (o := ⟨some 6, _, _, _, _, _⟩) (v := .pointer (some ⟨w3.heap.size, 0, none⟩)) (w' := w3.alloc (.cells dzeros 23)) rfl (by kernel_rfl) ?_)
        | (refine wpList_store_mid rfl 23 (.tmp 6) (.tmp 15) rfl w3.heap.size 0 C.toArray rfl rfl HST.out.1 HST.out.2.1 HST.out.2.2.1 ?_; rw [show (w3.alloc (.cells dzeros 23)).setCells w3.heap.size 0 C.toArray.toList = wc from HWC.out.symm])
        | (at_builtin; refine wpList_appn1 rfl (.tmp 16) (.tmp 17) 31 5 (.int .u8 0) 1 rfl Try.underlying31 info_u8 rfl (by omega) w.heap.size _ _ _ _ rfl (Own.empty1 wc w.heap.size 5 HSZ.out) 32 (D.map b8) (Src.slice (by rw [List.length_map, HDl.out]) ((HA.out.sl (n := 32) (c := 32) HDl.out (Nat.le_refl _) (by unfold maxLen; omega)).2.2.2.alloc (Nat.le_refl _) _)) (one_b8s D) 32 rfl (D.map b8) rfl (by omega) (by have := HSZ.out; simp; omega) ?_; intro A4 c4 w4 hO4 hg4 hB4 hor4))
      go_meet
      case rel =>
        have hO4' : OwnB w4 w.heap.size A4 32 c4 D := hO4
        have e : ShaP.keyOf key = D := by unfold ShaP.keyOf; rw [if_pos hk, HD.out]
        refine ⟨A4, c4, by rw [e, HDl.out], by rw [e, HDl.out]; exact hO4', (HB3.out.alloc HSZ.out _).trans hB4⟩
    · have hI : ¬ (64 : Int) < (key.length : Int) := by omega
      go_wp2_with fail
      go_meet
      case rel =>
        have e : ShaP.keyOf key = key := by unfold ShaP.keyOf; rw [if_neg (by omega)]
        refine ⟨A2, c2, by rw [e], by rw [e]; exact HO2.out, HB2.out⟩
  case rest =>
    obtain ⟨A, c, rfl, hS, hBc⟩ := hcut
    obtain ⟨kb, hkb⟩ : ∃ kb : List UInt8, kb = ShaP.keyOf key := ⟨_, rfl⟩
    have hk64 : kb.length ≤ 64 := by rw [hkb]; exact ShaP.keyOf_len key
    rw [← hkb] at hS ⊢
    have HKB := Lib.hid hkb
    have HS := Lib.hid hS
    have HBc := Lib.hid hBc
    clear HO2 HB2 hkb hS hBc
    go_wp2_with fail
    go_loopw [5] (fun f wy => ∃ (z : Nat) (A : Option Addr) (c : Nat), kb.length + z ≤ 64 ∧ f = .slice A (kb.length + z) c ∧ OwnB wy w.heap.size A (kb.length + z) c (kb ++ List.replicate z 0) ∧ Below w.heap.size w wy) (fun f _ => 64 - (match f with | .slice _ n _ => n | _ => 0))
    case atStart => exact ⟨0, A, c, by omega, rfl, by simpa using HS.out, HBc.out⟩
    case round =>
      clear HS HBc
      obtain ⟨z, A9, c9, hz, rfl, hO9, hB9⟩ := hrel
      by_cases hlt : kb.length + z < 64
      · obtain ⟨N, hN⟩ : ∃ N, N = kb.length + z := ⟨_, rfl⟩
        rw [← hN] at hO9 hlt ⊢
        have hI : (N : Int) < 64 := by omega
        have HN := Lib.hid hN
        have hBn := hB9.alloc hB9.size (.cells #[.int .u8 0] 5)
        clear hN hz
        go_wp2_with (at_builtin; refine wpList_appn1 rfl (.tmp 22) (.tmp 23) 31 5 (.int .u8 0) 1 rfl Try.underlying31 info_u8 rfl (by omega) w.heap.size _ _ _ _ rfl (hO9.alloc _) 1 [b8 0] (Src.slice rfl (Row.new _ _ _ _ (wr.heap.size + 1) _ rfl (by omega) _ rfl)) (one_b8s [0]) (N + 1) rfl _ rfl (by omega) hBn.size ?_; intro A8 cap8 w8 hO8 hg8 hB8 hb8)
        go_roundw
        case rel => exact ⟨z + 1, A8, cap8, by have := HN.out; omega, by rw [HN.out, Nat.add_assoc], by rw [← Nat.add_assoc, ← HN.out]; unfold OwnB; simpa [List.replicate_succ'] using hO8, hBn.trans hB8⟩
        case measure => simp; omega
      · have e64 : kb.length + z = 64 := by omega
        obtain ⟨L, hL⟩ : ∃ L : List UInt8, L = kb ++ List.replicate z 0 := ⟨_, rfl⟩
        have hLl : L.length = 64 := by rw [hL]; simp; omega
        have HL := Lib.hid (show L = ShaP.key64 key by rw [hL]; unfold ShaP.key64; rw [← HKB.out, show 64 - kb.length = z by omega])
        rw [e64, ← hL] at hO9
        rw [e64]
        have HO9 := Lib.hid hO9
        have HB9 := Lib.hid hB9
        have HLl := Lib.hid hLl
        obtain ⟨ad, hA, _⟩ := hO9.row.at_ 0 (by simp; omega)
        subst hA
        have hc9 := hO9.le.1
        have hc9m := hO9.le.2
        unfold maxLen at hc9m
        clear hO9 hB9 hL hlt hz e64 HKB
        go_wp2_with fail
        go_loopw [7] (fun i wy => ∃ k : Nat, k ≤ 64 ∧ i = .int .i64 (k : Int) ∧ OwnB wy w.heap.size (some ad) 64 c9 (mixed L x k) ∧ Below w.heap.size w wy) (fun i _ => 64 - (intOf i).toNat)
        case atStart => exact ⟨0, by omega, rfl, HO9.out, HB9.out⟩
        case round =>
          obtain ⟨k, hk, rfl, hO, hBy⟩ := hrel
          by_cases hlt : k < 64
          · have hkL : k < L.length := by rw [HLl.out]; exact hlt
            obtain ⟨p1, p2, p3, p4, p5⟩ := hO.at_ (j := k) (by rw [mixed_len L x k (by omega)]; exact hkL) (L[k] ^^^ x)
            obtain ⟨y, hy⟩ : ∃ y, y = L[k] := ⟨_, rfl⟩
            have q1 : wr.cell? (ad.add k) = some (b8 y) := by
              rw [p1, hy]
              have h2 := mixed_at L x k hkL
              rw [List.getElem?_eq_getElem (by rw [mixed_len L x k (by omega)]; exact hkL)] at h2
              injection h2 with h2
              rw [h2]
            have x1 : bits .xor .u8 (y.toNat : Int) X = ((y ^^^ x).toNat : Int) := by rw [HXX.out]; exact u8_xor_nat' y x
            rw [mixed_set L x k hkL, ← hy] at p5
            have P5 := Lib.hid p5
            have hI : (k : Int) < 64 := by omega
            have HBN := Lib.hid (hBy.setCell p3 (b8 (y ^^^ x)))
            clear p1 p5 hy hO
            go_wp2_with fail
            go_roundw
            case rel => exact ⟨k + 1, by omega, by go_num, P5.out, HBN.out⟩
            case measure => simp [intOf]; omega
          · obtain rfl : k = 64 := by omega
            go_wp2_with fail
            go_ret
            refine ⟨some ad, c9, rfl, ?_, hBy⟩
            have e := mixed_all L x
            rw [HLl.out] at e
            rw [e, HL.out] at hO
            exact hO
set_option maxRecDepth 100000 in
set_option maxHeartbeats 1000000 in
theorem ref_mac (A1 A2 : Option Addr) (n1 c1 n2 c2 B : Nat) (key b : List UInt8) (w : World) (h1 : Sl w B A1 n1 c1 key) (h2 : Sl w B A2 n2 c2 b) (hB : B ≤ w.heap.size) (hm1 : n1 ≤ 70368744177000) (hm2 : n2 ≤ 70368744177000) :
    Calls Try.prog 24 #[.slice A1 n1 c1, .slice A2 n2 c2] w fun e w' => e = .returned (.agg ((ShaP.mac key b).map b8).toArray) ∧ Below w.heap.size w w' := by
  have hn2 := h2.1
  subst hn2
  have H1 := Lib.hid h1
  have H2 := Lib.hid h2
  obtain ⟨p1, hp1⟩ : ∃ p : List UInt8, p = (ShaP.key64 key).map (· ^^^ 0x36) := ⟨_, rfl⟩
  obtain ⟨p2, hp2⟩ : ∃ p : List UInt8, p = (ShaP.key64 key).map (· ^^^ 0x5c) := ⟨_, rfl⟩
  have HPad1 := Lib.hid (show ∀ W, Below w.heap.size w W → Calls Try.prog 48 #[.slice A1 n1 c1, .int .u8 54] W fun e w' => ∃ A c, e = .returned (.slice A 64 c) ∧ OwnB w' W.heap.size A 64 c p1 ∧ Below W.heap.size W w' from fun W hW => by
    rw [hp1]; exact ref_pad A1 n1 c1 B key 0x36 W (h1.below (hW.mono hB)) (by have := hW.size; omega) hm1)
  have HPad2 := Lib.hid (show ∀ W, Below w.heap.size w W → Calls Try.prog 48 #[.slice A1 n1 c1, .int .u8 92] W fun e w' => ∃ A c, e = .returned (.slice A 64 c) ∧ OwnB w' W.heap.size A 64 c p2 ∧ Below W.heap.size W w' from fun W hW => by
    rw [hp2]; exact ref_pad A1 n1 c1 B key 0x5c W (h1.below (hW.mono hB)) (by have := hW.size; omega) hm1)
  have HP1 := Lib.hid hp1
  have HP2 := Lib.hid hp2
  have HR0 := Lib.hid (dz_made w)
  obtain ⟨w1, hw1⟩ : ∃ w1, w1 = w.alloc (.cells dzeros 23) := ⟨_, rfl⟩
  have HB1 := Lib.hid (show Below w.heap.size w w1 by rw [hw1]; exact (Below.refl _ _).alloc (Nat.le_refl _) _)
  have HR1 := Lib.hid (show ArrV w1 w.heap.size ((List.replicate 32 (0 : UInt8)).map b8) by rw [hw1]; exact HR0.out)
  have HW1 := Lib.hid hw1
  clear h1 h2 HR0 hw1 hp1 hp2
  go_enter Try.func24, Try.ntmps24
  go_wp2_with (refine wpList_value (o := ⟨some 4, _, _, _, _, _⟩) (v := .pointer (some ⟨w.heap.size, 0, none⟩)) (w' := w.alloc (.cells dzeros 23)) rfl (by kernel_rfl) ?_; rw [← HW1.out])
  refine (HPad1.out w1 HB1.out).mono ?_
  rintro e w2 ⟨A3, c3, rfl, hO3, hB3⟩
  have HB2 := Lib.hid (HB1.out.trans (hB3.mono HB1.out.size))
  have HR2 := Lib.hid (HR1.out.below hB3 HR1.out.lt)
  have HRB := Lib.hid ((H2.out.below (HB2.out.mono hB)).2.2.2)
  have HL3 := Lib.hid hO3.len
  have hc3 := hO3.le.1
  have HO3 := Lib.hid (show Own w2 w1.heap.size 5 1 A3 64 c3 (p1.map b8) from hO3)
  have HSZ := Lib.hid hB3.size
  clear hB3 hO3 HR1
  go_wp2_with (at_builtin; refine wpList_appn1 rfl (.tmp 7) (.tmp 8) 31 5 (.int .u8 0) 1 rfl Try.underlying31 info_u8 rfl (by omega) w1.heap.size _ _ _ _ rfl HO3.out b.length (b.map b8) (Src.slice (by simp) HRB.out) (one_b8s b) (64 + b.length) rfl ((p1 ++ b).map b8) (by simp) (by omega) HSZ.out ?_; intro A4 c4 w4 hO4 hg4 hB4 hor4)
  have HB4 := Lib.hid (HB2.out.trans (hB4.mono HB1.out.size))
  have hR4 := HR2.out.below hB4 (by have := HR2.out.lt; have := HB1.out.size; have := HW1.out; have : w1.heap.size = w.heap.size + 1 := by rw [this]; simp
                                    omega)
  have HR4 := Lib.hid hR4
  have hO4' : OwnB w4 w1.heap.size A4 (64 + b.length) c4 (p1 ++ b) := hO4
  obtain ⟨D1, hD1⟩ : ∃ D : List UInt8, D = ShaP.digest (p1 ++ b) := ⟨_, rfl⟩
  have hD1l : D1.length = 32 := by rw [hD1]; exact ShaP.digest_len _
  obtain ⟨C1, hC1⟩ : ∃ C, C = D1.map b8 := ⟨_, rfl⟩
  have hT := Lib.hid (ref_sum A4 (64 + b.length) c4 w4.heap.size (p1 ++ b) w4 hO4'.sl (Nat.le_refl _) (by omega))
  rw [← hD1, ← hC1] at hT
  have HD1 := Lib.hid hD1
  have HD1l := Lib.hid hD1l
  have HC1 := Lib.hid hC1
  clear hB4 hO4 hO4' hg4 hor4 hR4 hD1 hD1l hC1 HO3 HL3 HRB HR2 hc3
  refine hT.out.mono ?_
  rintro e w5 ⟨rfl, hB5⟩
  have HST := Lib.hid (boxed_store w5 C1 D1 HD1l.out HC1.out)
  obtain ⟨wc, hwc⟩ : ∃ wc, wc = boxed32 w5 C1 := ⟨_, rfl⟩
  have hgc : Grew w5 wc := by rw [hwc]; exact boxed_grew w5 C1
  have HA := Lib.hid (show ArrV wc w5.heap.size (D1.map b8) by rw [hwc, ← HC1.out]; exact HST.out.2.2.2.1)
  have hg4c : Grew w4 wc := Grew.trans hB5 hgc
  have HBc := Lib.hid (HB4.out.trans (hg4c.mono HB4.out.size))
  have HRc := Lib.hid (HR4.out.grew hg4c)
  have HWC := Lib.hid hwc
  clear hT hB5 hgc hwc hg4c HR4
  go_wp2_with (first
    | (refine wpList_value (o := ⟨some 5, _, _, _, _, _⟩) (v := .pointer (some ⟨w5.heap.size, 0, none⟩)) (w' := w5.alloc (.cells dzeros 23)) rfl (by kernel_rfl) ?_)
    | (refine wpList_store_mid rfl 23 (.tmp 5) (.tmp 10) rfl w5.heap.size 0 C1.toArray rfl rfl HST.out.1 HST.out.2.1 HST.out.2.2.1 ?_; rw [show (w5.alloc (.cells dzeros 23)).setCells w5.heap.size 0 C1.toArray.toList = wc from HWC.out.symm]))
  refine wp_region_any (by kernel_rfl) ?_
  refine wpAny_free 0 (oi := ⟨some 11, _, _, _, _, _⟩) (.slice A1 n1 c1) rfl (by kernel_rfl) (by kernel_rfl) (by kernel_rfl) (fun _ _ _ h => h) rfl (fun W => by simp [go_sem]) ?_
  (simp only [Act.put, List.setIfInBounds_toArray, List.set_cons_succ, List.set_cons_zero])
  refine wpAny_free 2 (oi := ⟨some 13, _, _, _, _, _⟩) (.slice (some ⟨w5.heap.size, 0, none⟩) 32 32) rfl (by kernel_rfl) (by kernel_rfl) (by kernel_rfl) (fun _ _ _ h => h) rfl (fun W => by simp [go_sem]) ?_
  (simp only [Act.put, List.setIfInBounds_toArray, List.set_cons_succ, List.set_cons_zero])
  refine wpAny_chain [1, 3, 4, 5] _ _ _ _ (by decide) (by kernel_rfl) (by kernel_rfl) ?_
  simp only [List.filterMap_cons, List.filterMap_nil, List.getElem?_toArray, List.getElem?_cons_succ, List.getElem?_cons_zero]
  change wpList _ _ _ _ _ (World.drewN wc 1)
  have HBd := Lib.hid (show Below w.heap.size w (wc.drewN 1) from HBc.out.trans ((Grew.drewN wc 1).mono HBc.out.size))
  have HAd := Lib.hid (HA.out.drewN 1)
  have HRd := Lib.hid (HRc.out.drewN 1)
  obtain ⟨wd, hwd⟩ : ∃ wd, wd = wc.drewN 1 := ⟨_, rfl⟩
  rw [← hwd] at HBd HAd HRd ⊢
  clear hwd HBc HA HRc HB4 HB2 HSZ HST HWC
  have hBdw := HBd.out.size
  refine wpList_callR rfl _ _ (fun v w' => ∃ A c, v = .slice A 64 c ∧ OwnB w' wd.heap.size A 64 c p2 ∧ Below wd.heap.size wd w') (by simp [go_sem]) ((HPad2.out wd HBd.out).mono fun e w' ⟨A, c, he, h1, h2⟩ => ⟨_, he, A, c, rfl, h1, h2⟩) ?_
  rintro v w6 ⟨A6, c6, rfl, hO6, hB6⟩
  have hc6 := hO6.le.1
  have HO6 := Lib.hid (show Own w6 wd.heap.size 5 1 A6 64 c6 (p2.map b8) from hO6)
  have HB6 := Lib.hid hB6
  have HROW := Lib.hid (show Row w6 w6.heap.size (some ⟨w5.heap.size, 0, none⟩) (D1.map b8) from ((HAd.out.grew HB6.out).sl (n := 32) (c := 32) HD1l.out (Nat.le_refl _) (by unfold maxLen; omega)).2.2.2)
  have HR6 := Lib.hid (HRd.out.grew HB6.out)
  clear hO6 hB6
  (simp only [Act.put, List.setIfInBounds_toArray, List.set_cons_succ, List.set_cons_zero])
  refine wpList_appn1 rfl (.tmp 12) (.tmp 13) 31 5 (.int .u8 0) 1 rfl Try.underlying31 info_u8 rfl (by omega) wd.heap.size _ _ _ _ rfl HO6.out 32 (D1.map b8) (Src.slice (by rw [List.length_map, HD1l.out]) HROW.out) (one_b8s D1) 96 rfl ((p2 ++ D1).map b8) (by simp) (by omega) HB6.out.size ?_
  intro A7 c7 w7 hO7 hg7 hB7 hor7
  have hO7' : OwnB w7 wd.heap.size A7 96 c7 (p2 ++ D1) := hO7
  have HB7 := Lib.hid (Below.trans HB6.out hB7)
  have HR7 := Lib.hid (HR6.out.below hB7 HRd.out.lt)
  obtain ⟨C2, hC2⟩ : ∃ C, C = (ShaP.digest (p2 ++ D1)).map b8 := ⟨_, rfl⟩
  have hT := ref_sum A7 96 c7 w7.heap.size (p2 ++ D1) w7 hO7'.sl (Nat.le_refl _) (by omega)
  rw [← hC2] at hT
  have HC2 := Lib.hid hC2
  clear hO7 hg7 hB7 hor7 hO7' hC2
  (simp only [Act.put, List.setIfInBounds_toArray, List.set_cons_succ, List.set_cons_zero])
  refine wpList_callR rfl _ _ (fun v w' => v = .agg C2.toArray ∧ Below w7.heap.size w7 w') (by simp [go_sem]) (hT.mono fun e w' ⟨he, h2⟩ => ⟨_, he, rfl, h2⟩) ?_
  rintro v w8 ⟨rfl, hB8⟩
  have HM := Lib.hid (show ShaP.mac key b = ShaP.digest (p2 ++ D1) by unfold ShaP.mac; rw [← HP1.out, ← HP2.out, ← HD1.out])
  have HR8 := Lib.hid (HR7.out.grew hB8)
  have HB8 := Lib.hid (HBd.out.trans ((HB7.out.trans (hB8.mono HB7.out.size)).mono hBdw))
  have HD2 := Lib.hid (digest_stored (w := w8) (D := []) HC2.out HR8.out)
  have HB9 := Lib.hid (HB8.out.trans (below_grown (grown_setCells w.heap.size C2 0 w8) HB8.out.size (fun g e => by injection e with e; omega)))
  have HLV := Lib.hid (run_loadVar_mid (P := Try.prog) _ w.heap.size 0 23 C2 _ HD2.out.2.2.2.1.range Try.underlying23 rfl (by have := HD2.out.2.1; simpa using this))
  clear hT hB8 HO6 HROW HR6 HR7 HB7
  (simp only [Act.put, List.setIfInBounds_toArray, List.set_cons_succ, List.set_cons_zero])
  refine wpList_store_mid rfl 23 (.tmp 4) (.tmp 15) rfl w.heap.size 0 C2.toArray rfl rfl HD2.out.1 HD2.out.2.1 HD2.out.2.2.1 ?_
  refine wpList_nil ?_
  go_wp2_with fail
  have hl := HLV.out
  have hres : ∀ W, W = w8.setCells w.heap.size 0 C2 → (loadVar 23 ⟨w.heap.size, 0, none⟩).run Try.prog W = .ok (.agg C2.toArray) W := fun W e => by rw [e]; exact hl
  have hres2 := hres (w8.setCells w.heap.size 0 C2.toArray.toList) (by simp)
  clear hres hl
  refine bodyPost_ret (v := .agg C2.toArray) (by simp [results, Try.results24, Act.put, asAddr, hres2]) rfl ⟨by rw [HM.out, HC2.out], by simpa using HB9.out⟩
end Go.Proofs.Ytohgkadbajmphaa
