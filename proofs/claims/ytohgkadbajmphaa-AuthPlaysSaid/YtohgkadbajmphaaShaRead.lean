/- The walks of sha.Read, sha.Equal. -/
import Derived.Test.YtohgkadbajmphaaShaHex
namespace Go.Proofs.Ytohgkadbajmphaa
open Go.RowKit
set_option linter.unusedVariables false
attribute [local irreducible] wpStill
theorem run_index_text (l : List UInt8) (i : Nat) (x : UInt8) (h : l[i]? = some x) (W : World) : (Instr.index 9 (.string ⟨l.toArray⟩) (.int .i64 (i : Int))).run Try.prog W = .ok (b8 x) W := by
  have h2 : (ByteArray.mk l.toArray)[i]? = some x := by
    obtain ⟨h3, h4⟩ := List.getElem?_eq_some_iff.1 h
    have h5 : i < (ByteArray.mk l.toArray).size := by show i < l.toArray.size; simpa using h3
    rw [getElem?_pos (ByteArray.mk l.toArray) i h5]
    exact congrArg some h4
  simp [go_sem, Instr.index, h2, asIntOf]
/-- 32 bytes stored into 32 bytes of 0 -/
theorem stored32 {W : World} {g : Nat} {C z : List Value} {l : List UInt8} (hl : l.length = 32) (hC : C = l.map b8) (h : ArrV W g z) (hz : z.length = 32) :
    W.there g 0 C.toArray.size ∧ (Try.prog.info? 23).map (·.size) = some C.toArray.size ∧ C.toArray.all (·.oneCell') = true ∧ ArrV (W.setCells g 0 C) g C ∧ C.length = 32 := by
  have hl : C.length = 32 := by rw [hC, List.length_map]; exact hl
  refine ⟨?_, ?_, ?_, h.stored (by rw [hl, hz]), hl⟩
  · have := h.there
    rw [hz] at this
    simp [hl]
    exact this
  · rw [List.size_toArray, hl]; kernel_rfl
  · rw [hC]
    exact all_oneCell_toArray (fun v hv => by obtain ⟨x, _, rfl⟩ := List.mem_map.1 hv; rfl)
theorem load32 {W : World} {g : Nat} {C : List Value} (h : ArrV W g C) (hl : C.length = 32) : (loadVar 23 ⟨g, 0, none⟩).run Try.prog W = .ok (.agg C.toArray) W :=
  run_loadVar_mid (P := Try.prog) W g 0 23 C _ h.range Try.underlying23 rfl (by rw [hl]; kernel_rfl)
theorem zeros32_len : ((List.replicate 32 (0 : UInt8)).map b8).length = 32 := by simp
theorem grown_grew {a b c : World} {r : Option Nat} (h : a.grownBy b r) (k : Grew b c) : a.grownBy c r :=
  ⟨k.os.trans h.os, k.tape.trans h.tape, k.output.trans h.output, Nat.le_trans h.size k.size, fun i hi hne => (k.block i (Nat.lt_of_lt_of_le hi h.size)).trans (h.block i hi hne)⟩
theorem nib_or (a b : Nat) (ha : a ≤ 15) (hb : b ≤ 15) : bits .or .u8 ((a : Int) * 16) (b : Int) = ((UInt8.ofNat (16 * a + b)).toNat : Int) := by
  have e : (a : Int) * 16 = ((a * 2 ^ 4 : Nat) : Int) := by omega
  rw [e, u8_or_nat _ _ (by omega) (by omega), Nat.mul_comm, ← Nat.two_pow_add_eq_or_of_lt (by omega), UInt8.toNat_ofNat']
  congr 1
  omega
set_option maxRecDepth 100000 in
set_option maxHeartbeats 1000000 in
theorem sha_read (l : List UInt8) (w : World) (hm : l.length ≤ maxLen) :
    Calls Try.prog 15 #[.string ⟨l.toArray⟩] w fun e w' => e = .returned (.tuple #[.agg ((ShaP.readD l).map b8).toArray, .int .i64 (ShaP.readE l)]) ∧ Below w.heap.size w w' := by
  have hsz : (⟨l.toArray⟩ : ByteArray).size = l.length := by show l.toArray.size = _; simp
  have HSZ := Lib.hid hsz
  have HR0 := Lib.hid (dz_made w)
  obtain ⟨w1, hw1⟩ : ∃ w1, w1 = w.alloc (.cells dzeros 23) := ⟨_, rfl⟩
  obtain ⟨w2, hw2⟩ : ∃ w2, w2 = w1.alloc (.cells dzeros 23) := ⟨_, rfl⟩
  have hz1 : w1.heap.size = w.heap.size + 1 := by rw [hw1]; simp
  have HB2 := Lib.hid (show Below w.heap.size w w2 by rw [hw2, hw1]; exact ((Below.refl _ _).alloc (Nat.le_refl _) _).alloc (by simp) _)
  have HR2 := Lib.hid (show ArrV w2 w.heap.size ((List.replicate 32 (0 : UInt8)).map b8) by rw [hw2]; refine ArrV.alloc ?_ _; rw [hw1]; exact HR0.out)
  have HD2 := Lib.hid (show ArrV w2 (w.heap.size + 1) ((List.replicate 32 (0 : UInt8)).map b8) by rw [hw2, ← hz1]; exact dz_made w1)
  have HW1 := Lib.hid hw1
  have HW2 := Lib.hid hw2
  have HZ1 := Lib.hid hz1
  clear HR0 hw1 hw2 hz1 hsz
  unfold maxLen at hm
  go_enter Try.func15, Try.ntmps15
  go_upto_region 2 with (first
    | (refine wpList_value (o := ⟨some 2, _, _, _, _, _⟩) (v := .pointer (some ⟨w.heap.size, 0, none⟩)) (w' := w.alloc (.cells dzeros 23)) rfl (by kernel_rfl) ?_; rw [← HW1.out])
    | (refine wpList_value (o := ⟨some 4, _, _, _, _, _⟩) (v := .pointer (some ⟨w1.heap.size, 0, none⟩)) (w' := w1.alloc (.cells dzeros 23)) rfl (by kernel_rfl) ?_; rw [← HW2.out]))
  have hz := HZ1.out
  rw [hz]
  clear hz
  by_cases hl : l.length = 64
  · have hI : ((l.length : Int) != 64) = false := by rw [hl]; rfl
    have hsz := HSZ.out
    go_wp2_with fail
    clear hI hsz
    go_loopw [12] (fun i wy => ∃ k : Nat, k ≤ 32 ∧ i = .int .i64 (k : Int) ∧ (l.take (2 * k)).all ShaP.isd = true ∧ ArrV wy (w.heap.size + 1) ((ShaP.laidU l k).map b8) ∧ w2.grownBy wy (some (w.heap.size + 1))) (fun i _ => 32 - (intOf i).toNat)
    case atStart => exact ⟨0, Nat.zero_le _, rfl, rfl, HD2.out, ⟨rfl, rfl, rfl, Nat.le_refl _, fun _ _ _ => rfl⟩⟩
    case round =>
      obtain ⟨k, hk, rfl, hall, hA, hgr⟩ := hrel
      have HALL := Lib.hid hall
      have HA := Lib.hid hA
      have HRr := Lib.hid (HR2.out.other hgr (by intro e; injection e with e; omega))
      have HBr := Lib.hid (HB2.out.trans (below_grown hgr HB2.out.size (fun g e => by injection e with e; omega)))
      clear hall hA
      by_cases hlt : k < 32
      · have k1 : 2 * k < l.length := by omega
        have k2 : 2 * k + 1 < l.length := by omega
        obtain ⟨x, hx⟩ : ∃ x, l[2 * k]? = some x := ⟨_, List.getElem?_eq_getElem k1⟩
        obtain ⟨y, hy⟩ : ∃ y, l[2 * k + 1]? = some y := ⟨_, List.getElem?_eq_getElem k2⟩
        have g1 : ∀ W : World, (Instr.index 9 (.string ⟨l.toArray⟩) (.int .i64 (2 * (k : Int)))).run Try.prog W = .ok (b8 x) W := run_index_text l (2 * k) x hx
        have g2 : ∀ W : World, (Instr.index 9 (.string ⟨l.toArray⟩) (.int .i64 (2 * (k : Int) + 1))).run Try.prog W = .ok (b8 y) W := run_index_text l (2 * k + 1) y hy
        have G := Lib.hid (And.intro g1 g2)
        have HX := Lib.hid hx
        have HY := Lib.hid hy
        have hI : (k : Int) < 32 := by omega
        clear hx hy g1 g2 k1 k2
        go_upto_region 7 with fail
        have hqq := G.out
        refine wp_region_x [] (by kernel_rfl) (by kernel_rfl) (by kernel_rfl) ?_
        simp only [blank, List.foldl_nil]
        repeat (first
          | (refine wpX_value (v := ?_) rfl (by intros; simp) rfl rfl (fun x => ?_) ?_; rotate_left; (focus (simp [go_sem, hqq]; (try go_ints); first | done | (with_reducible rfl))); (simp only [Act.put, List.setIfInBounds_toArray, List.set_cons_succ, List.set_cons_zero]))
          | (refine wpX_call (b8 (ShaP.dig x)) _ _ rfl (by intros; simp) rfl rfl (fun _ => ?_) (fun w' _ => (sha_digit x w').mono fun _ _ h => ⟨h.1, h.2 ▸ Grew.refl _⟩) ?_; (focus (simp [go_sem]; done)); (simp only [Act.put, List.setIfInBounds_toArray, List.set_cons_succ, List.set_cons_zero]))
          | (refine wpX_call (b8 (ShaP.dig y)) _ _ rfl (by intros; simp) rfl rfl (fun _ => ?_) (fun w' _ => (sha_digit y w').mono fun _ _ h => ⟨h.1, h.2 ▸ Grew.refl _⟩) ?_; (focus (simp [go_sem]; done)); (simp only [Act.put, List.setIfInBounds_toArray, List.set_cons_succ, List.set_cons_zero])))
        (refine wpX_nil ?_; intro xb wx hxg xl; obtain ⟨xf, xe⟩ := LikeAll.end_ xl; clear xl; subst xe; simp only [fill, List.foldl_nil, Act.put])
        clear hqq
        have HAx := Lib.hid (HA.out.grew hxg)
        have HRx := Lib.hid (HRr.out.grew hxg)
        have HBx := Lib.hid (HBr.out.trans (hxg.mono HBr.out.size))
        have hgx0 := Lib.hid (grown_grew hgr hxg)
        clear hxg hgr HA HRr HBr
        by_cases hgx : ShaP.isd x = true
        · by_cases hgy : ShaP.isd y = true
          · have dx := ShaP.dig_good x hgx
            have dy := ShaP.dig_good y hgy
            have j1 : ¬ (15 : Int) < ((ShaP.dig x).toNat : Int) := by omega
            have j2 : ¬ (15 : Int) < ((ShaP.dig y).toNat : Int) := by omega
            have HOR := Lib.hid (nib_or _ _ dx dy)
            have HT := Lib.hid (ShaP.all_take_two l k x y HX.out HY.out HALL.out hgx hgy)
            have q1 := HAx.out.cell (i := k) (by rw [List.length_map, ShaP.laidU_len l k hl hk]; exact hlt)
            have q2 := HAx.out.frozen k
            have hst := HAx.out.set k (b8 (UInt8.ofNat (16 * (ShaP.dig x).toNat + (ShaP.dig y).toNat)))
            rw [← List.map_set, ShaP.laidU_set l k x y hl hlt HX.out HY.out] at hst
            have HST := Lib.hid hst
            clear hst hgx hgy
            go_wp2_with fail
            go_roundw
            case rel =>
              refine ⟨k + 1, by omega, by go_num, HT.out, ?_, ?_⟩
              · rw [HOR.out]; exact HST.out
              · have hg := hgx0.out
                exact ⟨hg.os, hg.tape, hg.output, by have := hg.size; simpa [World.setCell] using this, fun i hi hne => (Below.heap_setCell wx ⟨w.heap.size + 1, k, none⟩ _ i (fun e => hne (by rw [e]))).trans (hg.block i hi hne)⟩
            case measure => simp [intOf]; omega
          · have dx := ShaP.dig_good x hgx
            have j1 : ¬ (15 : Int) < ((ShaP.dig x).toNat : Int) := by omega
            have hgy0 : ShaP.isd y = false := by simpa using hgy
            clear hgx hgy
            have hnall := ShaP.not_all l (2 * k + 1) y HY.out (by simpa using hgy0)
            have d255 := ShaP.dig_bad y (by simpa using hgy0)
            have j2 : (15 : Int) < ((ShaP.dig y).toNat : Int) := by omega
            obtain ⟨Z, hZ⟩ : ∃ Z, Z = (List.replicate 32 (0 : UInt8)).map b8 := ⟨_, rfl⟩
            have HZ := Lib.hid hZ
            have HS := Lib.hid (stored32 (W := wx) (by simp) hZ HRx.out zeros32_len)
            have HB3 := Lib.hid (HBx.out.trans (below_grown (grown_setCells w.heap.size Z 0 wx) HBx.out.size (fun g e => by injection e with e; omega)))
            have HE : Hid (ShaP.readE l = 14) := Lib.hid (by unfold ShaP.readE; rw [if_neg (fun h => hnall h.2)])
            have HD : Hid ((ShaP.readD l).map b8 = Z) := Lib.hid (by unfold ShaP.readD; rw [if_neg (fun h => hnall h.2), HZ.out])
            clear hZ hnall d255 hgy0
            go_wp2_with (first
              | (refine wpList_value (o := ⟨some 32, _, _, _, _, _⟩) (v := .agg Z.toArray) (w' := wx) rfl (by rw [HZ.out]; kernel_rfl) ?_)
              | (refine wpList_store_mid rfl 23 (.tmp 2) (.tmp 32) rfl w.heap.size 0 Z.toArray rfl rfl HS.out.1 HS.out.2.1 HS.out.2.2.1 ?_))
            have hres := load32 HS.out.2.2.2.1 HS.out.2.2.2.2
            refine bodyPost_ret (v := .tuple #[.agg Z.toArray, .int .i64 14]) (by simp [results, Try.results15, asAddr, hres]) rfl ⟨by rw [HE.out, HD.out], by simpa using HB3.out⟩
        · have hgy0 : ShaP.isd x = false := by simpa using hgx
          clear hgx
          have hnall := ShaP.not_all l (2 * k) x HX.out (by simpa using hgy0)
          have d255 := ShaP.dig_bad x (by simpa using hgy0)
          have j1 : (15 : Int) < ((ShaP.dig x).toNat : Int) := by omega
          obtain ⟨Z, hZ⟩ : ∃ Z, Z = (List.replicate 32 (0 : UInt8)).map b8 := ⟨_, rfl⟩
          have HZ := Lib.hid hZ
          have HS := Lib.hid (stored32 (W := wx) (by simp) hZ HRx.out zeros32_len)
          have HB3 := Lib.hid (HBx.out.trans (below_grown (grown_setCells w.heap.size Z 0 wx) HBx.out.size (fun g e => by injection e with e; omega)))
          have HE : Hid (ShaP.readE l = 14) := Lib.hid (by unfold ShaP.readE; rw [if_neg (fun h => hnall h.2)])
          have HD : Hid ((ShaP.readD l).map b8 = Z) := Lib.hid (by unfold ShaP.readD; rw [if_neg (fun h => hnall h.2), HZ.out])
          clear hZ hnall d255 hgy0
          go_wp2_with (first
            | (refine wpList_value (o := ⟨some 32, _, _, _, _, _⟩) (v := .agg Z.toArray) (w' := wx) rfl (by rw [HZ.out]; kernel_rfl) ?_)
            | (refine wpList_store_mid rfl 23 (.tmp 2) (.tmp 32) rfl w.heap.size 0 Z.toArray rfl rfl HS.out.1 HS.out.2.1 HS.out.2.2.1 ?_))
          have hres := load32 HS.out.2.2.2.1 HS.out.2.2.2.2
          refine bodyPost_ret (v := .tuple #[.agg Z.toArray, .int .i64 14]) (by simp [results, Try.results15, asAddr, hres]) rfl ⟨by rw [HE.out, HD.out], by simpa using HB3.out⟩
      · obtain rfl : k = 32 := by omega
        have hA := HA.out
        rw [ShaP.laidU_all l hl] at hA
        have hall := HALL.out
        rw [List.take_of_length_le (by omega)] at hall
        obtain ⟨C, hC⟩ : ∃ C, C = (ShaP.unhex l).map b8 := ⟨_, rfl⟩
        rw [← hC] at hA
        have HE : Hid (ShaP.readE l = 0) := Lib.hid (by unfold ShaP.readE; rw [if_pos ⟨hl, hall⟩])
        have HD : Hid ((ShaP.readD l).map b8 = C) := Lib.hid (by unfold ShaP.readD; rw [if_pos ⟨hl, hall⟩, hC])
        have HS := Lib.hid (stored32 (W := wr) (by rw [ShaP.unhex_len, hl]) hC HRr.out zeros32_len)
        have HRG := Lib.hid hA.range
        have HIN := Lib.hid (show (Try.prog.info? 23).map (·.size) = some C.length by rw [HS.out.2.2.2.2]; kernel_rfl)
        have HB3 := Lib.hid (HBr.out.trans (below_grown (grown_setCells w.heap.size C 0 wr) HBr.out.size (fun g e => by injection e with e; omega)))
        clear hall hC hA
        go_wp2_with (first
          | (refine wpList_load_mid rfl 23 (.tmp 4) rfl (w.heap.size + 1) 0 rfl C _ HRG.out Try.underlying23 rfl HIN.out ?_)
          | (refine wpList_store_mid rfl 23 (.tmp 2) (.tmp 40) rfl w.heap.size 0 C.toArray rfl rfl HS.out.1 HS.out.2.1 HS.out.2.2.1 ?_))
        have hres := load32 HS.out.2.2.2.1 HS.out.2.2.2.2
        refine bodyPost_ret (v := .tuple #[.agg C.toArray, .int .i64 0]) (by simp [results, Try.results15, asAddr, hres]) rfl ⟨by rw [HE.out, HD.out], by simpa using HB3.out⟩
  · have hI : ((l.length : Int) != 64) = true := by rw [bne_iff_ne]; omega
    have hsz := HSZ.out
    obtain ⟨Z, hZ⟩ : ∃ Z, Z = (List.replicate 32 (0 : UInt8)).map b8 := ⟨_, rfl⟩
    have hZl : Z.length = 32 := by rw [hZ]; exact zeros32_len
    have hd := HD2.out
    rw [← hZ] at hd
    have hIN : (Try.prog.info? 23).map (·.size) = some Z.length := by rw [hZl]; kernel_rfl
    have HS := Lib.hid (stored32 (W := w2) (by simp) hZ HR2.out zeros32_len)
    have HRG := Lib.hid hd.range
    have HIN := Lib.hid hIN
    have HZ := Lib.hid hZ
    have HZl := Lib.hid hZl
    clear hZ hZl hd hIN
    go_wp2_with (first
      | (refine wpList_load_mid rfl 23 (.tmp 4) rfl (w.heap.size + 1) 0 rfl Z _ HRG.out Try.underlying23 rfl HIN.out ?_)
      | (refine wpList_store_mid rfl 23 (.tmp 2) (.tmp 11) rfl w.heap.size 0 Z.toArray rfl rfl HS.out.1 HS.out.2.1 HS.out.2.2.1 ?_))
    have hB3 : Below w.heap.size w (w2.setCells w.heap.size 0 Z) := HB2.out.trans (below_grown (grown_setCells w.heap.size Z 0 w2) HB2.out.size (fun g e => by injection e with e; omega))
    have hres := load32 HS.out.2.2.2.1 HZl.out
    have hE : ShaP.readE l = 14 := by unfold ShaP.readE; rw [if_neg (fun h => hl h.1)]
    have hD : (ShaP.readD l).map b8 = Z := by unfold ShaP.readD; rw [if_neg (fun h => hl h.1), HZ.out]
    refine bodyPost_ret (v := .tuple #[.agg Z.toArray, .int .i64 14]) (by simp [results, Try.results15, asAddr, hres]) rfl ⟨by rw [hE, hD], by simpa using hB3⟩
end Go.Proofs.Ytohgkadbajmphaa
