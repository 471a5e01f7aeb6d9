/- The walk of the reference's block. -/
import Derived.Test.YtohgkadbajmphaaRefConsts
import Derived.Test.YtohgkadbajmphaaShaTake
namespace Go.Proofs.Ytohgkadbajmphaa
open Go.RowKit
set_option linter.unusedVariables false
attribute [local irreducible] wpStill ShaP.sw ShaP.upto
attribute [local go_sem] u32_xor_bv u32_and_bv u32_or_bv u32_not_bv u32_add_bv u32_wadd_bv u32_div8_bv u32_div1024_bv u32_not_if
theorem Own.frozenAt {w : World} {base : Nat} {e : TypeId} {g off n cap : Nat} {xs : List Value} (h : Own w base e 1 (some ⟨g, off, none⟩) n cap xs) {j : Nat} (hj : j < n) : w.frozen? ⟨g, off + j, none⟩ = false := by
  rcases h.2.2.2 with ⟨h, _⟩ | ⟨g', off', cur, fr, ha, _, _, _, hf, _⟩
  · cases h
  · simp only [Option.some.injEq, Addr.mk.injEq] at ha
    obtain ⟨rfl, rfl, _⟩ := ha
    have h2 := h.2.1
    exact hf j (by omega)
/-- eight words of a slice, one by one -/
theorem Own.eight {w : World} {base g c : Nat} {e : TypeId} {v : ShaP.V8} (h : Own w base e 1 (some ⟨g, 0, none⟩) 8 c (u32s v.list)) :
    w.cell? ⟨g, 0, none⟩ = some (.int .u32 (bv32 v.a)) ∧ w.cell? ⟨g, 1, none⟩ = some (.int .u32 (bv32 v.b)) ∧ w.cell? ⟨g, 2, none⟩ = some (.int .u32 (bv32 v.c)) ∧ w.cell? ⟨g, 3, none⟩ = some (.int .u32 (bv32 v.d)) ∧
    w.cell? ⟨g, 4, none⟩ = some (.int .u32 (bv32 v.e)) ∧ w.cell? ⟨g, 5, none⟩ = some (.int .u32 (bv32 v.f)) ∧ w.cell? ⟨g, 6, none⟩ = some (.int .u32 (bv32 v.g)) ∧ w.cell? ⟨g, 7, none⟩ = some (.int .u32 (bv32 v.h)) :=
  ⟨h.cellAt (j := 0) rfl, h.cellAt (j := 1) rfl, h.cellAt (j := 2) rfl, h.cellAt (j := 3) rfl, h.cellAt (j := 4) rfl, h.cellAt (j := 5) rfl, h.cellAt (j := 6) rfl, h.cellAt (j := 7) rfl⟩
theorem Own.grew {w w' : World} {base : Nat} {e : TypeId} {size n cap : Nat} {A : Option Addr} {xs : List Value} (h : Own w base e size A n cap xs) (hg : Grew w w') : Own w' base e size A n cap xs := h.below_all hg
theorem V8.add_comm' (v u : ShaP.V8) : v.add u = u.add v := by
  simp only [ShaP.V8.add, BitVec.add_comm]
theorem sw_next2 (b : List UInt8) (j : Nat) (h : j < 48) : ShaP.sw b (j + 16) = ShaP.sw b j + ShaP.sw b (j + 9) + ShaP.s0 (ShaP.sw b (j + 1)) + ShaP.s1 (ShaP.sw b (j + 14)) := by
  have hnx := ShaP.sw_next b (j + 16) (by omega) (by omega)
  rw [show j + 16 - 16 = j by omega, show j + 16 - 15 = j + 1 by omega, show j + 16 - 7 = j + 9 by omega, show j + 16 - 2 = j + 14 by omega] at hnx
  rw [hnx]
  generalize ShaP.sw b j = x1
  generalize ShaP.s0 _ = x2
  generalize ShaP.sw b (j + 9) = x3
  generalize ShaP.s1 _ = x4
  rw [BitVec.add_assoc x1 x2 x3, BitVec.add_comm x2 x3, ← BitVec.add_assoc x1 x3 x2]
theorem u32s_at (l : List (BitVec 32)) (k : Nat) (h : k < l.length) : (u32s l)[k]? = some (.int .u32 (bv32 (l.getD k 0))) := by
  unfold u32s
  rw [List.getElem?_map, ShaP.getD_some l k 0 h]
  rfl
theorem one_u32s (l : List (BitVec 32)) : ∀ u ∈ u32s l, u.oneCell' = true := by
  intro u hu
  obtain ⟨x, _, rfl⟩ := List.mem_map.1 hu
  rfl
set_option maxRecDepth 4000 in
set_option maxHeartbeats 4000000 in
theorem ref_block (gh oh ch bh gk ok ck bk : Nat) (A : Option Addr) (c B : Nat) (b : List UInt8) (v : ShaP.V8) (w : World) (hh : Own w bh 74 1 (some ⟨gh, oh, none⟩) 8 ch (u32s v.list)) (hk : Own w bk 74 1 (some ⟨gk, ok, none⟩) 64 ck (u32s ShaP.K)) (hb : Sl w B A 64 c b) (hB : B ≤ w.heap.size) :
    Calls Try.prog 47 #[.slice (some ⟨gh, oh, none⟩) 8 ch, .slice (some ⟨gk, ok, none⟩) 64 ck, .slice A 64 c] w fun e w' => ∃ g c', e = .returned (.slice (some ⟨g, 0, none⟩) 8 c') ∧ Own w' w.heap.size 74 1 (some ⟨g, 0, none⟩) 8 c' (u32s (ShaP.compress v b).list) ∧ Below w.heap.size w w' := by
  obtain ⟨hn, hnc, hcm, hr⟩ := id hb
  unfold maxLen at hcm
  obtain ⟨ad, hA', _, _⟩ := hr.at_ 0 (by simp; omega)
  subst hA'
  have HH := Lib.hid hh
  have HK := Lib.hid hk
  clear hh hk
  go_enter Try.func47, Try.ntmps47
  go_wp2_with fail
  go_loopw [8] (fun i wr => ∃ k : Nat, k ≤ 64 ∧ i = .int .i64 (k : Int) ∧ Laid wr w.heap.size b k ∧ Below w.heap.size w wr) (fun i _ => 64 - (intOf i).toNat)
  case atStart =>
    refine ⟨0, by omega, rfl, ⟨List.replicate 64 0#32, ?_, by simp, by omega⟩, (Below.refl _ _).alloc (Nat.le_refl _) _⟩
    exact ArrV.made w _ _
  case round =>
    obtain ⟨k, hk64, rfl, hL, hBw⟩ := hrel
    by_cases hlt : k < 16
    · obtain ⟨xs, hX, hxl, hxs⟩ := hL
      obtain ⟨x, hX', hx⟩ : ∃ x : Nat → UInt8, (∀ j, j < 4 → wr.cell? (ad.add (4 * k + j)) = some (b8 (x j))) ∧ ∀ j, j < 4 → x j = b.getD (4 * k + j) 0 := by
        refine ⟨fun j => b.getD (4 * k + j) 0, fun j hj => ?_, fun j _ => rfl⟩
        have hlen : 4 * k + j < b.length := by omega
        obtain ⟨ad', e, _, hc⟩ := (hr.below (hBw.mono hB)).at_ (4 * k + j) (by simpa using hlen)
        injection e with e
        subst e
        rw [hc]
        simp [List.getD_eq_getElem?_getD, hlen]
      have c0 := hX' 0 (by omega)
      have c1 := hX' 1 (by omega)
      have c2 := hX' 2 (by omega)
      have c3 := hX' 3 (by omega)
      rw [Nat.add_zero] at c0
      have HXS := Lib.hid hxs
      have HX := Lib.hid hx
      have hlt32 : k < xs.length := by omega
      have q1 := hX.cell (i := k) (by simpa using hlt32)
      have q2 := hX.frozen k
      have HSET := Lib.hid (hX.set k)
      have t0 := (x 0).toNat_lt
      have t1 := (x 1).toNat_lt
      have t2 := (x 2).toNat_lt
      have t3 := (x 3).toNat_lt
      have HXL := Lib.hid hxl
      have hk64' : (k : Int) < 64 := by omega
      clear hxs hx hX' hX hxl
      go_upto_region 6 with fail
      have d1 : wr.cell? ⟨ad.block, ad.off + (4 * k + 1), none⟩ = some (b8 (x 1)) := c1
      have d2 : wr.cell? ⟨ad.block, ad.off + (4 * k + 2), none⟩ = some (b8 (x 2)) := c2
      have d3 : wr.cell? ⟨ad.block, ad.off + (4 * k + 3), none⟩ = some (b8 (x 3)) := c3
      have hqq := And.intro c0 (And.intro d1 (And.intro d2 d3))
      refine wp_region_st 35 (by kernel_rfl) (by kernel_rfl) ?_
      simp only [List.take_succ_cons, List.take_zero, List.drop_succ_cons, List.drop_zero]
      repeat ((refine wpS_value (v := ?_) rfl ?_ ?_; rotate_left; (focus (simp [go_sem, hqq, ↓IntWalk.iteOmega]; (try go_ints); first | done | (with_reducible rfl))); (simp only [Act.put, List.setIfInBounds_toArray, List.set_cons_succ, List.set_cons_zero])))
      refine wpStill_nil ?_
      go_wp2
      go_roundw
      case rel =>
        refine ⟨k + 1, by omega, by go_num, ⟨xs.set k (ShaP.sw b k), ?_, by simp [HXL.out], fun j hj => ?_⟩, ?_⟩
        · have e1 := HSET.out (.int .u32 (bv32 (ShaP.sw b k)))
          rw [ShaP.sw_first b k hlt] at e1 ⊢
          have e2 : bv32 (ShaP.wordAt b k) = bits .or .u32 (bits .or .u32 (bits .or .u32 (((x 0).toNat : Int) * 16777216) (((x 1).toNat : Int) * 65536)) (((x 2).toNat : Int) * 256)) ((x 3).toNat : Int) := by
            rw [or_be4, HX.out 0 (by omega), HX.out 1 (by omega), HX.out 2 (by omega), HX.out 3 (by omega)]
            rfl
          unfold u32s at e1 ⊢
          rw [List.map_set]
          rw [e2] at e1 ⊢
          exact e1
        · by_cases hjk : j = k
          · subst hjk
            simp [List.getD_eq_getElem?_getD, hlt32]
          · rw [← HXS.out j (by omega)]
            simp only [List.getD_eq_getElem?_getD]
            rw [List.getElem?_set_ne (fun e => hjk e.symm)]
        · exact Below.setCell (Below.trans hBw ((Grew.drewN wr 1).mono hBw.size)) (Nat.le_refl _) _
      case measure => simp [intOf]; omega
    · by_cases hlt64 : k < 64
      · obtain ⟨j, rfl⟩ : ∃ j, k = j + 16 := ⟨k - 16, by omega⟩
        have hI : (j : Int) + 16 < 64 := by omega
        have hI2 : ¬ (j : Int) + 16 < 16 := by omega
        rw [show (((j + 16 : Nat)) : Int) = (j : Int) + 16 by omega]
        have f1 := Laid.cell hL (j := j) (by omega) (by omega)
        have f2 := Laid.cell hL (j := j + 1) (by omega) (by omega)
        have f3 := Laid.cell hL (j := j + 9) (by omega) (by omega)
        have f4 := Laid.cell hL (j := j + 14) (by omega) (by omega)
        obtain ⟨xs, hX, hxl, hxs⟩ := hL
        have hlt32 : j + 16 < xs.length := by omega
        have hnx := sw_next2 b j (by omega)
        obtain ⟨X, hXe⟩ : ∃ X, X = ShaP.sw b (j + 1) := ⟨_, rfl⟩
        obtain ⟨Y, hYe⟩ : ∃ Y, Y = ShaP.sw b (j + 14) := ⟨_, rfl⟩
        obtain ⟨U, hUe⟩ : ∃ U, U = ShaP.sw b j := ⟨_, rfl⟩
        obtain ⟨V, hVe⟩ : ∃ V, V = ShaP.sw b (j + 9) := ⟨_, rfl⟩
        rw [← hUe] at f1 hnx
        rw [← hXe] at f2 hnx
        rw [← hVe] at f3 hnx
        rw [← hYe] at f4 hnx
        have HNX := Lib.hid hnx
        have HXS := Lib.hid hxs
        have HXL := Lib.hid hxl
        clear hXe hYe hUe hVe hnx hxs hxl
        have F1 := Lib.hid f1
        have F2 := Lib.hid f2
        have F3 := Lib.hid f3
        have F4 := Lib.hid f4
        have HX2 := Lib.hid hX
        clear f1 f2 f3 f4 hX
        go_upto_region 7 with fail
        have f2 := F2.out
        go_upto_region 8 with fail
        clear f2
        have f4 := F4.out
        go_upto_region 9 with fail
        clear f4
        have hqq := And.intro F1.out F3.out
        refine wp_region_st 29 (by kernel_rfl) (by kernel_rfl) ?_
        simp only [List.take_succ_cons, List.take_zero, List.drop_succ_cons, List.drop_zero]
        repeat (first
          | (refine wpS_value (v := ?_) rfl ?_ ?_; rotate_left; (focus (simp [go_sem, hqq, ↓IntWalk.iteOmega]; (try go_ints); first | done | (with_reducible rfl))); (simp only [Act.put, List.setIfInBounds_toArray, List.set_cons_succ, List.set_cons_zero]))
          | (refine wpS_call (.int .u32 (bv32 (ShaP.rotr X 7))) _ _ rfl ?_ (ref_turn X 7 (by decide) (by decide) _) ?_; (focus (simp [go_sem]; done)); (simp only [Act.put, List.setIfInBounds_toArray, List.set_cons_succ, List.set_cons_zero]))
          | (refine wpS_call (.int .u32 (bv32 (ShaP.rotr X 18))) _ _ rfl ?_ (ref_turn X 18 (by decide) (by decide) _) ?_; (focus (simp [go_sem]; done)); (simp only [Act.put, List.setIfInBounds_toArray, List.set_cons_succ, List.set_cons_zero]))
          | (refine wpS_call (.int .u32 (bv32 (ShaP.rotr Y 17))) _ _ rfl ?_ (ref_turn Y 17 (by decide) (by decide) _) ?_; (focus (simp [go_sem]; done)); (simp only [Act.put, List.setIfInBounds_toArray, List.set_cons_succ, List.set_cons_zero]))
          | (refine wpS_call (.int .u32 (bv32 (ShaP.rotr Y 19))) _ _ rfl ?_ (ref_turn Y 19 (by decide) (by decide) _) ?_; (focus (simp [go_sem]; done)); (simp only [Act.put, List.setIfInBounds_toArray, List.set_cons_succ, List.set_cons_zero])))
        refine wpStill_nil ?_
        have q1 := HX2.out.cell (i := j + 16) (by simpa using hlt32)
        have q2 := HX2.out.frozen (j + 16)
        clear hqq
        go_wp2
        go_roundw
        case rel =>
          refine ⟨j + 16 + 1, by omega, by go_num, ⟨xs.set (j + 16) (ShaP.sw b (j + 16)), ?_, by simp [HXL.out], fun i hi => ?_⟩, ?_⟩
          · have e1 := (HX2.out.drewN 1).set (j + 16) (.int .u32 (bv32 (ShaP.sw b (j + 16))))
            unfold u32s at e1 ⊢
            rw [List.map_set]
            rw [HNX.out] at e1 ⊢
            exact e1
          · by_cases hij : i = j + 16
            · subst hij
              simp [List.getD_eq_getElem?_getD, hlt32]
            · rw [← HXS.out i (by omega)]
              simp only [List.getD_eq_getElem?_getD]
              rw [List.getElem?_set_ne (fun e => hij e.symm)]
          · exact Below.setCell (Below.trans hBw ((Grew.drewN wr 1).mono hBw.size)) (Nat.le_refl _) _
        case measure => simp [intOf]; omega
      · obtain rfl : k = 64 := by omega
        obtain ⟨wo, rfl⟩ : ∃ wo : World, wo = wr := ⟨_, rfl⟩
        have hsz := hBw.size
        have HHO := Lib.hid (HH.out.below_all hBw)
        have HKO := Lib.hid (HK.out.below_all hBw)
        have HL := Lib.hid hL
        clear hL HH HK
        go_wp2_with (at_builtin; refine wpList_appn1 rfl (.tmp 96) (.tmp 97) 94 74 (.int .u32 0) 4 rfl Try.underlying94 info_u32 rfl (by omega) wo.heap.size _ _ _ _ rfl (Own.empty1 wo wo.heap.size 74 (Nat.le_refl _)) 8 (u32s v.list) (Src.slice rfl ((HHO.out.alloc _).row (Nat.le_refl _))) (one_u32s v.list) 8 rfl (u32s v.list) rfl (by omega) (by simp) ?_; intro A1 c1 w1 hO1 hg1 hB1 hor; obtain rfl := hor.resolve_left (fun h => by omega))
        have hB1' : Below wo.heap.size wo w1 := ((Below.refl _ _).alloc (Nat.le_refl _) _).trans hB1
        have hsz1 : (wo.alloc (.cells #[] 74)).heap.size = wo.heap.size + 1 := by simp
        rw [hsz1] at hO1
        clear hg1 hB1 hor hsz1
        go_loopw [11, 12] (fun f i wy => ∃ n g c', n ≤ 64 ∧ i = .int .i64 ((n : Nat) : Int) ∧ f = .slice (some ⟨g, 0, none⟩) 8 c' ∧ Own wy wo.heap.size 74 1 (some ⟨g, 0, none⟩) 8 c' (u32s (ShaP.upto v b n).list) ∧ Below wo.heap.size wo wy) (fun _ i _ => 64 - (intOf i).toNat)
        case atStart => exact ⟨0, _, c1, by omega, rfl, rfl, by rw [ShaP.upto_zero]; exact hO1, hB1'⟩
        case round =>
          clear hO1 hB1'
          obtain ⟨n, gv, cv, hn64, rfl, rfl, hV, hBy⟩ := hrel
          have hszy := hBy.size
          by_cases hlt : n < 64
          · obtain ⟨u, hu⟩ : ∃ u, u = ShaP.upto v b n := ⟨_, rfl⟩
            have hrnd := ShaP.upto_succ v b n hlt
            rw [← hu] at hV hrnd
            obtain ⟨kk, hkk⟩ : ∃ x, x = ShaP.K.getD n 0 := ⟨_, rfl⟩
            obtain ⟨ww, hww⟩ : ∃ x, x = ShaP.sw b n := ⟨_, rfl⟩
            rw [← hkk, ← hww] at hrnd
            have hKR := HKO.out.below_all hBy
            have e1 : wr.cell? ⟨gk, ok + n, none⟩ = some (.int .u32 (bv32 kk)) := by
              rw [hkk]
              exact hKR.cellAt (u32s_at ShaP.K n (by rw [ShaP.K_len]; exact hlt))
            have h2 : w.heap.size < wo.heap.size := by
              obtain ⟨xs, hX, _⟩ := HL.out
              exact hX.lt
            have e2 : wr.cell? ⟨w.heap.size, n, none⟩ = some (.int .u32 (bv32 ww)) := by
              have h1 := Laid.cell HL.out (j := n) (by omega) hlt
              rw [Below.cell hBy (p := ⟨w.heap.size, n, none⟩) h2, hww]
              exact h1
            have HRND := Lib.hid hrnd
            have HV := Lib.hid hV
            have HE1 := Lib.hid e1
            have HE2 := Lib.hid e2
            have hlk : gk < wr.heap.size := (hKR.lt gk rfl).2
            have hlw : w.heap.size < wr.heap.size := Nat.lt_of_lt_of_le h2 hszy
            have facts : ∀ y : World, Grew wr y → (y.cell? ⟨gv, 0, none⟩ = some (.int .u32 (bv32 u.a)) ∧ y.cell? ⟨gv, 1, none⟩ = some (.int .u32 (bv32 u.b)) ∧ y.cell? ⟨gv, 2, none⟩ = some (.int .u32 (bv32 u.c)) ∧ y.cell? ⟨gv, 3, none⟩ = some (.int .u32 (bv32 u.d)) ∧
                y.cell? ⟨gv, 4, none⟩ = some (.int .u32 (bv32 u.e)) ∧ y.cell? ⟨gv, 5, none⟩ = some (.int .u32 (bv32 u.f)) ∧ y.cell? ⟨gv, 6, none⟩ = some (.int .u32 (bv32 u.g)) ∧ y.cell? ⟨gv, 7, none⟩ = some (.int .u32 (bv32 u.h))) ∧ y.cell? ⟨gk, ok + n, none⟩ = some (.int .u32 (bv32 kk)) ∧ y.cell? ⟨w.heap.size, n, none⟩ = some (.int .u32 (bv32 ww)) :=
              fun y hy => ⟨(HV.out.grew hy).eight, (Below.cell hy (p := ⟨gk, ok + n, none⟩) hlk).trans HE1.out, (Below.cell hy (p := ⟨w.heap.size, n, none⟩) hlw).trans HE2.out⟩
            have FACTS := Lib.hid facts
            have p4 := (FACTS.out wr (Grew.refl _)).1.2.2.2.2.1
            have p0 := (FACTS.out wr (Grew.refl _)).1.1
            clear facts e1 e2 hV hrnd hu hkk hww hKR h2
            have hI1 : (n : Int) < 64 := by omega
            go_upto_region 16 with fail
            clear p4 p0
            have hqq := fun y : GrewOf wr => FACTS.out y.1 y.2
            refine wp_region_x [] (by kernel_rfl) (by kernel_rfl) (by kernel_rfl) ?_
            simp only [blank, List.foldl_nil]
            repeat (first
              | (refine wpX_value (v := ?_) rfl (by intros; simp) rfl rfl (fun x => ?_) ?_; rotate_left; (focus (simp [go_sem, hqq, ↓IntWalk.iteOmega]; (try go_ints); first | done | (with_reducible rfl))); (simp only [Act.put, List.setIfInBounds_toArray, List.set_cons_succ, List.set_cons_zero]))
              | (refine wpX_call (.int .u32 (bv32 (ShaP.rotr u.e 6))) _ _ rfl (by intros; simp) rfl rfl (fun _ => ?_) (fun w' _ => (ref_turn u.e 6 (by decide) (by decide) w').mono fun _ _ h => ⟨h.1, h.2 ▸ Grew.refl _⟩) ?_; (focus (simp [go_sem]; done)); (simp only [Act.put, List.setIfInBounds_toArray, List.set_cons_succ, List.set_cons_zero]))
              | (refine wpX_call (.int .u32 (bv32 (ShaP.rotr u.e 11))) _ _ rfl (by intros; simp) rfl rfl (fun _ => ?_) (fun w' _ => (ref_turn u.e 11 (by decide) (by decide) w').mono fun _ _ h => ⟨h.1, h.2 ▸ Grew.refl _⟩) ?_; (focus (simp [go_sem]; done)); (simp only [Act.put, List.setIfInBounds_toArray, List.set_cons_succ, List.set_cons_zero]))
              | (refine wpX_call (.int .u32 (bv32 (ShaP.rotr u.e 25))) _ _ rfl (by intros; simp) rfl rfl (fun _ => ?_) (fun w' _ => (ref_turn u.e 25 (by decide) (by decide) w').mono fun _ _ h => ⟨h.1, h.2 ▸ Grew.refl _⟩) ?_; (focus (simp [go_sem]; done)); (simp only [Act.put, List.setIfInBounds_toArray, List.set_cons_succ, List.set_cons_zero])))
            (refine wpX_nil ?_; intro xb wx hxg xl; obtain ⟨xf, xe⟩ := LikeAll.end_ xl; clear xl; subst xe; simp only [fill, List.foldl_nil, Act.put])
            clear hqq
            have hg16 := hxg
            clear hxg
            go_upto_region 17 with fail
            have hqq := fun y : GrewOf wx => FACTS.out y.1 (Grew.trans hg16 y.2)
            refine wp_region_x [] (by kernel_rfl) (by kernel_rfl) (by kernel_rfl) ?_
            simp only [blank, List.foldl_nil]
            repeat (first
              | (refine wpX_value (v := ?_) rfl (by intros; simp) rfl rfl (fun x => ?_) ?_; rotate_left; (focus (simp [go_sem, hqq]; (try go_ints); first | done | (with_reducible rfl))); (simp only [Act.put, List.setIfInBounds_toArray, List.set_cons_succ, List.set_cons_zero]))
              | (refine wpX_call (.int .u32 (bv32 (ShaP.rotr u.a 2))) _ _ rfl (by intros; simp) rfl rfl (fun _ => ?_) (fun w' _ => (ref_turn u.a 2 (by decide) (by decide) w').mono fun _ _ h => ⟨h.1, h.2 ▸ Grew.refl _⟩) ?_; (focus (simp [go_sem]; done)); (simp only [Act.put, List.setIfInBounds_toArray, List.set_cons_succ, List.set_cons_zero]))
              | (refine wpX_call (.int .u32 (bv32 (ShaP.rotr u.a 13))) _ _ rfl (by intros; simp) rfl rfl (fun _ => ?_) (fun w' _ => (ref_turn u.a 13 (by decide) (by decide) w').mono fun _ _ h => ⟨h.1, h.2 ▸ Grew.refl _⟩) ?_; (focus (simp [go_sem]; done)); (simp only [Act.put, List.setIfInBounds_toArray, List.set_cons_succ, List.set_cons_zero]))
              | (refine wpX_call (.int .u32 (bv32 (ShaP.rotr u.a 22))) _ _ rfl (by intros; simp) rfl rfl (fun _ => ?_) (fun w' _ => (ref_turn u.a 22 (by decide) (by decide) w').mono fun _ _ h => ⟨h.1, h.2 ▸ Grew.refl _⟩) ?_; (focus (simp [go_sem]; done)); (simp only [Act.put, List.setIfInBounds_toArray, List.set_cons_succ, List.set_cons_zero])))
            (refine wpX_nil ?_; intro xb wx hxg xl; obtain ⟨xf, xe⟩ := LikeAll.end_ xl; clear xl; subst xe; simp only [fill, List.foldl_nil, Act.put])
            clear hqq
            have hg17 := Grew.trans hg16 hxg
            clear hxg hg16
            go_upto_region 18 with fail
            have hqq := FACTS.out wx hg17
            refine wp_region_st 22 (by kernel_rfl) (by kernel_rfl) ?_
            simp only [List.take_succ_cons, List.take_zero, List.drop_succ_cons, List.drop_zero]
            repeat ((refine wpS_value (v := ?_) rfl ?_ ?_; rotate_left; (focus (simp [go_sem, hqq]; (try go_ints); first | done | (with_reducible rfl))); (simp only [Act.put, List.setIfInBounds_toArray, List.set_cons_succ, List.set_cons_zero])))
            refine wpStill_nil ?_
            clear hqq
            go_wp2_with fail
            go_roundw
            case rel =>
              refine ⟨n + 1, _, _, by omega, by go_num, rfl, ?_, ?_⟩
              · rw [HRND.out]
                exact Own.made (wx.drewN 1) _ 74 (0, 0) 1 8 8 _ (by have := hg17.size; simp; omega) rfl (Nat.le_refl _) (by unfold maxLen; omega) (by simp) (.inr rfl) (fun j u hu => by rw [← Array.getElem?_toList]; exact hu)
              · exact (hBy.trans ((hg17.trans (Grew.drewN wx 1)).mono hszy)).alloc (by have := hg17.size; simp; omega) _
            case measure => simp [intOf]; omega
          · obtain rfl : n = 64 := by omega
            obtain ⟨u, hu⟩ : ∃ u, u = ShaP.upto v b 64 := ⟨_, rfl⟩
            rw [← hu] at hV
            have HU := Lib.hid hu
            have HV := Lib.hid hV
            clear hu hV
            go_wp2_with fail
            obtain ⟨wp, rfl⟩ : ∃ wp : World, wp = wr := ⟨_, rfl⟩
            go_loopw [17] (fun i wz => ∃ k : Nat, k ≤ 8 ∧ i = .int .i64 (k : Int) ∧ Own wz wo.heap.size 74 1 (some ⟨gv, 0, none⟩) 8 cv (u32s (mix8 u v k)) ∧ Below wo.heap.size wo wz) (fun i _ => 8 - (intOf i).toNat)
            case atStart => exact ⟨0, by omega, rfl, HV.out, hBy⟩
            case round =>
              clear HV hBy hszy
              obtain ⟨k, hk8, rfl, hM, hBz⟩ := hrel
              have hszz := hBz.size
              by_cases hlt : k < 8
              · have hI1 : (k : Int) < 8 := by omega
                have c1 := hM.cellAt (mix8_at u v k hlt)
                have z1 := hM.frozenAt hlt
                have c2 := (HHO.out.below_all hBz).cellAt (u32s_at v.list k hlt)
                have hst := hM.set (j := k) (by omega) (.int .u32 (bv32 (u.list.getD k 0 + v.list.getD k 0)))
                rw [Nat.zero_add] at c1 z1 hst
                unfold u32s at hst
                have hst2 : ((mix8 u v k).map fun x => Value.int .u32 (bv32 x)).set k (.int .u32 (bv32 (u.list.getD k 0 + v.list.getD k 0))) = (mix8 u v (k + 1)).map fun x => Value.int .u32 (bv32 x) := by
                  rw [← mix8_set u v k hlt, List.map_set]
                rw [hst2] at hst
                have HST := Lib.hid hst
                have HGV := Lib.hid (hM.lt gv rfl).1
                obtain ⟨vk, hvk⟩ : ∃ x, x = v.list.getD k 0 := ⟨_, rfl⟩
                obtain ⟨uk, huk⟩ : ∃ x, x = u.list.getD k 0 := ⟨_, rfl⟩
                rw [← huk] at c1 HST
                rw [← hvk] at c2 HST
                clear hst hst2 hM hvk huk
                go_upto_region 22 with fail
                have hqq := And.intro c1 c2
                refine wp_region_st 12 (by kernel_rfl) (by kernel_rfl) ?_
                simp only [List.take_succ_cons, List.take_zero, List.drop_succ_cons, List.drop_zero]
                repeat ((refine wpS_value (v := ?_) rfl ?_ ?_; rotate_left; (focus (simp [go_sem, hqq, ↓IntWalk.iteOmega]; (try go_ints); first | done | (with_reducible rfl))); (simp only [Act.put, List.setIfInBounds_toArray, List.set_cons_succ, List.set_cons_zero])))
                refine wpStill_nil ?_
                clear hqq
                go_wp2
                go_roundw
                case rel => exact ⟨k + 1, by omega, by go_num, HST.out, (hBz.trans ((Grew.drewN wr 1).mono hszz)).setCell HGV.out _⟩
                case measure => simp [intOf]; omega
              · obtain rfl : k = 8 := by omega
                go_wp2_with fail
                go_ret
                refine ⟨gv, cv, rfl, ?_, hBw.trans (hBz.mono hsz)⟩
                rw [mix8_all, HU.out, V8.add_comm'] at hM
                exact hM.lower hsz
end Go.Proofs.Ytohgkadbajmphaa
