/- The walk of rolodexlaw2.ShaKeys. -/
import Derived.Test.YtohgkadbajmphaaShaLib
import Derived.Test.YtohgkadbajmphaaShaEqualWalk
namespace Go.Proofs.Ytohgkadbajmphaa
open Go.RowKit
set_option linter.unusedVariables false
theorem bool_ret {a b : Bool} (h : a = b) : Ending.returned (.bool a) = .returned (.bool b) := by rw [h]
set_option maxRecDepth 100000 in
set_option maxHeartbeats 2000000 in
theorem shaKeys_walk (A0 : Option Addr) (n0 c0 : Nat) (l0 : List UInt8) (A1 : Option Addr) (n1 c1 : Nat) (l1 : List UInt8) (a2 : Int) (w : World) (b0 : BytesIn w A0 n0 c0 l0) (z0 : n0 * 1 ≤ 140737488351232) (b1 : BytesIn w A1 n1 c1 l1) (z1 : n1 * 1 ≤ 140737488351232) (w2 : (Lit.int .i64 a2).wf = true) :
    Calls Try.prog 8 #[.slice A0 n0 c0, .slice A1 n1 c1, .int .i64 a2] w fun e w' => e = .returned (.bool true) ∧ Below w.heap.size w w' := by
  have S0 := Lib.hid b0.sl
  have S1 := Lib.hid b1.sl
  have hl0 := b0.len
  subst hl0
  have hc0 := b0.le
  have hc1 := b0.max
  unfold maxLen at hc1
  clear b0 b1
  by_cases hbig : 300 < l0.length ∨ 500 < n1 ∨ a2 < 0 ∨ 64 < a2
  · by_cases h1 : 300 < l0.length
    · have i1 : (300 : Int) < (l0.length : Int) := by omega
      go_enter Try.func8, Try.ntmps8
      go_wp2_with fail
      refine (awake2 w).mono ?_
      rintro e wa ⟨rfl, hB1⟩
      go_wp2_with fail
      go_ret
      exact ⟨rfl, hB1⟩
    · have i1 : ¬ (300 : Int) < (l0.length : Int) := by omega
      by_cases h2 : 500 < n1
      · have i2 : (500 : Int) < (n1 : Int) := by omega
        go_enter Try.func8, Try.ntmps8
        go_wp2_with fail
        refine (awake2 w).mono ?_
        rintro e wa ⟨rfl, hB1⟩
        go_wp2_with fail
        go_ret
        exact ⟨rfl, hB1⟩
      · have i2 : ¬ (500 : Int) < (n1 : Int) := by omega
        by_cases h3 : a2 < 0
        · go_enter Try.func8, Try.ntmps8
          go_wp2_with fail
          refine (awake2 w).mono ?_
          rintro e wa ⟨rfl, hB1⟩
          go_wp2_with fail
          go_ret
          exact ⟨rfl, hB1⟩
        · have h4 : 64 < a2 := by omega
          go_enter Try.func8, Try.ntmps8
          go_wp2_with fail
          refine (awake2 w).mono ?_
          rintro e wa ⟨rfl, hB1⟩
          go_wp2_with fail
          go_ret
          exact ⟨rfl, hB1⟩
  · have i1 : ¬ (300 : Int) < (l0.length : Int) := by omega
    have i2 : ¬ (500 : Int) < (n1 : Int) := by omega
    have i3 : ¬ a2 < 0 := by omega
    have i4 : ¬ 64 < a2 := by omega
    have k1 : l0.length ≤ 300 := by omega
    have k2 : n1 ≤ 500 := by omega
    obtain ⟨M, hM⟩ : ∃ M : List UInt8, M = ShaP.mac l0 l1 := ⟨_, rfl⟩
    have hMl : M.length = 32 := by rw [hM]; exact ShaP.mac_len _ _
    obtain ⟨C, hC⟩ : ∃ C, C = M.map b8 := ⟨_, rfl⟩
    have HEQ := Lib.hid (eql_same C M hMl hC)
    have HM := Lib.hid hM
    have HMl := Lib.hid hMl
    have HC := Lib.hid hC
    clear hbig hM hMl hC
    go_enter Try.func8, Try.ntmps8
    go_wp2_with fail
    refine (awake2 w).mono ?_
    rintro e wa ⟨rfl, hBa⟩
    go_wp2_with fail
    have hT := Lib.hid (show Calls Try.prog 23 #[.slice A0 l0.length c0, .slice A1 n1 c1] wa fun e w' => e = .returned (.agg C.toArray) ∧ Below wa.heap.size wa w' from by have := sha_mac A0 A1 l0.length c0 n1 c1 w.heap.size l0 l1 wa (S0.out.below hBa) (S1.out.below hBa) hBa.size (by omega) (by omega); rw [← HM.out, ← HC.out] at this; exact this)
    refine hT.out.mono ?_
    rintro e wb ⟨rfl, hgb⟩
    have hBb : Below w.heap.size w wb := hBa.trans (hgb.mono hBa.size)
    have HST := Lib.hid (boxed_store wb C M HMl.out HC.out)
    obtain ⟨wc, hwc⟩ : ∃ wc, wc = boxed32 wb C := ⟨_, rfl⟩
    have hgc : Grew wb wc := by rw [hwc]; exact boxed_grew wb C
    have HA := Lib.hid (show ArrV wc wb.heap.size C by rw [hwc]; exact HST.out.2.2.2.1)
    have hBc : Below w.heap.size w wc := hBb.trans (hgc.mono hBb.size)
    have hbc : wb.heap.size < wc.heap.size := HA.out.lt
    have HWC := Lib.hid hwc
    clear hT hBa hgb hwc hgc i1 i2
    by_cases h64 : 64 < l0.length
    · have i5 : (64 : Int) < (l0.length : Int) := by omega
      obtain ⟨D, hD⟩ : ∃ D : List UInt8, D = ShaP.digest l0 := ⟨_, rfl⟩
      have hDl : D.length = 32 := by rw [hD]; exact ShaP.digest_len _
      obtain ⟨CD, hCD⟩ : ∃ C, C = D.map b8 := ⟨_, rfl⟩
      have HD := Lib.hid hD
      have HDl := Lib.hid hDl
      have HCD := Lib.hid hCD
      clear hD hDl hCD
      go_wp2_with (first
        | (refine wpList_value (o := ⟨some 7, _, _, _, _, _⟩) (v := .pointer (some ⟨wb.heap.size, 0, none⟩)) (w' := wb.alloc (.cells dzeros 23)) rfl (by kernel_rfl) ?_)
        | (refine wpList_store_mid rfl 23 (.tmp 7) (.tmp 31) rfl wb.heap.size 0 C.toArray rfl rfl HST.out.1 HST.out.2.1 HST.out.2.2.1 ?_; rw [show (wb.alloc (.cells dzeros 23)).setCells wb.heap.size 0 C.toArray.toList = wc from HWC.out.symm]))
      have hT := Lib.hid (show Calls Try.prog 19 #[.slice A0 l0.length c0] wc fun e w' => e = .returned (.agg CD.toArray) ∧ Below wc.heap.size wc w' from by have := sha_sum A0 l0.length c0 w.heap.size l0 wc (S0.out.below hBc) hBc.size (by omega); rw [← HD.out, ← HCD.out] at this; exact this)
      refine hT.out.mono ?_
      rintro e wd ⟨rfl, hgd⟩
      have HSD := Lib.hid (boxed_store wd CD D HDl.out HCD.out)
      obtain ⟨we, hwe⟩ : ∃ we, we = boxed32 wd CD := ⟨_, rfl⟩
      have hge : Grew wd we := by rw [hwe]; exact boxed_grew wd CD
      have HAD := Lib.hid (show ArrV we wd.heap.size (D.map b8) by rw [hwe, ← HCD.out]; exact HSD.out.2.2.2.1)
      have HAe := Lib.hid (HA.out.grew (Grew.trans hgd hge))
      have hBd : Below w.heap.size w wd := hBc.trans (hgd.mono hBc.size)
      have hBe : Below w.heap.size w we := hBd.trans (hge.mono hBd.size)
      have HWE := Lib.hid hwe
      clear hT hgd hge hwe HA hBd hBc
      go_wp2_with (first
        | (refine wpList_value (o := ⟨some 8, _, _, _, _, _⟩) (v := .pointer (some ⟨wd.heap.size, 0, none⟩)) (w' := wd.alloc (.cells dzeros 23)) rfl (by kernel_rfl) ?_)
        | (refine wpList_store_mid rfl 23 (.tmp 8) (.tmp 36) rfl wd.heap.size 0 CD.toArray rfl rfl HSD.out.1 HSD.out.2.1 HSD.out.2.2.1 ?_; rw [show (wd.alloc (.cells dzeros 23)).setCells wd.heap.size 0 CD.toArray.toList = we from HWE.out.symm]))
      have hMac := Lib.hid (show ∀ W : World, Grew we W → Calls Try.prog 23 #[.slice (some ⟨wd.heap.size, 0, none⟩) 32 32, .slice A1 n1 c1] W fun e w' => e = .returned (.agg C.toArray) ∧ Grew W w' from fun W hW => by
        have hs := (HAD.out.grew hW).sl (n := 32) (c := 32) HDl.out (Nat.le_refl _) (by unfold maxLen; omega)
        have := sha_mac (some ⟨wd.heap.size, 0, none⟩) A1 32 32 n1 c1 W.heap.size D l1 W hs ((S1.out.below (hBe.trans (hW.mono hBe.size))).more (by have := hBe.size; have := hW.size; omega)) (Nat.le_refl _) (by omega) (by omega)
        rw [HD.out, ShaP.mac_long l0 l1 h64, ← HM.out, ← HC.out] at this
        exact this)
      have HLD := Lib.hid (show ∀ y : GrewOf we, (Instr.loadAt 23 (.pointer (some ⟨wb.heap.size, 0, none⟩))).run Try.prog y.1 = .ok (.agg C.toArray) y.1 from fun y => load_box HAe.out (by rw [HC.out, List.length_map]; exact HMl.out) y.2)
      go_upto_region 8 with fail
      have hqq := HEQ.out
      refine F.wp_region_x [] (by kernel_rfl) (by kernel_rfl) (by kernel_rfl) ?_
      simp only [F.blank, List.foldl_nil]
      repeat (first
        | (refine F.wpX_value (v := ?_) rfl (by intros; simp) rfl rfl (fun x => ?_) ?_; rotate_left; (focus (simp [go_sem, hqq]; (try go_ints); first | done | (with_reducible rfl))); (simp only [Act.put, List.setIfInBounds_toArray, List.set_cons_succ, List.set_cons_zero]))
        | (refine F.wpX_value (.agg C.toArray) rfl (by intros; simp) rfl rfl (fun y => exec_load (.tmp 7) rfl rfl (HLD.out y)) ?_; (simp only [Act.put, List.setIfInBounds_toArray, List.set_cons_succ, List.set_cons_zero]))
        | (refine F.wpX_call (.agg C.toArray) _ _ rfl (by intros; simp) rfl rfl (fun _ => ?_) (fun w' hw' => hMac.out w' hw') ?_; (focus (simp [go_sem]; done)); (simp only [Act.put, List.setIfInBounds_toArray, List.set_cons_succ, List.set_cons_zero])))
      (refine F.wpX_nil ?_; intro xb wx hxg xl; obtain ⟨xf, xe⟩ := F.LikeAll.end_ xl; clear xl; subst xe; simp only [F.fill, List.foldl_nil, Act.put])
      have HBX := Lib.hid (hBe.trans (hxg.mono hBe.size))
      clear hqq hxg
      go_wp2_with fail
      go_ret
      exact ⟨rfl, HBX.out⟩
    · have i5 : ¬ (64 : Int) < (l0.length : Int) := by omega
      have hOe := OwnB.empty wc wc.heap.size (Nat.le_refl _)
      have hgz : Grew wc (wc.alloc (.cells #[] 5)) := grew_alloc wc _
      have hRz := ((S0.out.below hBc).2.2.2.alloc hBc.size (.cells #[] 5))
      have HOE := Lib.hid hOe
      clear hOe
      go_wp2_with (first
        | (refine wpList_value (o := ⟨some 7, _, _, _, _, _⟩) (v := .pointer (some ⟨wb.heap.size, 0, none⟩)) (w' := wb.alloc (.cells dzeros 23)) rfl (by kernel_rfl) ?_)
        | (refine wpList_store_mid rfl 23 (.tmp 7) (.tmp 31) rfl wb.heap.size 0 C.toArray rfl rfl HST.out.1 HST.out.2.1 HST.out.2.2.1 ?_; rw [show (wb.alloc (.cells dzeros 23)).setCells wb.heap.size 0 C.toArray.toList = wc from HWC.out.symm])
        | (at_builtin; refine wpList_app8 rfl (.tmp 42) (.tmp 43) 31 rfl (.inl ⟨_, Try.underlying31⟩) wc.heap.size _ _ _ [] rfl HOE.out l0.length l0 (Src.slice (by simp) hRz) (.inl (by omega)) (by simp) ?_; intro A9 c9 w9 hO9 hg9 hB9 hb9))
      have hB9' : Below wc.heap.size wc w9 := Below.trans hgz hB9
      simp only [List.nil_append, Nat.zero_add] at hO9
      have HO9 := Lib.hid hO9
      clear hO9 hg9 hB9 hb9 hgz hRz HOE
      go_loopw [9, 10] (fun f i wr => ∃ (j : Nat) (A : Option Addr) (n c : Nat), l0.length + j ≤ 64 ∧ (j : Int) ≤ a2 ∧ i = .int .i64 (j : Int) ∧ f = .slice A n c ∧ OwnB wr wc.heap.size A n c (l0 ++ List.replicate j 0) ∧ Below wc.heap.size wc wr) (fun _ i _ => 64 - (intOf i).toNat)
      case atStart => exact ⟨0, A9, l0.length, c9, by omega, by omega, rfl, rfl, by simpa using HO9.out, hB9'⟩
      case round =>
        obtain ⟨j, A, n, c, hj, hja, rfl, rfl, hO, hBr⟩ := hrel
        have hn : n = l0.length + j := by have := hO.len; simpa using this.symm
        have HN := Lib.hid hn
        have hn64 : n ≤ 64 := by omega
        by_cases hgo : (j : Int) < a2 ∧ n < 64
        · obtain ⟨g1, g2⟩ := hgo
          have g3 : (n : Int) < 64 := by omega
          have hBn := hBr.alloc hBr.size (.cells #[.int .u8 0] 5)
          have hOn := Lib.hid (hO.alloc (.cells #[.int .u8 0] 5))
          clear hn hO
          go_wp2_with (at_builtin; refine wpList_app8 rfl (.tmp 55) (.tmp 56) 31 rfl (.inl ⟨_, Try.underlying31⟩) wc.heap.size _ _ _ _ rfl hOn.out 1 [0] (Src.slice rfl (Row.new _ _ _ _ (wr.heap.size + 1) _ rfl (by omega) _ rfl)) (.inl (by omega)) hBn.size ?_; intro A8 cap8 w8 hO8 hg8 hB8 hb8)
          go_roundw
          case rel => exact ⟨j + 1, A8, _, cap8, by have := HN.out; omega, by omega, by go_num, rfl, by rw [List.replicate_succ', ← List.append_assoc]; exact hO8, hBn.trans hB8⟩
          case measure => simp [intOf]; omega
        · have hOs := Lib.hid hO.sl
          have hBx : Below w.heap.size w wr := hBc.trans (hBr.mono hBc.size)
          have HAr := Lib.hid (HA.out.below hBr hbc)
          have hMac := Lib.hid (show ∀ W : World, Grew wr W → Calls Try.prog 23 #[.slice A n c, .slice A1 n1 c1] W fun e w' => e = .returned (.agg C.toArray) ∧ Grew W w' from fun W hW => by
            have := sha_mac A A1 n c n1 c1 W.heap.size _ l1 W ((hOs.out.below hW).more hW.size) ((S1.out.below (hBx.trans (hW.mono hBx.size))).more (by have := hBx.size; have := hW.size; omega)) (Nat.le_refl _) (by omega) (by omega)
            rw [ShaP.mac_zeros l0 l1 j hj, ← HM.out, ← HC.out] at this
            exact this)
          have HLD := Lib.hid (show ∀ y : GrewOf wr, (Instr.loadAt 23 (.pointer (some ⟨wb.heap.size, 0, none⟩))).run Try.prog y.1 = .ok (.agg C.toArray) y.1 from fun y => load_box HAr.out (by rw [HC.out, List.length_map]; exact HMl.out) y.2)
          clear hn hO
          by_cases g1 : (j : Int) < a2
          · have g2 : ¬ (n : Int) < 64 := by omega
            clear hgo
            go_upto_region 14 with fail
            have hqq := HEQ.out
            refine F.wp_region_x [] (by kernel_rfl) (by kernel_rfl) (by kernel_rfl) ?_
            simp only [F.blank, List.foldl_nil]
            repeat (first
              | (refine F.wpX_value (v := ?_) rfl (by intros; simp) rfl rfl (fun x => ?_) ?_; rotate_left; (focus (simp [go_sem, hqq]; (try go_ints); first | done | (with_reducible rfl))); (simp only [Act.put, List.setIfInBounds_toArray, List.set_cons_succ, List.set_cons_zero]))
              | (refine F.wpX_value (.agg C.toArray) rfl (by intros; simp) rfl rfl (fun y => exec_load (.tmp 7) rfl rfl (HLD.out y)) ?_; (simp only [Act.put, List.setIfInBounds_toArray, List.set_cons_succ, List.set_cons_zero]))
              | (refine F.wpX_call (.agg C.toArray) _ _ rfl (by intros; simp) rfl rfl (fun _ => ?_) (fun w' hw' => hMac.out w' hw') ?_; (focus (simp [go_sem]; done)); (simp only [Act.put, List.setIfInBounds_toArray, List.set_cons_succ, List.set_cons_zero])))
            (refine F.wpX_nil ?_; intro xb wx hxg xl; obtain ⟨xf, xe⟩ := F.LikeAll.end_ xl; clear xl; subst xe; simp only [F.fill, List.foldl_nil, Act.put])
            have HBX := Lib.hid (hBx.trans (hxg.mono hBx.size))
            clear hqq hxg
            go_wp2_with fail
            go_ret
            exact ⟨rfl, HBX.out⟩
          · clear hgo
            go_upto_region 14 with fail
            have hqq := HEQ.out
            refine F.wp_region_x [] (by kernel_rfl) (by kernel_rfl) (by kernel_rfl) ?_
            simp only [F.blank, List.foldl_nil]
            repeat (first
              | (refine F.wpX_value (v := ?_) rfl (by intros; simp) rfl rfl (fun x => ?_) ?_; rotate_left; (focus (simp [go_sem, hqq]; (try go_ints); first | done | (with_reducible rfl))); (simp only [Act.put, List.setIfInBounds_toArray, List.set_cons_succ, List.set_cons_zero]))
              | (refine F.wpX_value (.agg C.toArray) rfl (by intros; simp) rfl rfl (fun y => exec_load (.tmp 7) rfl rfl (HLD.out y)) ?_; (simp only [Act.put, List.setIfInBounds_toArray, List.set_cons_succ, List.set_cons_zero]))
              | (refine F.wpX_call (.agg C.toArray) _ _ rfl (by intros; simp) rfl rfl (fun _ => ?_) (fun w' hw' => hMac.out w' hw') ?_; (focus (simp [go_sem]; done)); (simp only [Act.put, List.setIfInBounds_toArray, List.set_cons_succ, List.set_cons_zero])))
            (refine F.wpX_nil ?_; intro xb wx hxg xl; obtain ⟨xf, xe⟩ := F.LikeAll.end_ xl; clear xl; subst xe; simp only [F.fill, List.foldl_nil, Act.put])
            have HBX := Lib.hid (hBx.trans (hxg.mono hBx.size))
            clear hqq hxg
            go_wp2_with fail
            go_ret
            exact ⟨rfl, HBX.out⟩
end Go.Proofs.Ytohgkadbajmphaa
