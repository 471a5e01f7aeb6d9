/- The walk of rolodexlaw2.ShaParts. -/
import Derived.Test.YtohgkadbajmphaaShaRowsWalk
import Derived.Test.YtohgkadbajmphaaOpenL
namespace Go.Proofs.Ytohgkadbajmphaa
open Go.RowKit
set_option linter.unusedVariables false
theorem keptBut.of_grew {w w' : World} {X : Nat → Prop} (h : Grew w w') : keptBut w w' X := ⟨h.os, h.tape, h.output, h.size, fun k hk _ => h.block k hk⟩
theorem flat_take' (ll : List (List UInt8)) (k : Nat) (hk : k < ll.length) : (ll.take (k + 1)).flatten = (ll.take k).flatten ++ ll[k] := by
  rw [List.take_succ_eq_append_getElem hk, List.flatten_append]
  simp
/-- the worlds behind p writings of a part -/
def PP (w0 : World) (g : Nat) (A : Option Addr) (n : Nat) (l b : List UInt8) (p : Nat) (w : World) : Prop :=
  if p = 0 then Grew w0 w else ∃ A' c', HashV w g g A' (n + b.length) c' (l ++ b) false (List.replicate 32 0) ∧ keptBut w0 w (fun k => k = g ∨ blk A = some k) ∧ (blk A' = blk A ∨ ∃ k, blk A' = some k ∧ w0.heap.size ≤ k)
theorem PP.kept {w0 : World} {g : Nat} {A : Option Addr} {n : Nat} {l b : List UInt8} {p : Nat} {w : World} (h : PP w0 g A n l b p w) : keptBut w0 w (fun k => k = g ∨ blk A = some k) := by
  unfold PP at h
  split at h
  · exact keptBut.of_grew h
  · obtain ⟨_, _, _, h, _⟩ := h
    exact h
set_option maxRecDepth 100000 in
set_option maxHeartbeats 2000000 in
theorem shaParts_walk (A0 : Option Addr) (n0 c0 : Nat) (l0 : List (List UInt8)) (A1 : Option Addr) (n1 c1 : Nat) (l1 : List UInt8) (w : World) (b0 : LBytesIn w A0 n0 c0 l0) (z0 : n0 * 24 ≤ 140737488351232) (b1 : BytesIn w A1 n1 c1 l1) (z1 : n1 * 1 ≤ 140737488351232) :
    Calls Try.prog 6 #[.slice A0 n0 c0, .slice A1 n1 c1] w fun e w' => e = .returned (.bool true) ∧ Below w.heap.size w w' := by
  have hl0 := b0.len
  subst hl0
  have hc0 := b0.le
  have hc1 := b0.max
  unfold maxLen at hc1
  have HR := Lib.hid b0.row
  clear b0 b1
  by_cases hbig : 50 < l0.length
  · have i1 : (50 : Int) < (l0.length : Int) := by omega
    go_enter Try.func6, Try.ntmps6
    go_wp2_with fail
    refine (awake2 w).mono ?_
    rintro e wa ⟨rfl, hB1⟩
    go_wp2_with fail
    go_ret
    exact ⟨rfl, hB1⟩
  · have i1 : ¬ (50 : Int) < (l0.length : Int) := by omega
    have k1 : l0.length ≤ 50 := by omega
    clear hbig
    go_enter Try.func6, Try.ntmps6
    go_wp2_with fail
    refine (awake2 w).mono ?_
    rintro e wa ⟨rfl, hBa⟩
    go_wp2_with fail
    refine (hash_new wa).mono ?_
    rintro e wb ⟨rfl, hHx, hBb⟩
    obtain ⟨gx, hgx⟩ : ∃ g, g = wa.heap.size := ⟨_, rfl⟩
    rw [← hgx] at hHx ⊢
    have hxb : gx < wb.heap.size := hHx.arr.lt
    have hwx : w.heap.size ≤ gx := by have := hBa.size; omega
    have HHx := Lib.hid hHx
    have hBb' : Below w.heap.size w wb := hBa.trans (hBb.mono (by omega))
    clear hHx hBb hBa hgx i1
    go_wp2_with fail
    go_loopw [7, 6] (fun i f wr => ∃ (j : Nat) (A : Option Addr) (n c : Nat) (A2 : Option Addr) (c2 : Nat), j ≤ l0.length ∧ i = .int .i64 (j : Int) ∧ f = .slice A2 n c2 ∧ n ≤ 300 * j ∧ HashV wr gx gx A n c (l0.take j).flatten false (List.replicate 32 0) ∧ OwnB wr gx A2 n c2 (l0.take j).flatten ∧ (∀ k, blk A2 = some k → k ≠ gx ∧ blk A ≠ some k) ∧ Below w.heap.size w wr) (fun i _ _ => l0.length - (intOf i).toNat)
    case atStart => exact ⟨0, none, 0, 0, none, 0, Nat.zero_le _, rfl, rfl, Nat.zero_le _, HHx.out, Own.nil _ _ _ _, by simp [blk], hBb'⟩
    case round =>
      obtain ⟨j, A, n, c, A2, c2, hj, rfl, rfl, hn, hX, hO, hdis, hBr⟩ := hrel
      obtain ⟨fl, hF⟩ : ∃ fl, fl = (l0.take j).flatten := ⟨_, rfl⟩
      have HFF := Lib.hid hF
      rw [← hF] at hX hO
      have HX := Lib.hid hX
      have HO := Lib.hid hO
      have HDIS := Lib.hid hdis
      have hgr := hX.arr.lt
      clear hX hO hdis hF
      by_cases hlt : j < l0.length
      · have i5 : (j : Int) < (l0.length : Int) := by omega
        obtain ⟨ad, A', c', e0, hab, hcell, hq1, hq2, hrow⟩ := HR.out j l0[j] (List.getElem?_eq_getElem hlt)
        subst e0
        obtain ⟨b, hb⟩ : ∃ b, b = l0[j] := ⟨_, rfl⟩
        rw [← hb] at hcell hq1 hrow
        have HB := Lib.hid hb
        have HCELL := Lib.hid hcell
        have HROW := Lib.hid hrow
        unfold maxLen at hq2
        clear hb hcell hrow
        by_cases h300 : 300 < b.length
        · have i6 : (300 : Int) < (b.length : Int) := by omega
          have facts : ∀ y : GrewOf wr, y.1.cell? (ad.add j) = some (.slice A' b.length c') := fun y => (Below.cell (hBr.trans (y.2.mono hBr.size)) (p := ad.add j) (by rw [add_block]; exact hab)).trans HCELL.out
          go_upto_region 10 with fail
          have hqq := And.intro facts (show decide ((300 : Int) < (b.length : Int)) = true from decide_eq_true i6)
          refine F.wp_region_x [] (by kernel_rfl) (by kernel_rfl) (by kernel_rfl) ?_
          simp only [F.blank, List.foldl_nil]
          repeat (first
            | (refine F.wpX_value (v := ?_) rfl (by intros; simp) rfl rfl (fun x => ?_) ?_; rotate_left; (focus (simp [go_sem, hqq, ↓IntWalk.iteOmega]; (try go_ints); first | done | (with_reducible rfl))); (simp only [Act.put, List.setIfInBounds_toArray, List.set_cons_succ, List.set_cons_zero]))
            | (refine F.wpX_skip rfl ?_; (simp only [Act.put, List.setIfInBounds_toArray, List.set_cons_succ, List.set_cons_zero])))
          (refine F.wpX_nil ?_; intro xb wx hxg xl; obtain ⟨xf, xe⟩ := F.LikeAll.end_ xl; clear xl; subst xe; simp only [F.fill, List.foldl_nil, Act.put])
          have hBX : Below w.heap.size w wx := hBr.trans (hxg.mono hBr.size)
          have hcx : wx.cell? (ad.add j) = some (.slice A' b.length c') := facts ⟨wx, hxg⟩
          clear hqq facts hxg
          go_wp2_with fail
          go_ret
          exact ⟨rfl, hBX⟩
        · have i6 : ¬ (300 : Int) < (b.length : Int) := by omega
          have hsl : Sl wr w.heap.size A' b.length c' b := ⟨rfl, hq1, by unfold maxLen; omega, HROW.out.below hBr⟩
          have hPc : ∀ y : AnyOf (PP wr gx A n fl b), y.1.2.cell? (ad.add j) = some (.slice A' b.length c') := fun y => by
            have hk := PP.kept y.2
            refine (World.cell?_of_block (hk.block (ad.add j).block (by rw [add_block]; have := hBr.size; omega) (fun h => ?_))).trans ((Below.cell hBr (p := ad.add j) (by rw [add_block]; exact hab)).trans HCELL.out)
            have := HX.out.base_le (Nat.le_refl _) _ h
            rw [add_block] at this
            omega
          have hcall : ∀ W, PP wr gx A n fl b 0 W → Calls Try.prog 18 #[.pointer (some ⟨gx, 0, none⟩), .slice A' b.length c'] W fun e w'' => e = .returned (.int .i64 (b.length : Int)) ∧ PP wr gx A n fl b 1 w'' := fun W hW => by
            have hg : Grew wr W := hW
            refine (hash_write gx gx A n c fl (List.replicate 32 0) A' b.length c' w.heap.size b W (HX.out.grew hg) (hsl.below (hg.mono hBr.size)) (Nat.le_trans hBr.size hg.size) (by have := hg.size; omega) (by omega)).mono ?_
            rintro e w'' ⟨A'', c'', he, h1, h2, h3⟩
            refine ⟨he, A'', c'', h1, (keptBut.of_grew hg).trans ⟨h2.os, h2.tape, h2.output, h2.size, h2.block⟩, ?_⟩
            rcases h3 with h3 | ⟨k, h3, h4⟩
            · exact .inl h3
            · exact .inr ⟨k, h3, Nat.le_trans hg.size h4⟩
          have H := Lib.hid (And.intro hPc hcall)
          have HSL := Lib.hid hsl
          clear hPc hcall hsl
          go_upto_region 10 with fail
          have hqq := And.intro H.out.1 (show decide ((300 : Int) < (b.length : Int)) = false from decide_eq_false i6)
          refine wp_region_p (PP wr gx A n fl b) [12] (by kernel_rfl) (by kernel_rfl) (by kernel_rfl) (show Grew wr (wr.drewN 1) from Grew.drewN wr 1) ?_
          repeat (first
            | (refine wpP_value (v := ?_) rfl rfl (fun x => ?_) ?_; rotate_left; (focus (simp [go_sem, hqq, ↓IntWalk.iteOmega]; (try go_ints); first | done | (with_reducible rfl))); (simp only [Act.put, List.setIfInBounds_toArray, List.set_cons_succ, List.set_cons_zero]))
            | (refine wpP_call (.int .i64 (b.length : Int)) _ _ rfl rfl (fun _ => by simp [go_sem]) (fun w' hw' => H.out.2 w' hw') ?_; (simp only [Act.put, List.setIfInBounds_toArray, List.set_cons_succ, List.set_cons_zero])))
          refine wpP_nil ?_
          intro w5 hw5
          obtain ⟨A3, c3, hX5, hk5, hor⟩ := hw5
          have hB5 : Below w.heap.size w w5 := hBr.trans (hk5.below hBr.size (fun k hk => Nat.le_trans hwx (HX.out.base_le (Nat.le_refl _) k hk)))
          have hO5 : OwnB w5 gx A2 n c2 fl := Own.keep HO.out (fun k hk => hk5.block k (Own.lt HO.out k hk).2 (fun h => h.elim (HDIS.out k hk).1 (HDIS.out k hk).2))
          have hdis5 : ∀ k, blk A2 = some k → k ≠ gx ∧ blk A3 ≠ some k := fun k hk => ⟨(HDIS.out k hk).1, fun e => by
            rcases hor with h | ⟨k', h, hge⟩
            · exact (HDIS.out k hk).2 (h ▸ e)
            · rw [h] at e; injection e with e; have := (Own.lt HO.out k hk).2; omega⟩
          have hc5 : w5.cell? (ad.add j) = some (.slice A' b.length c') := (Below.cell hB5 (p := ad.add j) (by rw [add_block]; exact hab)).trans HCELL.out
          have hr5 : Row w5 w.heap.size A' (b.map b8) := HROW.out.below hB5
          have HX5 := Lib.hid hX5
          have HD5 := Lib.hid hdis5
          have hg5 := hX5.arr.lt
          clear hqq H hX5 hk5 hor hdis5
          go_wp2_with (at_builtin; refine wpList_app8 rfl (.tmp 48) (.tmp 52) 31 rfl (.inl ⟨_, Try.underlying31⟩) gx _ _ _ _ rfl hO5 b.length b (Src.slice (by simp) hr5) (.inl (by omega)) (by omega) ?_; intro A7 c7 w7 hO7 hg7 hB7 hb7)
          have hX7 : HashV w7 gx gx A3 (n + b.length) c3 (fl ++ b) false (List.replicate 32 0) := HX5.out.other hg7 (fun e => (HD5.out gx e).1 rfl) (fun k hk e => (HD5.out k e).2 hk)
          have hB70 : Below w.heap.size w w7 := hB5.trans (hB7.mono hwx)
          have HL7 := Lib.hid (hash_len _ _ _ _ _ _ _ _ w7 hX7)
          have HX7 := Lib.hid hX7
          have HO7 := Lib.hid hO7
          have HB7 := Lib.hid hb7
          have hd7 : ∀ k, blk A7 = some k → k ≠ gx ∧ blk A3 ≠ some k := fun k hk => by
            rcases hb7 with h | h
            · exact HD5.out k (by rw [← h]; exact hk)
            · rw [h] at hk; injection hk with hk; exact ⟨by omega, fun e => by have := (Own.lt HX5.out.own k e).2; omega⟩
          have HD7 := Lib.hid hd7
          clear hX7 hO7 hg7 hB7 hb7 hd7 hO5 hr5
          refine HL7.out.mono ?_
          rintro e w8 ⟨rfl, rfl⟩
          go_wp2_with fail
          go_roundw
          case rel =>
            have hfl : fl ++ b = (l0.take (j + 1)).flatten := by rw [flat_take' l0 j hlt, HFF.out, HB.out]
            refine ⟨j + 1, A3, _, c3, A7, c7, by omega, by go_num, rfl, by omega, ?_, ?_, HD7.out, hB70⟩
            · rw [← hfl]; exact HX7.out
            · rw [← hfl]; exact HO7.out
          case measure => simp [intOf]; omega
      · have i5 : ¬ (j : Int) < (l0.length : Int) := by omega
        obtain ⟨D, hD⟩ : ∃ D : List UInt8, D = ShaP.digest fl := ⟨_, rfl⟩
        have hDl : D.length = 32 := by rw [hD]; exact ShaP.digest_len _
        obtain ⟨C, hC⟩ : ∃ C, C = D.map b8 := ⟨_, rfl⟩
        have HEQ := Lib.hid (eql_same C D hDl hC)
        have hS1 := Lib.hid (show Calls Try.prog 17 #[.pointer (some ⟨gx, 0, none⟩)] wr fun e w' => e = .returned (.agg C.toArray) ∧ HashV w' gx gx A n c fl true D ∧ wr.grownBy w' (some gx) from by have := hash_sum _ _ _ _ _ _ _ _ wr HX.out (by omega); rw [← hD, ← hC] at this; exact this)
        have HD := Lib.hid hD
        have HDl := Lib.hid hDl
        have HC := Lib.hid hC
        clear hD hDl hC
        go_wp2_with fail
        refine hS1.out.mono ?_
        rintro e w5 ⟨rfl, hX5, hg5⟩
        have hO5 : OwnB w5 gx A2 n c2 fl := HO.out.other hg5 (fun k hk e => by injection e with e; exact (HDIS.out k hk).1 e.symm)
        have hB5 : Below w.heap.size w w5 := hBr.trans (below_grown hg5 hBr.size (fun k e => by injection e with e; omega))
        have HST5 := Lib.hid (boxed_store w5 C D HDl.out HC.out)
        obtain ⟨w6, hw6⟩ : ∃ w6, w6 = boxed32 w5 C := ⟨_, rfl⟩
        have hg6 : Grew w5 w6 := by rw [hw6]; exact boxed_grew w5 C
        have HA6 := Lib.hid (show ArrV w6 w5.heap.size C by rw [hw6]; exact HST5.out.2.2.2.1)
        have HX6 := Lib.hid (hX5.grew hg6)
        have HO6 := Lib.hid (hO5.below_all hg6)
        have hB6 : Below w.heap.size w w6 := hB5.trans (hg6.mono hB5.size)
        have HW6 := Lib.hid hw6
        have HWc := Lib.hid (hash_write_closed _ _ _ _ _ _ _ w6 (.slice A1 n1 c1) HX6.out)
        clear hX5 hg5 hO5 hB5 hg6 hw6 hS1 HX HO
        go_wp2_with (first
          | (refine wpList_value (o := ⟨some 8, _, _, _, _, _⟩) (v := .pointer (some ⟨w5.heap.size, 0, none⟩)) (w' := w5.alloc (.cells dzeros 23)) rfl (by kernel_rfl) ?_)
          | (refine wpList_store_mid rfl 23 (.tmp 8) (.tmp 60) rfl w5.heap.size 0 C.toArray rfl rfl HST5.out.1 HST5.out.2.1 HST5.out.2.2.1 ?_; rw [show (w5.alloc (.cells dzeros 23)).setCells w5.heap.size 0 C.toArray.toList = w6 from HW6.out.symm]))
        refine HWc.out.mono ?_
        rintro e w7 ⟨rfl, hw7⟩
        obtain rfl : w6 = w7 := hw7
        have hLen := Lib.hid (show ∀ W : World, Grew w6 W → Calls Try.prog 20 #[.pointer (some ⟨gx, 0, none⟩)] W fun e w' => e = .returned (.int .i64 (n : Int)) ∧ Grew W w' from fun W hW => (hash_len _ _ _ _ _ _ _ _ W (HX6.out.grew hW)).mono fun e w' h => ⟨h.1, h.2 ▸ Grew.refl _⟩)
        have hAg := Lib.hid (show ∀ W : World, Grew w6 W → Calls Try.prog 17 #[.pointer (some ⟨gx, 0, none⟩)] W fun e w' => e = .returned (.agg C.toArray) ∧ Grew W w' from fun W hW => by have := hash_again _ _ _ _ _ _ _ W (HX6.out.grew hW); rw [← HD.out, ← HC.out] at this; exact this)
        have hSb := Lib.hid (show ∀ W : World, Grew w6 W → Calls Try.prog 19 #[.slice A2 n c2] W fun e w' => e = .returned (.agg C.toArray) ∧ Grew W w' from fun W hW => by have := sha_sum A2 n c2 W.heap.size fl W (HO6.out.below_all hW).sl (Nat.le_refl _) (by omega); rw [← HD.out, ← HC.out] at this; exact this)
        have HLD := Lib.hid (show ∀ y : GrewOf w6, (Instr.loadAt 23 (.pointer (some ⟨w5.heap.size, 0, none⟩))).run Try.prog y.1 = .ok (.agg C.toArray) y.1 from fun y => load_box HA6.out (by rw [HC.out, List.length_map]; exact HDl.out) y.2)
        clear HWc
        go_upto_region 17 with fail
        have hqq := HEQ.out
        refine F.wp_region_x [] (by kernel_rfl) (by kernel_rfl) (by kernel_rfl) ?_
        simp only [F.blank, List.foldl_nil]
        repeat (first
          | (refine F.wpX_value (v := ?_) rfl (by intros; simp) rfl rfl (fun x => ?_) ?_; rotate_left; (focus (simp [go_sem, hqq]; (try go_ints); first | done | (with_reducible rfl))); (simp only [Act.put, List.setIfInBounds_toArray, List.set_cons_succ, List.set_cons_zero]))
          | (refine F.wpX_value (.agg C.toArray) rfl (by intros; simp) rfl rfl (fun y => exec_load (.tmp 8) rfl rfl (HLD.out y)) ?_; (simp only [Act.put, List.setIfInBounds_toArray, List.set_cons_succ, List.set_cons_zero]))
          | (refine F.wpX_call (o := ⟨some 66, _, _, _, _, _⟩) (.agg C.toArray) _ _ rfl (by intros; simp) rfl rfl (fun _ => ?_) (fun w' hw' => hSb.out w' hw') ?_; (focus (simp [go_sem]; done)); (simp only [Act.put, List.setIfInBounds_toArray, List.set_cons_succ, List.set_cons_zero]))
          | (refine F.wpX_call (o := ⟨some 74, _, _, _, _, _⟩) (.agg C.toArray) _ _ rfl (by intros; simp) rfl rfl (fun _ => ?_) (fun w' hw' => hAg.out w' hw') ?_; (focus (simp [go_sem]; done)); (simp only [Act.put, List.setIfInBounds_toArray, List.set_cons_succ, List.set_cons_zero]))
          | (refine F.wpX_call (o := ⟨some 80, _, _, _, _, _⟩) (.int .i64 (n : Int)) _ _ rfl (by intros; simp) rfl rfl (fun _ => ?_) (fun w' hw' => hLen.out w' hw') ?_; (focus (simp [go_sem]; done)); (simp only [Act.put, List.setIfInBounds_toArray, List.set_cons_succ, List.set_cons_zero])))
        (refine F.wpX_nil ?_; intro xb wx hxg xl; obtain ⟨xf, xe⟩ := F.LikeAll.end_ xl; clear xl; subst xe; simp only [F.fill, List.foldl_nil, Act.put])
        have HBX := Lib.hid (hB6.trans (hxg.mono hB6.size))
        clear hqq hxg
        go_wp2_with fail
        go_ret
        exact ⟨rfl, HBX.out⟩
end Go.Proofs.Ytohgkadbajmphaa
