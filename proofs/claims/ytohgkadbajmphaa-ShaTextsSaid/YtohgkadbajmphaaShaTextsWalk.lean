/- The walk of rolodexlaw2.ShaTexts. -/
import Derived.Test.YtohgkadbajmphaaShaRowsWalk
import Derived.Test.YtohgkadbajmphaaRefHex
namespace Go.Proofs.Ytohgkadbajmphaa
open Go.RowKit
set_option linter.unusedVariables false
/-- the first bytes, as many as 32, the others 0 -/
def padTo (l : List UInt8) (k : Nat) : List UInt8 := l.take k ++ List.replicate (32 - k) 0
theorem padTo_len (l : List UInt8) (k : Nat) (h : k ≤ l.length) (h2 : k ≤ 32) : (padTo l k).length = 32 := by unfold padTo; simp; omega
theorem padTo_set (l : List UInt8) (k : Nat) (h : k < l.length) (h2 : k < 32) : (padTo l k).set k l[k] = padTo l (k + 1) := by
  unfold padTo
  rw [List.set_append_right _ _ (by rw [List.length_take]; omega), List.length_take, show k - min k l.length = 0 by omega, show 32 - k = (32 - (k + 1)) + 1 by omega, List.replicate_succ, List.set_cons_zero, List.take_succ_eq_append_getElem h, List.append_assoc]
  rfl
theorem neq_same (C : List Value) (l : List UInt8) (hl : l.length = 32) (hC : C = l.map b8) (W : World) : (binOp .neq 23 (.agg C.toArray) (.agg C.toArray)).run Try.prog W = .ok (.bool false) W := by
  have h := run_equalIn_bytes (P := Try.prog) W 9998 23 5 32 Try.underlying23 Try.underlying5 (fun _ => by kernel_rfl) l l hl hl
  have e : (l.map Extern.Stop.cell).toArray = C.toArray := by rw [hC]; rfl
  rw [e] at h
  rw [run_neq_struct, h]
  simp
set_option maxRecDepth 100000 in
set_option maxHeartbeats 4000000 in
theorem shaTexts_walk (A0 : Option Addr) (n0 c0 : Nat) (l0 : List UInt8) (s1 : ByteArray) (w : World) (b0 : BytesIn w A0 n0 c0 l0) (z0 : n0 * 1 ≤ 140737488351232) (z1 : s1.data.toList.length ≤ 140737488351232) :
    Calls Try.prog 5 #[.slice A0 n0 c0, .string s1] w fun e w' => e = .returned (.bool true) ∧ Below w.heap.size w w' := by
  obtain ⟨t, rfl⟩ : ∃ t : List UInt8, s1 = ⟨t.toArray⟩ := ⟨s1.data.toList, by cases s1; simp⟩
  have ht : t.length ≤ 140737488351232 := by simpa using z1
  have hl0 := b0.len
  subst hl0
  have hc0 := b0.le
  have hc1 := b0.max
  unfold maxLen at hc1
  have HR := Lib.hid b0.row
  clear b0 z1
  go_enter Try.func5, Try.ntmps5
  go_wp2_with fail
  refine (awake2 w).mono ?_
  rintro e wa ⟨rfl, hBa⟩
  have HD0 := Lib.hid (dz_made wa)
  obtain ⟨wb, hwb⟩ : ∃ wb, wb = wa.alloc (.cells dzeros 23) := ⟨_, rfl⟩
  have hgb : Grew wa wb := by rw [hwb]; exact grew_alloc wa _
  have HDb := Lib.hid (show ArrV wb wa.heap.size ((padTo l0 0).map b8) by rw [hwb]; exact HD0.out)
  obtain ⟨gd, hgd⟩ : ∃ gd, gd = wa.heap.size := ⟨_, rfl⟩
  rw [← hgd] at HDb
  have hwd : w.heap.size ≤ gd := by have := hBa.size; omega
  have hBb : Below w.heap.size w wb := hBa.trans (hgb.mono hBa.size)
  have HWB := Lib.hid hwb
  have HGD := Lib.hid hgd
  have hdb := HDb.out.lt
  clear hgb hwb hgd hBa HD0
  go_wp2_with (refine wpList_value (o := ⟨some 5, _, _, _, _, _⟩) (v := .pointer (some ⟨gd, 0, none⟩)) (w' := wb) rfl (by rw [HGD.out, HWB.out]; kernel_rfl) ?_)
  go_loopw [6] (fun i wr => ∃ k : Nat, k ≤ l0.length ∧ k ≤ 32 ∧ i = .int .i64 (k : Int) ∧ ArrV wr gd ((padTo l0 k).map b8) ∧ wb.grownBy wr (some gd)) (fun i _ => 32 - (intOf i).toNat)
  case atStart => exact ⟨0, Nat.zero_le _, Nat.zero_le _, rfl, HDb.out, grown_refl wb _⟩
  case round =>
    obtain ⟨k, hk, hk2, rfl, hA, hgr⟩ := hrel
    have hBr : Below w.heap.size w wr := hBb.trans (below_grown hgr hBb.size (fun g e => by injection e with e; omega))
    by_cases hgo : k < l0.length ∧ k < 32
    · obtain ⟨g1, g2⟩ := hgo
      have j1 : (k : Int) < (l0.length : Int) := by omega
      have j2 : (k : Int) < 32 := by omega
      obtain ⟨ad, e0, hab, hcell⟩ := HR.out.at_ k (by simpa using g1)
      subst e0
      obtain ⟨x, hx⟩ : ∃ x, x = l0[k] := ⟨_, rfl⟩
      have hcx : wr.cell? (ad.add k) = some (b8 x) := (Below.cell hBr (p := ad.add k) (by rw [add_block]; omega)).trans (by rw [hcell, hx]; simp)
      have q1 := hA.cell (i := k) (by rw [List.length_map, padTo_len l0 k hk hk2]; exact g2)
      have q2 := hA.frozen k
      have hst := hA.set k (b8 x)
      rw [← List.map_set, hx, padTo_set l0 k g1 g2, ← hx] at hst
      have HST := Lib.hid hst
      clear hst hx hcell hA
      go_wp2_with fail
      go_roundw
      case rel => exact ⟨k + 1, by omega, by omega, by go_num, HST.out, grown_step hgr (grown_cell wr ⟨gd, k, none⟩ _)⟩
      case measure => simp [intOf]; omega
    · obtain ⟨d, hd⟩ : ∃ d : List UInt8, d = padTo l0 k := ⟨_, rfl⟩
      have hdl : d.length = 32 := by rw [hd]; exact padTo_len l0 k hk hk2
      rw [← hd] at hA
      obtain ⟨wz, rfl⟩ : ∃ wz : World, wz = wr := ⟨_, rfl⟩
      obtain ⟨C, hC⟩ : ∃ C, C = d.map b8 := ⟨_, rfl⟩
      have HDL := Lib.hid hdl
      have HC := Lib.hid hC
      have HAC := Lib.hid (show ArrV wz gd C by rw [hC]; exact hA)
      have HRG := Lib.hid (HAC.out.range)
      have HIN := Lib.hid (show (Try.prog.info? 23).map (·.size) = some C.length by rw [hC, List.length_map, hdl]; kernel_rfl)
      obtain ⟨X, hX⟩ : ∃ X : List UInt8, X = ShaP.hex d := ⟨_, rfl⟩
      have hHex := Lib.hid (show ∀ W : World, Calls Try.prog 25 #[.agg C.toArray] W fun e w' => e = .returned (.string ⟨X.toArray⟩) ∧ Grew W w' from fun W => by have := sha_hex d hdl W; rw [← hC, ← hX] at this; exact this)
      have hXl : X.length ≤ maxLen := by rw [hX, ShaP.hex_len, hdl]; unfold maxLen; omega
      have hRead := Lib.hid (show ∀ W : World, Calls Try.prog 15 #[.string ⟨X.toArray⟩] W fun e w' => e = .returned (.tuple #[.agg C.toArray, .int .i64 0]) ∧ Grew W w' from fun W => by have := sha_read X W hXl; rw [hX, (ShaP.read_hex d hdl).1, (ShaP.read_hex d hdl).2, ← hC, ← hX] at this; exact this)
      have hRef := Lib.hid (show ∀ W : World, ArrV W gd C → Calls Try.prog 26 #[.slice (some ⟨gd, 0, none⟩) 32 32] W fun e w' => e = .returned (.string ⟨X.toArray⟩) ∧ Grew W w' from fun W hW => by
        have hs : Sl W W.heap.size (some ⟨gd, 0, none⟩) 32 32 d := by rw [hC] at hW; exact hW.sl hdl (Nat.le_refl _) (by unfold maxLen; omega)
        have := ref_hex (some ⟨gd, 0, none⟩) 32 32 W.heap.size d W hs (Nat.le_refl _) (by omega)
        rw [← hX] at this
        exact this)
      obtain ⟨R, hR⟩ : ∃ R : List UInt8, R = ShaP.readD t := ⟨_, rfl⟩
      have hRl : R.length = 32 := by rw [hR]; exact ShaP.readD_len t
      obtain ⟨CR, hCR⟩ : ∃ C, C = R.map b8 := ⟨_, rfl⟩
      obtain ⟨E, hE⟩ : ∃ E, E = ShaP.readE t := ⟨_, rfl⟩
      have hRead2 := Lib.hid (show ∀ W : World, Calls Try.prog 15 #[.string ⟨t.toArray⟩] W fun e w' => e = .returned (.tuple #[.agg CR.toArray, .int .i64 E]) ∧ Grew W w' from fun W => by have := sha_read t W (by unfold maxLen; omega); rw [← hR, ← hCR, ← hE] at this; exact this)
      have HNEQ := Lib.hid (neq_same C d hdl hC)
      have hDig := Lib.hid (fun W : World => ref_digits t 64 W (by unfold maxLen; omega))
      have HR2 := Lib.hid hR
      have HRL := Lib.hid hRl
      have HCR := Lib.hid hCR
      have HE := Lib.hid hE
      have hzd := HAC.out.lt
      clear hA hd hdl hC hX hXl hR hRl hCR hE hgr
      have hgo2 : ¬ (k : Int) < (l0.length : Int) ∨ (k : Int) < (l0.length : Int) ∧ ¬ (k : Int) < 32 := by omega
      have key : ∀ (x : Nat), True := fun _ => trivial
      by_cases j1 : (k : Int) < (l0.length : Int)
      all_goals
        have j2 : (k : Int) < (l0.length : Int) → ¬ (k : Int) < 32 := by omega
        try have j3 := j2 j1
        clear hgo hgo2 j2 key
        go_wp2_with (refine wpList_load_mid rfl 23 (.tmp 5) rfl gd 0 rfl C _ HRG.out Try.underlying23 rfl HIN.out ?_)
        refine (hHex.out wz).mono ?_
        rintro e w2 ⟨rfl, hg2⟩
        go_wp2_with fail
        refine (hRead.out w2).mono ?_
        rintro e w3 ⟨rfl, hg3⟩
        have hzg3 := Grew.trans hg2 hg3
        have HST := Lib.hid (boxed_store w3 C d HDL.out HC.out)
        obtain ⟨w4, hw4⟩ : ∃ w4, w4 = boxed32 w3 C := ⟨_, rfl⟩
        have hg4 : Grew w3 w4 := by rw [hw4]; exact boxed_grew w3 C
        have HA4 := Lib.hid (show ArrV w4 w3.heap.size C by rw [hw4]; exact HST.out.2.2.2.1)
        have hzg4 := Grew.trans hzg3 hg4
        have HW4 := Lib.hid hw4
        clear hg2 hg3 hzg3 hg4 hw4
        go_wp2_with (first
          | (refine wpList_value (o := ⟨some 7, _, _, _, _, _⟩) (v := .pointer (some ⟨w3.heap.size, 0, none⟩)) (w' := w3.alloc (.cells dzeros 23)) rfl (by kernel_rfl) ?_)
          | (refine wpList_store_mid rfl 23 (.tmp 7) (.tmp 33) rfl w3.heap.size 0 C.toArray rfl rfl HST.out.1 HST.out.2.1 HST.out.2.2.1 ?_; rw [show (w3.alloc (.cells dzeros 23)).setCells w3.heap.size 0 C.toArray.toList = w4 from HW4.out.symm]))
        refine (hRead2.out w4).mono ?_
        rintro e w5 ⟨rfl, hg5⟩
        have HST5 := Lib.hid (boxed_store w5 CR R HRL.out HCR.out)
        obtain ⟨w6, hw6⟩ : ∃ w6, w6 = boxed32 w5 CR := ⟨_, rfl⟩
        have hg6 : Grew w5 w6 := by rw [hw6]; exact boxed_grew w5 CR
        have HR6 := Lib.hid (show ArrV w6 w5.heap.size CR by rw [hw6]; exact HST5.out.2.2.2.1)
        have hg46 := Grew.trans hg5 hg6
        have HA6 := Lib.hid (HA4.out.grew hg46)
        have hzg6 := Grew.trans hzg4 hg46
        have HD6 := Lib.hid (HAC.out.grew hzg6)
        have hB6 : Below w.heap.size w w6 := hBr.trans (hzg6.mono hBr.size)
        have HW6 := Lib.hid hw6
        clear hg5 hg6 hg46 hzg4 hzg6 hw6
        go_upto_region 10 with (first
          | (refine wpList_value (o := ⟨some 9, _, _, _, _, _⟩) (v := .pointer (some ⟨w5.heap.size, 0, none⟩)) (w' := w5.alloc (.cells dzeros 23)) rfl (by kernel_rfl) ?_)
          | (refine wpList_store_mid rfl 23 (.tmp 9) (.tmp 38) rfl w5.heap.size 0 CR.toArray rfl rfl HST5.out.1 HST5.out.2.1 HST5.out.2.2.1 ?_; rw [show (w5.alloc (.cells dzeros 23)).setCells w5.heap.size 0 CR.toArray.toList = w6 from HW6.out.symm]))
        have HL5 := Lib.hid (show ∀ y : GrewOf w6, (Instr.loadAt 23 (.pointer (some ⟨gd, 0, none⟩))).run Try.prog y.1 = .ok (.agg C.toArray) y.1 from fun y => load_box HD6.out (by rw [HC.out, List.length_map]; exact HDL.out) y.2)
        have HL7 := Lib.hid (show ∀ y : GrewOf w6, (Instr.loadAt 23 (.pointer (some ⟨w3.heap.size, 0, none⟩))).run Try.prog y.1 = .ok (.agg C.toArray) y.1 from fun y => load_box HA6.out (by rw [HC.out, List.length_map]; exact HDL.out) y.2)
        have hRef6 := Lib.hid (fun (W : World) (hW : Grew w6 W) => hRef.out W (HD6.out.grew hW))
        have hqq := HNEQ.out
        refine F.wp_region_x [] (by kernel_rfl) (by kernel_rfl) (by kernel_rfl) ?_
        simp only [F.blank, List.foldl_nil]
        repeat (first
          | (refine F.wpX_value (v := ?_) rfl (by intros; simp) rfl rfl (fun x => ?_) ?_; rotate_left; (focus (simp [go_sem, hqq]; (try go_ints); first | done | (with_reducible rfl))); (simp only [Act.put, List.setIfInBounds_toArray, List.set_cons_succ, List.set_cons_zero]))
          | (refine F.wpX_value (.agg C.toArray) rfl (by intros; simp) rfl rfl (fun y => exec_load (.tmp 7) rfl rfl (HL7.out y)) ?_; (simp only [Act.put, List.setIfInBounds_toArray, List.set_cons_succ, List.set_cons_zero]))
          | (refine F.wpX_value (.agg C.toArray) rfl (by intros; simp) rfl rfl (fun y => exec_load (.tmp 5) rfl rfl (HL5.out y)) ?_; (simp only [Act.put, List.setIfInBounds_toArray, List.set_cons_succ, List.set_cons_zero]))
          | (refine F.wpX_call (o := ⟨some 49, _, _, _, _, _⟩) (.string ⟨X.toArray⟩) _ _ rfl (by intros; simp) rfl rfl (fun _ => ?_) (fun w' _ => hHex.out w') ?_; (focus (simp [go_sem]; done)); (simp only [Act.put, List.setIfInBounds_toArray, List.set_cons_succ, List.set_cons_zero]))
          | (refine F.wpX_call (o := ⟨some 51, _, _, _, _, _⟩) (.string ⟨X.toArray⟩) _ _ rfl (by intros; simp) rfl rfl (fun _ => ?_) (fun w' hw' => hRef6.out w' hw') ?_; (focus (simp [go_sem]; done)); (simp only [Act.put, List.setIfInBounds_toArray, List.set_cons_succ, List.set_cons_zero])))
        (refine F.wpX_nil ?_; intro xb wx hxg xl; obtain ⟨xf, xe⟩ := F.LikeAll.end_ xl; clear xl; subst xe; simp only [F.fill, List.foldl_nil, Act.put])
        have hB7 : Below w.heap.size w wx := hB6.trans (hxg.mono hB6.size)
        have HR7 := Lib.hid (HR6.out.grew hxg)
        have HL9 := Lib.hid (load_box HR7.out (by rw [HCR.out, List.length_map]; exact HRL.out) (Grew.refl wx))
        clear hqq hxg HRG HIN
        go_wp2_with fail
        refine (hDig.out wx).mono ?_
        rintro e w8 ⟨rfl, rfl⟩
        by_cases hall : t.length = 64 ∧ t.all ShaP.isd = true
        · have hv : (t.all ShaP.isd && decide (t.length = 64)) = true := by simp [hall.1, hall.2]
          have hE0 : E = 0 := by rw [HE.out]; unfold ShaP.readE; rw [if_pos hall]
          subst hE0
          have hHexR := Lib.hid (show ∀ W : World, Calls Try.prog 25 #[.agg CR.toArray] W fun e w' => e = .returned (.string ⟨t.toArray⟩) ∧ Grew W w' from fun W => by
            have := sha_hex R HRL.out W
            rw [← HCR.out, HR2.out] at this
            unfold ShaP.readD at this
            rw [if_pos hall, ShaP.hex_unhex t (by rw [hall.1]) hall.2] at this
            exact this)
          rw [hv]
          clear hall hv
          go_wp2_with (refine wpList_value (o := ⟨some 67, _, _, _, _, _⟩) (v := .agg CR.toArray) (w' := wx) rfl (exec_load (.tmp 9) rfl rfl HL9.out) ?_)
          refine (hHexR.out wx).mono ?_
          rintro e w9 ⟨rfl, hg9⟩
          have hB9 : Below w.heap.size w w9 := hB7.trans (hg9.mono hB7.size)
          go_wp2_with fail
          go_ret
          exact ⟨rfl, hB9⟩
        · have hv : (t.all ShaP.isd && decide (t.length = 64)) = false := by
            rw [Bool.and_eq_false_iff, decide_eq_false_iff_not]
            by_cases h1 : t.length = 64
            · left
              have : ¬ t.all ShaP.isd = true := fun h => hall ⟨h1, h⟩
              simpa using this
            · exact .inr h1
          have hE14 : E = 14 := by rw [HE.out]; unfold ShaP.readE; rw [if_neg hall]
          subst hE14
          have HZ := Lib.hid (show R = List.replicate 32 0 by rw [HR2.out]; unfold ShaP.readD; rw [if_neg hall])
          have heq := eql_same CR R HRL.out HCR.out
          rw [hv]
          clear hall hv
          go_wp2_with (first
            | (refine wpList_value (o := ⟨some 60, _, _, _, _, _⟩) (v := .agg CR.toArray) (w' := wx) rfl (exec_load (.tmp 9) rfl rfl HL9.out) ?_)
            | (refine wpList_value (o := ⟨some 61, _, _, _, _, _⟩) (v := .agg CR.toArray) (w' := wx) rfl (by rw [HCR.out, HZ.out]; kernel_rfl) ?_))
          go_ret
          exact ⟨rfl, hB7⟩
end Go.Proofs.Ytohgkadbajmphaa
