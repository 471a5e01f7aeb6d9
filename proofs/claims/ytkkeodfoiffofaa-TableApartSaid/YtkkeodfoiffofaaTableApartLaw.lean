/- The walk of rolodexlaw8.TableApart. -/
import Derived.Test.YtkkeodfoiffofaaAwake8
import Derived.Test.YtkkeodfoiffofaaTabD
import Derived.Test.YtkkeodfoiffofaaOpenI
import Derived.Test.YtkkeodfoiffofaaOpen
namespace Go.Proofs.Ytkkeodfoiffofaa
open Go.RowKit
set_option linter.unusedVariables false
attribute [local go_sem] Oper.semAt_some
set_option maxRecDepth 100000 in
set_option maxHeartbeats 4000000 in
theorem tableApart_walk (A0 : Option Addr) (n0 c0 : Nat) (l0 : List It) (A1 : Option Addr) (n1 c1 : Nat) (l1 : List It) (a2 : Int) (w : World) (b0 : ItemsIn w A0 n0 c0 l0) (z0 : n0 * 48 ≤ 140737488351232) (b1 : ItemsIn w A1 n1 c1 l1) (z1 : n1 * 48 ≤ 140737488351232) (w2 : (Lit.int .i64 a2).wf = true) :
    Calls Try.prog 9 #[.slice A0 n0 c0, .slice A1 n1 c1, .int .i64 a2] w fun e w' => e = .returned (.bool true) ∧ Below w.heap.size w w' := by
  have HAw := Lib.hid (awake8 w)
  have HI0 := Lib.hid b0.is
  have HI1 := Lib.hid b1.is
  have HQ0 := Lib.hid b0.seq
  have HQ1 := Lib.hid b1.seq
  have HW2 := Lib.hid w2
  obtain ⟨e0, he0⟩ : ∃ z, TabP.buildE l0 a2 = z := ⟨_, rfl⟩
  obtain ⟨e1, he1⟩ : ∃ z, TabP.buildE l1 a2 = z := ⟨_, rfl⟩
  have HE0 := Lib.hid he0
  have HE1 := Lib.hid he1
  clear b0 b1 w2 z0 z1 he0 he1
  refine calls_marks Try.func9 rfl ?_
  simp only [Try.ntmps9, List.size_toArray, List.length_cons, List.length_nil, Nat.reduceAdd, Nat.reduceSub, Array.replicate_succ, Array.replicate_zero, List.push_toArray, List.append_toArray, List.nil_append, List.cons_append]
  go_upto_region 3 with (go_at_call 28; ((with_reducible refine HAw.out.mono ?_); rintro e w1 ⟨rfl, hG⟩; have HG1 := Lib.hid (show Grew w w1 from hG); clear hG))
  by_cases h0 : 60 < n0
  · have i0 : (60 : Int) < (n0 : Int) := by omega
    go_wp2_with fail
    exact postM_ret01 rfl rfl ⟨rfl, HG1.out⟩
  have i0 : ¬ (60 : Int) < (n0 : Int) := by omega
  by_cases h1 : 60 < n1
  · have i1 : (60 : Int) < (n1 : Int) := by omega
    go_wp2_with fail
    exact postM_ret01 rfl rfl ⟨rfl, HG1.out⟩
  have i1 : ¬ (60 : Int) < (n1 : Int) := by omega
  have HB0 := Lib.hid (fun (W : World) (hG : Grew w W) => build_is (HI0.out.grew hG) HQ0.out HW2.out HE0.out)
  have HB1 := Lib.hid (fun (W : World) (hG : Grew w W) => build_is (HI1.out.grew hG) HQ1.out HW2.out HE1.out)
  go_upto_region 6 with (go_at_call 29; ((with_reducible refine (HB0.out _ HG1.out).mono ?_); rintro e w2 ⟨Ab, nb, cb, rfl, hO, hG⟩; have HO2 := Lib.hid hO; have HG12 := Lib.hid hG; have HG2 := Lib.hid (Grew.trans HG1.out hG); clear hO hG))
  go_upto_region 7 with (go_at_call 29; ((with_reducible refine (HB1.out _ HG2.out).mono ?_); rintro e w3 ⟨Ac, nc, cc, rfl, hO, hG⟩; have HO3 := Lib.hid hO; have HG23 := Lib.hid hG; have HG3 := Lib.hid (Grew.trans HG2.out hG); clear hO hG))
  by_cases hz0 : e0 = 0
  case neg =>
    go_wp2_with fail
    exact postM_ret01 rfl rfl ⟨rfl, HG3.out⟩
  by_cases hz1 : e1 = 0
  case neg =>
    go_wp2_with fail
    exact postM_ret01 rfl rfl ⟨rfl, HG3.out⟩
  subst hz0 hz1
  have HOp := Lib.hid (open_buildB HE0.out HQ0.out (HO2.out.below_all HG23.out))
  go_upto_region 12 with (go_at_call 31; ((with_reducible refine HOp.out.mono ?_); rintro e w4 ⟨T, A4, n4, c4, F, nf, cf, rfl, hT, hT1, hT2, hG⟩; have HT := Lib.hid hT; have HG34 := Lib.hid hG; have HG4 := Lib.hid (Grew.trans HG3.out hG); clear hT hT1 hT2 hG))
  obtain ⟨w5, hw5⟩ : ∃ W, W = w4.alloc (.cells #[.slice none 0 0] 32) := ⟨_, rfl⟩
  obtain ⟨bx, hbx⟩ : ∃ b, b = w4.heap.size := ⟨_, rfl⟩
  have HBX := Lib.hid (show Boxed w5 bx 32 (.slice none 0 0) by rw [hw5, hbx]; exact Boxed.new w4 _ _)
  have HG45 := Lib.hid (show Grew w4 w5 by rw [hw5]; exact grew_new w4 _)
  have HW5 := Lib.hid (And.intro hw5 hbx)
  have HSR := Lib.hid (TabP.goodL_srt (TabP.buildE_zero HE0.out).1)
  have HFr := Lib.hid (show Calls Try.prog 40 #[.pointer (some ⟨T, 0, none⟩), .string ⟨#[]⟩] w5 fun e w' => ∃ B A' n' c', e = .returned (.func (.func 71) #[] #[.pointer (some ⟨B, 0, none⟩)]) ∧ Boxed w' B 32 (.slice A' n' c') ∧ Is w' w'.heap.size A' n' c' l0 ∧ Grew w5 w' from by
    have := tab_from [] w5 (HT.out.grew HG45.out) HSR.out.1
    rw [TabP.frm_nil HSR.out.2] at this
    exact this)
  clear hw5 hbx
  go_upto_region 13 with fail
  rw [← HW5.out.1, ← HW5.out.2]
  go_wp2_with (go_at_call 40; ((with_reducible refine HFr.out.mono ?_); rintro e w6 ⟨B, A6, n6, c6, rfl, hB, hI, hG⟩; have HBv := Lib.hid hB; have HIv := Lib.hid hI; have HG56 := Lib.hid hG; clear hB hI hG))
  have HGV := Lib.hid (values1_gives B n6 c6 A6 l0 w6 HBv.out.cell HIv.out)
  have HBX6 := Lib.hid (boxed_grew HBX.out HG56.out)
  have HG6 := Lib.hid (Grew.trans HG4.out (Grew.trans HG45.out HG56.out))
  have HL0 := Lib.hid (show l0.length ≤ 60 by have := HI0.out.len; omega)
  have HN := Lib.hid (And.intro HW5.out.2 (show bx < w6.heap.size from HBX6.out.lt))
  have HKD : Hid (l0 ≠ [] → ∀ g, keepsvalues1 B A6 l0 g → g < w6.heap.size ∧ g ≠ bx) := Lib.hid fun hne g hg => ⟨HGV.out.1 g hg, keeps_box HBX6.out HBv.out HIv.out hne g hg⟩
  have HG46 := Lib.hid (Grew.trans HG45.out HG56.out)
  clear HFr HW5 HB0 HB1 HOp HAw HBX
  refine wp_rangeIz 52 13 (gf := 71) (lb := #[.pointer (some ⟨B, 0, none⟩)]) (K := keepsvalues1 B A6 l0) (xs := l0) rfl (enters_of Try.func71 (by kernel_rfl) rfl) HGV.out.1 HGV.out.2
    (fun pre W => ∃ A n c, Boxed W bx 32 (.slice A n c) ∧ OwnI W w6.heap.size A n c pre ∧ Below w4.heap.size w4 W) (fun _ _ _ => False)
    (fun s W W' h _ ha => ?_) (fun _ _ _ _ h _ _ => h) ⟨none, 0, 0, HBX6.out, OwnI.nil _ _, HG46.out⟩ ?assign ?body ?done ?stop
  · obtain ⟨A, n, c, h1, h2, h3⟩ := h
    exact ⟨A, n, c, ha.boxed h1, ha.ownI h2, ha.kept h3 HG46.out.size⟩
  case assign =>
    intro l x W K' hK
    gi_wp2
    exact hK
  case body =>
    rintro l pre x b W ⟨A, n, c, hBx, hO, hB⟩ hsz hIb hb hlen
    have c0 := hBx.cell
    obtain ⟨q0, q1, q2, q3⟩ := range_cells hIb.range
    have hn := hO.len
    have hxl := HL0.out
    have hKD := HKD.out (by intro e; rw [e] at hlen; simp at hlen)
    have HO := Lib.hid hO
    have HBx := Lib.hid hBx
    have HB := Lib.hid hB
    have HKD1 := Lib.hid hKD
    clear hBx hO hB hIb hKD
    simp only [actI, List.setIfInBounds_toArray, List.set_cons_zero, List.set_cons_succ]
    gi_wp2_with (gi_at_builtin; refine wpListIn_appI rfl (.tmp 53) (.tmp 55) rfl w6.heap.size A n c pre rfl (HO.out.alloc _) (some ⟨W.heap.size, 0, none⟩) 1 1 (W.heap.size + 1) [x] rfl rfl (IRow.one W x _ _) (by omega) (by simp; omega) ?_; intro A3 c3 w3 hO3 hg3 hB3; have HCo := Lib.hid (collectI HBx.out HO.out HB.out hO3 hg3 HKD1.out hsz HG46.out.size (by rw [HN.out.1]; exact Nat.le_refl _)); have r1 := HCo.out.1; have r2 := HCo.out.2.1; clear hO3 hg3 hB3)
    exact ⟨HCo.out.2.2.1, HCo.out.2.2.2.1, A3, _, c3, HCo.out.2.2.2.2.1, HCo.out.2.2.2.2.2.1, HCo.out.2.2.2.2.2.2⟩
  case done =>
    rintro D W hD hsz ⟨A, n, c, hBx, hO, hB⟩ hd'
    have cx := hBx.cell
    have HM := Lib.hid ((Marks.nil w6.heap.size W).cons hD hd' (fun m h => by cases h))
    have HO := Lib.hid hO
    have HG4W := Lib.hid (show Grew w4 W from hB)
    have hsz2 := HG46.out.size
    clear hBx hO hB hd' HKD HGV HL0
    have hbW : w6.heap.size ≤ W.heap.size := hsz
    have HBd := Lib.hid (build_is (HO.out.is (Nat.le_refl _)) HQ0.out HW2.out HE0.out)
    go_upto_region 17 with (go_at_call 29; ((with_reducible refine HBd.out.mono ?_); rintro e w8 ⟨Ad, nd, cd, rfl, hO, hG⟩; have HO8 := Lib.hid hO; have HGW8 := Lib.hid hG; clear hO hG))
    have HG48 := Lib.hid (Grew.trans HG4W.out HGW8.out)
    have HG38 := Lib.hid (Grew.trans HG34.out HG48.out)
    have HG28 := Lib.hid (Grew.trans HG23.out HG38.out)
    have HG08 := Lib.hid (Grew.trans HG2.out HG28.out)
    have HOa := Lib.hid (HO2.out.below_all HG28.out)
    have HOb := Lib.hid (HO3.out.below_all HG38.out)
    have HSm := Lib.hid (fun V (hG : Grew w8 V) => show Calls Try.prog 20 #[.slice A0 n0 c0, .slice A1 n1 c1] V fun e w' => e = .returned (.bool (decide (l0 = l1))) ∧ Grew V w' from
      ref_same A0 A1 n0 c0 n1 c1 l0 l1 V (HI0.out.grew (Grew.trans HG08.out hG)) (HI1.out.grew (Grew.trans HG08.out hG)))
    have hda := HOa.out.len
    have hdb := HOb.out.len
    have hdc := HO8.out.len
    have ra := HOa.out.row
    have rb := HOb.out.row
    have rc := HO8.out.row
    have key : (TabP.buildB l0 a2 = TabP.buildB l1 a2) ↔ l0 = l1 := ⟨fun h => buildB_inj HE0.out HE1.out HQ0.out HQ1.out h, fun h => by rw [h]⟩
    obtain ⟨ba, hba⟩ : ∃ b, b = TabP.buildB l0 a2 := ⟨_, rfl⟩
    obtain ⟨bb, hbb⟩ : ∃ b, b = TabP.buildB l1 a2 := ⟨_, rfl⟩
    rw [← hba] at hda hdc ra rc key
    rw [← hbb] at hdb rb key
    clear hba hbb
    have HR := Lib.hid (And.intro ra (And.intro rb rc))
    clear ra rb rc
    by_cases hd : l0 = l1
    · have hbb : ba = bb := key.2 hd
      subst hbb
      have hdd : decide (l0 = l1) = true := decide_eq_true hd
      rw [hdd] at HSm
      clear key hd hdd
      refine wp_region_x [] (by kernel_rfl) (by kernel_rfl) (by kernel_rfl) ?_
      simp only [blank, List.foldl_nil]
      repeat (first
        | (refine wpX_value (v := ?_) rfl (by intros; simp) rfl rfl (fun x => ?_) ?_; rotate_left; (focus (simp [go_sem]; (try go_ints); first | done | (with_reducible rfl))); (simp only [Act.put, List.setIfInBounds_toArray, List.set_cons_succ, List.set_cons_zero]))
        | (refine wpX_str8 Ad nd cd w8.heap.size ba rfl rfl rfl rfl hdc (Nat.le_refl _) HR.out.2.2 ?_; (simp only [Act.put, List.setIfInBounds_toArray, List.set_cons_succ, List.set_cons_zero]))
        | (refine wpX_str8 Ab nb cb w8.heap.size ba rfl rfl rfl rfl hda (Nat.le_refl _) HR.out.1 ?_; (simp only [Act.put, List.setIfInBounds_toArray, List.set_cons_succ, List.set_cons_zero]))
        | (refine wpX_str8 Ac nc cc w8.heap.size ba rfl rfl rfl rfl hdb (Nat.le_refl _) HR.out.2.1 ?_; (simp only [Act.put, List.setIfInBounds_toArray, List.set_cons_succ, List.set_cons_zero]))
        | (refine wpX_call (.bool true) _ _ rfl (by intros; simp) rfl rfl (fun x => ?_) (fun V hG => HSm.out V hG) ?_; (focus (simp [go_sem]; done)); (simp only [Act.put, List.setIfInBounds_toArray, List.set_cons_succ, List.set_cons_zero])))
      (refine wpX_nil ?_; intro xb wx hxg xl; obtain ⟨xf, xe⟩ := LikeAll.end_ xl; clear xl; subst xe; simp only [fill, List.foldl_nil, Act.put])
      go_wp2_with fail
      exact postM_ret1 rfl (Marks.apart (E := 0) HM.out (KeepsOthers.grew (Grew.trans HGW8.out hxg))) (by have h1 := HGW8.out.size; have h2 := hxg.size; omega) (fun W' ha => ⟨rfl, ha.kept (Grew.trans HG08.out hxg) HG6.out.size⟩)
    · have hne : (ba == bb) = false := by
        rw [beq_eq_false_iff_ne]
        exact fun h => hd (key.1 h)
      have hdd : decide (l0 = l1) = false := decide_eq_false hd
      rw [hdd] at HSm
      clear key hd hdd
      refine wp_region_x [] (by kernel_rfl) (by kernel_rfl) (by kernel_rfl) ?_
      simp only [blank, List.foldl_nil]
      repeat (first
        | (refine wpX_value (v := ?_) rfl (by intros; simp) rfl rfl (fun x => ?_) ?_; rotate_left; (focus (simp [go_sem, hne]; (try go_ints); first | done | (with_reducible rfl))); (simp only [Act.put, List.setIfInBounds_toArray, List.set_cons_succ, List.set_cons_zero]))
        | (refine wpX_str8 Ad nd cd w8.heap.size ba rfl rfl rfl rfl hdc (Nat.le_refl _) HR.out.2.2 ?_; (simp only [Act.put, List.setIfInBounds_toArray, List.set_cons_succ, List.set_cons_zero]))
        | (refine wpX_str8 Ab nb cb w8.heap.size ba rfl rfl rfl rfl hda (Nat.le_refl _) HR.out.1 ?_; (simp only [Act.put, List.setIfInBounds_toArray, List.set_cons_succ, List.set_cons_zero]))
        | (refine wpX_str8 Ac nc cc w8.heap.size bb rfl rfl rfl rfl hdb (Nat.le_refl _) HR.out.2.1 ?_; (simp only [Act.put, List.setIfInBounds_toArray, List.set_cons_succ, List.set_cons_zero]))
        | (refine wpX_call (.bool false) _ _ rfl (by intros; simp) rfl rfl (fun x => ?_) (fun V hG => HSm.out V hG) ?_; (focus (simp [go_sem]; done)); (simp only [Act.put, List.setIfInBounds_toArray, List.set_cons_succ, List.set_cons_zero])))
      (refine wpX_nil ?_; intro xb wx hxg xl; obtain ⟨xf, xe⟩ := LikeAll.end_ xl; clear xl; subst xe; simp only [fill, List.foldl_nil, Act.put])
      clear hne
      go_wp2_with fail
      exact postM_ret1 rfl (Marks.apart (E := 0) HM.out (KeepsOthers.grew (Grew.trans HGW8.out hxg))) (by have h1 := HGW8.out.size; have h2 := hxg.size; omega) (fun W' ha => ⟨rfl, ha.kept (Grew.trans HG08.out hxg) HG6.out.size⟩)
  case stop =>
    rintro D c pre W _ _ _ h _
    exact h.elim
end Go.Proofs.Ytkkeodfoiffofaa
namespace Go.Proofs.Ytkkeodfoiffofaa.lawTableApart
open Go.ChangeShapes Go.WideShapes Go.ChangeAt Go.RowKit
open Go.ChangeMaps (open_string shut_string)
set_option linter.unusedVariables false
set_option maxRecDepth 100000 in
theorem contract (H : Type) (enc : TypeId × Value → H) (W : World) (base : Nat) (args : Array Value) (ds gs : List (DataW H)) (before : List MemPlace)
    (hval : ∀ (j : Nat) t v, Try.f9.params[j]? = some t → args[j]? = some v → Value.okWide Try.prog W .any base t v)
    (hW : DataW.Whole enc Try.prog Try.f9.params.toList Rows.tableApartSpec.vars false W args.toList ds gs before)
    (hsz : (DataW.weightsEach Try.prog (Try.f9.params.toList ++ Rows.tableApartSpec.plain.varTypes Try.prog) (ds ++ gs)).all (· ≤ reachBytes) = true) :
    Calls Try.prog 9 args W fun e W' => ∃ v, e = .returned v ∧ Rows.tableApartSpec.post enc Try.prog Try.f9 false true false false W args v W' := by
  have hW' := hW
  obtain ⟨p, q, hA0, hV, rfl, hfz, hnd⟩ := hW
  have hA : DataW.TrodAll enc Try.prog W 0 (fun _ => true) true Try.f9.params.toList args.toList ds p := hA0
  rw [Try.params9] at hA hval hsz
  obtain ⟨v0, vs0, d0, ds0, p0, q0, hargs, rfl, rfl, h0, r0⟩ := trodAll_cons hA
  obtain ⟨v1, vs1, d1, ds1, p1, q1, rfl, rfl, rfl, h1, r1⟩ := trodAll_cons r0
  obtain ⟨v2, vs2, d2, ds2, p2, q2, rfl, rfl, rfl, h2, r2⟩ := trodAll_cons r1
  obtain ⟨rfl, rfl, rfl⟩ := trodAll_nil r2
  obtain rfl : args = #[v0, v1, v2] := by cases args; simp_all
  obtain ⟨rfl, rfl⟩ := trodVars_none hV
  obtain ⟨A0, n0, c0, rfl⟩ := okWide_slice Try.underlying32 (hval 0 32 v0 rfl rfl)
  have k0 := h0
  have lt0 : ∀ x ∈ p0, x.block < W.heap.size := by obtain ⟨m, hm⟩ := k0; exact DataW.trod_lt m _ _ _ hm
  obtain ⟨fuel0, hf0⟩ := h0
  obtain ⟨l0, b0, u0, hd0⟩ := open_items   hf0
  have z0 : n0 * 48 ≤ 140737488351232 := by
    rcases hd0 with ⟨_, h⟩ | ⟨es, sp, h, hl⟩
    · omega
    · have hb : Try.prog.bytesOf 29 = 48 := by kernel_rfl
      have := sized_slice hsz (j := 0) (t := 32) (e := 29) (elems := es) (spare := sp) rfl (by simpa using h) Try.underlying32
      rw [hb] at this
      unfold reachBytes at this
      omega
  obtain ⟨A1, n1, c1, rfl⟩ := okWide_slice Try.underlying32 (hval 1 32 v1 rfl rfl)
  have k1 := h1
  have lt1 : ∀ x ∈ p1, x.block < W.heap.size := by obtain ⟨m, hm⟩ := k1; exact DataW.trod_lt m _ _ _ hm
  obtain ⟨fuel1, hf1⟩ := h1
  obtain ⟨l1, b1, u1, hd1⟩ := open_items   hf1
  have z1 : n1 * 48 ≤ 140737488351232 := by
    rcases hd1 with ⟨_, h⟩ | ⟨es, sp, h, hl⟩
    · omega
    · have hb : Try.prog.bytesOf 29 = 48 := by kernel_rfl
      have := sized_slice hsz (j := 1) (t := 32) (e := 29) (elems := es) (spare := sp) rfl (by simpa using h) Try.underlying32
      rw [hb] at this
      unfold reachBytes at this
      omega
  obtain ⟨a2, rfl, rfl, rfl, w2⟩ := open_int Try.underlying3 (hval 2 3 v2 rfl rfl) h2
  clear hA0
  refine (tableApart_walk A0 n0 c0 l0 A1 n1 c1 l1 a2 W b0 z0 b1 z1 w2).mono fun e W' ⟨he, bel⟩ => ?_
  subst he
  exact ⟨_, rfl, _, _, _, [], _, [], hW', trodAll_mk1 (shut_bool Try.underlying4 _), (trodAll_cons_mk (Below.trod laidOut (by kernel_rfl) (of_decide_eq_true (by kernel_rfl)) k0 bel lt0) (trodAll_cons_mk (Below.trod laidOut (by kernel_rfl) (of_decide_eq_true (by kernel_rfl)) k1 bel lt1) (trodAll_cons_mk (shut_int Try.underlying3 w2) trodAll_mk0))), rfl, bel.frame _, fun h => by cases h⟩
set_option maxRecDepth 100000 in
theorem lifted (os : Os) (started : os.Started) (H : Type) (enc : TypeId × Value → H) :
    ReturnsInHanded {} Try.checked os 9 .any (Rows.tableApartSpec.pre6 enc Try.prog Try.f9 Rows.tableApartRow.domain false) (Rows.tableApartSpec.post enc Try.prog Try.f9 false true false false) := by
  refine returnsInHanded_of_change_sized (C := Try.checked) ownKnob_none started (by kernel_rfl) Try.func9
    (ChangeSpec.witness6 (enc := enc) (C := Try.checked) false ⟨#[], #[.slice none 0 0, .slice none 0 0, .int .i64 0], []⟩ 8 (by kernel_rfl) (by kernel_rfl) (by kernel_rfl) (by kernel_rfl)) ?_
  intro W base args ds gs before hval hW _ hsz _
  exact contract H enc W base args ds gs before hval hW hsz
theorem over : Rows.tableApartRow.holds Try.pinned (OpenSpec.ofChange Rows.tableApartSpec) :=
  OpenClaim.holds_of_wide 9 Try.f9 rfl rfl rfl rfl rfl rfl rfl ⟨rfl, rfl, rfl, rfl, rfl⟩ rfl rfl rfl rfl rfl (by kernel_rfl) Try.func9 (by kernel_rfl)
    (of_decide_eq_true (by kernel_rfl)) (by unfold Func.isWrapper; first | (rw [if_pos (by decide +kernel)]; kernel_rfl) | (rw [if_neg (by decide +kernel)]; exact ⟨rfl, rfl⟩))
    (fun os started H enc _ => lifted os started H enc)
theorem proved : Rows.TableApartSaid := over
#print axioms proved
end Go.Proofs.Ytkkeodfoiffofaa.lawTableApart
