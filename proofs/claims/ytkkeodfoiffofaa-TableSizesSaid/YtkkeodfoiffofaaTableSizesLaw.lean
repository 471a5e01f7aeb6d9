/- The walk of rolodexlaw8.TableSizes. -/
import Derived.Test.YtkkeodfoiffofaaAwake8
import Derived.Test.YtkkeodfoiffofaaTabD
import Derived.Test.YtkkeodfoiffofaaOpenI
import Derived.Test.YtkkeodfoiffofaaOpen
namespace Go.Proofs.Ytkkeodfoiffofaa
open Go.RowKit
set_option linter.unusedVariables false
attribute [local go_sem] Oper.semAt_some
set_option maxRecDepth 100000 in
set_option maxHeartbeats 4000000 in
theorem tableSizes_walk (A0 : Option Addr) (n0 c0 : Nat) (l0 : List It) (a1 a2 : Int) (s3 : ByteArray) (a4 : Int) (w : World) (b0 : ItemsIn w A0 n0 c0 l0) (z0 : n0 * 48 ≤ 140737488351232) (w1 : (Lit.int .i64 a1).wf = true) (w2 : (Lit.int .i64 a2).wf = true) (z3 : s3.data.toList.length ≤ 140737488351232) (w4 : (Lit.int .u64 a4).wf = true) :
    Calls Try.prog 10 #[.slice A0 n0 c0, .int .i64 a1, .int .i64 a2, .string s3, .int .u64 a4] w fun e w' => e = .returned (.bool true) ∧ Below w.heap.size w w' := by
  have HAw := Lib.hid (awake8 w)
  have HI0 := Lib.hid b0.is
  have HQ0 := Lib.hid b0.seq
  have HW1 := Lib.hid w1
  have HW2 := Lib.hid w2
  obtain ⟨key, hkey⟩ : ∃ key : List UInt8, Value.string s3 = sv key := ⟨s3.data.toList, by simp [sv]⟩
  obtain ⟨q, hq⟩ : ∃ q : Nat, a4 = (q : Int) := ⟨a4.toNat, by have := wf_u64 w4; omega⟩
  subst hq
  rw [hkey]
  obtain ⟨e1, he1⟩ : ∃ z, TabP.buildE l0 a1 = z := ⟨_, rfl⟩
  obtain ⟨e2, he2⟩ : ∃ z, TabP.buildE l0 a2 = z := ⟨_, rfl⟩
  have HE1 := Lib.hid he1
  have HE2 := Lib.hid he2
  clear b0 w1 w2 w4 z0 z3 he1 he2 hkey
  refine calls_marks Try.func10 rfl ?_
  simp only [Try.ntmps10, List.size_toArray, List.length_cons, List.length_nil, Nat.reduceAdd, Nat.reduceSub, Array.replicate_succ, Array.replicate_zero, List.push_toArray, List.append_toArray, List.nil_append, List.cons_append]
  go_upto_region 3 with (go_at_call 28; ((with_reducible refine HAw.out.mono ?_); rintro e w1 ⟨rfl, hG⟩; have HG1 := Lib.hid (show Grew w w1 from hG); clear hG))
  by_cases h0 : 100 < n0
  · have i0 : (100 : Int) < (n0 : Int) := by omega
    go_wp2_with fail
    exact postM_ret01 rfl rfl ⟨rfl, HG1.out⟩
  have i0 : ¬ (100 : Int) < (n0 : Int) := by omega
  have HB1 := Lib.hid (fun (W : World) (hG : Grew w W) => build_is (HI0.out.grew hG) HQ0.out HW1.out HE1.out)
  have HB2 := Lib.hid (fun (W : World) (hG : Grew w W) => build_is (HI0.out.grew hG) HQ0.out HW2.out HE2.out)
  go_upto_region 6 with (go_at_call 29; ((with_reducible refine (HB1.out _ HG1.out).mono ?_); rintro e w2 ⟨Ab, nb, cb, rfl, hO, hG⟩; have HO2 := Lib.hid hO; have HG12 := Lib.hid hG; have HG2 := Lib.hid (Grew.trans HG1.out hG); clear hO hG))
  go_upto_region 7 with (go_at_call 29; ((with_reducible refine (HB2.out _ HG2.out).mono ?_); rintro e w3 ⟨Ac, nc, cc, rfl, hO, hG⟩; have HO3 := Lib.hid hO; have HG23 := Lib.hid hG; have HG3 := Lib.hid (Grew.trans HG2.out hG); clear hO hG))
  by_cases hz1 : e1 = 0
  case neg =>
    go_wp2_with fail
    exact postM_ret01 rfl rfl ⟨rfl, HG3.out⟩
  by_cases hz2 : e2 = 0
  case neg =>
    go_wp2_with fail
    exact postM_ret01 rfl rfl ⟨rfl, HG3.out⟩
  subst hz1 hz2
  have HOp := Lib.hid (open_buildB HE1.out HQ0.out (HO2.out.below_all HG23.out))
  go_upto_region 10 with (go_at_call 31; ((with_reducible refine HOp.out.mono ?_); rintro e w4 ⟨T1, A4, n4, c4, F4, nf4, cf4, rfl, hT, hT1, hT2, hG⟩; have HT1 := Lib.hid hT; have HG34 := Lib.hid hG; have HG4 := Lib.hid (Grew.trans HG3.out hG); clear hT hT1 hT2 hG))
  have HOq := Lib.hid (open_buildB HE2.out HQ0.out (HO3.out.below_all HG34.out))
  go_upto_region 11 with (go_at_call 31; ((with_reducible refine HOq.out.mono ?_); rintro e w5 ⟨T2, A5, n5, c5, F5, nf5, cf5, rfl, hT, hT1, hT2, hG⟩; have HT2 := Lib.hid hT; have HT1 := Lib.hid (HT1.out.grew hG); have HG5 := Lib.hid (Grew.trans HG4.out hG); clear hT hT1 hT2 hG))
  have HSR := Lib.hid (TabP.goodL_srt (TabP.buildE_zero HE1.out).1)
  obtain ⟨x0, ok, hx0⟩ : ∃ (x0 : It) (ok : Bool), getV (ItP.get l0 key q) = .tuple #[iv x0, .bool ok] := ⟨_, _, rfl⟩
  have HGt : Hid (∀ W, Grew w5 W → Calls Try.prog 37 #[.pointer (some ⟨T1, 0, none⟩), sv key, .int .u64 (q : Int)] W fun e w' => e = .returned (.tuple #[.agg #[.string ⟨x0.key.toArray⟩, .int .u64 (x0.seq : Int), .bool x0.gone, .string ⟨x0.val.toArray⟩], .bool ok]) ∧ Grew W w') := Lib.hid fun W hG => by
    have := tab_get key q W (HT1.out.grew hG) HSR.out.1
    rw [hx0] at this
    exact this
  have HGu : Hid (∀ W, Grew w5 W → Calls Try.prog 37 #[.pointer (some ⟨T2, 0, none⟩), sv key, .int .u64 (q : Int)] W fun e w' => e = .returned (.tuple #[.agg #[.string ⟨x0.key.toArray⟩, .int .u64 (x0.seq : Int), .bool x0.gone, .string ⟨x0.val.toArray⟩], .bool ok]) ∧ Grew W w') := Lib.hid fun W hG => by
    have := tab_get key q W (HT2.out.grew hG) HSR.out.1
    rw [hx0] at this
    exact this
  clear hx0 HAw HB1 HB2 HOp HOq
  go_upto_region 14 with (go_at_call 37; ((with_reducible refine (HGt.out _ (Grew.refl _)).mono ?_); rintro e w6 ⟨rfl, hG⟩; have HG6 := Lib.hid (show Grew w5 w6 from hG); clear hG))
  obtain ⟨w7, hw7⟩ : ∃ W, W = w6.alloc (.cells #[.string ⟨x0.key.toArray⟩, .int .u64 (x0.seq : Int), .bool x0.gone, .string ⟨x0.val.toArray⟩] 29) := ⟨_, rfl⟩
  obtain ⟨x7, hx7⟩ : ∃ b, b = w6.heap.size := ⟨_, rfl⟩
  have HX7 := Lib.hid (show IBox w7 x7 x0 by rw [hw7, hx7]; exact heap_alloc_new w6 _)
  have HG7 := Lib.hid (show Grew w5 w7 by rw [hw7]; exact Grew.trans HG6.out (grew_new w6 _))
  rw [← hw7, ← hx7]
  clear hw7 hx7
  go_upto_region 15 with (go_at_call 37; ((with_reducible refine (HGu.out _ HG7.out).mono ?_); rintro e w8 ⟨rfl, hG⟩; have HG8 := Lib.hid (Grew.trans HG7.out hG); have HX7 := Lib.hid (HX7.out.grew hG); clear hG))
  obtain ⟨w9, hw9⟩ : ∃ W, W = w8.alloc (.cells #[.string ⟨x0.key.toArray⟩, .int .u64 (x0.seq : Int), .bool x0.gone, .string ⟨x0.val.toArray⟩] 29) := ⟨_, rfl⟩
  obtain ⟨x9, hx9⟩ : ∃ b, b = w8.heap.size := ⟨_, rfl⟩
  have HX9 := Lib.hid (show IBox w9 x9 x0 by rw [hw9, hx9]; exact heap_alloc_new w8 _)
  have HG9 := Lib.hid (show Grew w5 w9 by rw [hw9]; exact Grew.trans HG8.out (grew_new w8 _))
  have HX7 := Lib.hid (show IBox w9 x7 x0 by rw [hw9]; exact HX7.out.alloc _)
  rw [← hw9, ← hx9]
  clear hw9 hx9
  obtain ⟨wb, hwb⟩ : ∃ W, W = (w9.alloc (.cells #[.slice none 0 0] 32)).alloc (.cells #[.slice none 0 0] 32) := ⟨_, rfl⟩
  obtain ⟨bx, hbx⟩ : ∃ b, b = w9.heap.size := ⟨_, rfl⟩
  obtain ⟨by', hby⟩ : ∃ b, b = w9.heap.size + 1 := ⟨_, rfl⟩
  have HBX := Lib.hid (show Boxed wb bx 32 (.slice none 0 0) by rw [hwb, hbx]; exact (Boxed.new w9 _ _).alloc _)
  have HBY := Lib.hid (show Boxed wb by' 32 (.slice none 0 0) by rw [hwb, hby]; have := Boxed.new (w9.alloc (.cells #[.slice none 0 0] 32)) 32 (.slice none 0 0); simpa using this)
  have HG9b := Lib.hid (show Grew w9 wb by rw [hwb]; exact (grew_new w9 _).trans (grew_new _ _))
  have HXY := Lib.hid (show bx = w9.heap.size ∧ by' = w9.heap.size + 1 ∧ x7 < bx ∧ x9 < bx from ⟨hbx, hby, by rw [hbx]; exact HX7.out.lt, by rw [hbx]; exact HX9.out.lt⟩)
  have HWb := Lib.hid (And.intro hwb (And.intro hbx hby))
  clear hwb hbx hby
  go_upto_region 17 with fail
  rw [← HWb.out.1, ← HWb.out.2.2, ← HWb.out.2.1]
  clear HWb
  obtain ⟨ls, hls⟩ : ∃ ls, ls = l0.drop (TabP.frm key l0) := ⟨_, rfl⟩
  have HLs := Lib.hid (show ls.length ≤ 100 by have := HI0.out.len; rw [hls, List.length_drop]; omega)
  have HGb := Lib.hid (Grew.trans HG9.out HG9b.out)
  have HFr := Lib.hid (fun W (hG : Grew w5 W) => show Calls Try.prog 40 #[.pointer (some ⟨T1, 0, none⟩), sv key] W fun e w' => ∃ B A' n' c', e = .returned (.func (.func 71) #[] #[.pointer (some ⟨B, 0, none⟩)]) ∧ Boxed w' B 32 (.slice A' n' c') ∧ Is w' w'.heap.size A' n' c' ls ∧ Grew W w' from by
    have := tab_from key W (HT1.out.grew hG) HSR.out.1
    rw [← hls] at this
    exact this)
  have HFs := Lib.hid (fun W (hG : Grew w5 W) => show Calls Try.prog 40 #[.pointer (some ⟨T2, 0, none⟩), sv key] W fun e w' => ∃ B A' n' c', e = .returned (.func (.func 71) #[] #[.pointer (some ⟨B, 0, none⟩)]) ∧ Boxed w' B 32 (.slice A' n' c') ∧ Is w' w'.heap.size A' n' c' ls ∧ Grew W w' from by
    have := tab_from key W (HT2.out.grew hG) HSR.out.1
    rw [← hls] at this
    exact this)
  clear hls
  go_wp2_with (go_at_call 40; ((with_reducible refine (HFr.out _ HGb.out).mono ?_); rintro e w12 ⟨B1, A6, n6, c6, rfl, hB, hI, hG⟩; have HBv := Lib.hid hB; have HIv := Lib.hid hI; have HGb12 := Lib.hid hG; clear hB hI hG))
  have HGV1 := Lib.hid (values1_gives B1 n6 c6 A6 ls w12 HBv.out.cell HIv.out)
  have HBX12 := Lib.hid (boxed_grew HBX.out HGb12.out)
  have HBY12 := Lib.hid (boxed_grew HBY.out HGb12.out)
  have HG12b := Lib.hid (Grew.trans HG9b.out HGb12.out)
  have HX712 := Lib.hid (HX7.out.grew HG12b.out)
  have HX912 := Lib.hid (HX9.out.grew HG12b.out)
  have HKD1a : Hid (ls ≠ [] → ∀ g, keepsvalues1 B1 A6 ls g → g < w12.heap.size ∧ g ≠ bx) := Lib.hid fun hne g hg => ⟨HGV1.out.1 g hg, keeps_box HBX12.out HBv.out HIv.out hne g hg⟩
  have HXY12 := Lib.hid (show bx < w12.heap.size ∧ by' < w12.heap.size ∧ w5.heap.size ≤ bx ∧ bx < by' from ⟨HBX12.out.lt, HBY12.out.lt, by rw [HXY.out.1]; exact HG9.out.size, by rw [HXY.out.1, HXY.out.2.1]; omega⟩)
  have HG512 := Lib.hid (Grew.trans HGb.out HGb12.out)
  clear HFr HGt HGu HBX HBY HX7 HX9
  refine wp_rangeIz 81 23 (gf := 71) (lb := #[.pointer (some ⟨B1, 0, none⟩)]) (K := keepsvalues1 B1 A6 ls) (xs := ls) rfl (enters_of Try.func71 (by kernel_rfl) rfl) HGV1.out.1 HGV1.out.2
    (fun pre W => ∃ A n c, Col bx w12 A n c pre W) (fun _ _ _ => False)
    (fun s W W' ⟨A, n, c, h⟩ _ ha => ⟨A, n, c, h.apart ha HXY12.out.1⟩) (fun _ _ _ _ h _ _ => h) ⟨none, 0, 0, Col.nil HBX12.out⟩ ?assign ?body ?done ?stop
  case assign =>
    intro l x W K' hK
    gi_wp2
    exact hK
  case body =>
    rintro l pre x b W ⟨A, n, c, hC⟩ hsz hIb hb hlen
    have cx := hC.box.cell
    obtain ⟨q0, q1, q2, q3⟩ := range_cells hIb.range
    have hn := hC.own.len
    have hxl := HLs.out
    have hKD := HKD1a.out (by intro e; rw [e] at hlen; simp at hlen)
    have HC := Lib.hid hC
    have HKD1 := Lib.hid hKD
    clear hC hIb hKD
    simp only [actI, List.setIfInBounds_toArray, List.set_cons_zero, List.set_cons_succ]
    gi_wp2_with (gi_at_builtin; refine wpListIn_appI rfl (.tmp 82) (.tmp 84) rfl w12.heap.size A n c pre rfl (HC.out.own.alloc _) (some ⟨W.heap.size, 0, none⟩) 1 1 (W.heap.size + 1) [x] rfl rfl (IRow.one W x _ _) (by omega) (by simp; omega) ?_; intro A3 c3 w3 hO3 hg3 hB3; have HCo := Lib.hid (HC.out.round hsz HXY12.out.1 hO3 hg3 HKD1.out); have r1 := HCo.out.1; have r2 := HCo.out.2.1; clear hO3 hg3 hB3)
    exact ⟨HCo.out.2.2.1, HCo.out.2.2.2.1, A3, _, c3, HCo.out.2.2.2.2⟩
  case stop =>
    rintro D c pre W _ _ _ h _
    exact h.elim
  rintro D1 W1 hD hsz ⟨Am, nm, cm, hC⟩ hd'
  have HC1 := Lib.hid hC
  have HD1 := Lib.hid (And.intro hD (And.intro hd' (show D1 < W1.heap.size from lt_of_blk hd')))
  have HS1 := Lib.hid hsz
  have HG5W := Lib.hid (show Grew w5 W1 from Below.trans (show Below w5.heap.size w5 w12 from HG512.out) (hC.below.mono HXY12.out.2.2.1))
  have HBXm := Lib.hid hC.box
  have HBYm := Lib.hid (hC.boxed HBY12.out (by have := HXY12.out.2.2.2; omega))
  have HX7m := Lib.hid (hC.ibox HX712.out (by have := HXY.out; omega))
  have HX9m := Lib.hid (hC.ibox HX912.out (by have := HXY.out; omega))
  have HOm := Lib.hid hC.own
  clear hC hD hd' hsz HKD1a HGV1 HX712 HX912 HBX12 HBY12 HBv HIv
  go_wp2_with (go_at_call 40; ((with_reducible refine (HFs.out _ HG5W.out).mono ?_); rintro e w14 ⟨B2, A7, n7, c7, rfl, hB, hI, hG⟩; have HBv := Lib.hid hB; have HIv := Lib.hid hI; have HGW14 := Lib.hid hG; clear hB hI hG))
  have HGV2 := Lib.hid (values1_gives B2 n7 c7 A7 ls w14 HBv.out.cell HIv.out)
  have HBX14 := Lib.hid (boxed_grew HBXm.out HGW14.out)
  have HBY14 := Lib.hid (boxed_grew HBYm.out HGW14.out)
  have HX714 := Lib.hid (HX7m.out.grew HGW14.out)
  have HX914 := Lib.hid (HX9m.out.grew HGW14.out)
  have HO14 := Lib.hid (HOm.out.below_all HGW14.out)
  have HKD2a : Hid (ls ≠ [] → ∀ g, keepsvalues1 B2 A7 ls g → g < w14.heap.size ∧ g ≠ by') := Lib.hid fun hne g hg => ⟨HGV2.out.1 g hg, keeps_box HBY14.out HBv.out HIv.out hne g hg⟩
  have HXY14 := Lib.hid (show by' < w14.heap.size ∧ W1.heap.size ≤ w14.heap.size from ⟨HBY14.out.lt, HGW14.out.size⟩)
  clear HFs HX7m HX9m HBXm HBYm
  refine wp_rangeIz 89 24 (gf := 71) (lb := #[.pointer (some ⟨B2, 0, none⟩)]) (K := keepsvalues1 B2 A7 ls) (xs := ls) rfl (enters_of Try.func71 (by kernel_rfl) rfl) HGV2.out.1 HGV2.out.2
    (fun pre W => ∃ A n c, Col by' w14 A n c pre W) (fun _ _ _ => False)
    (fun s W W' ⟨A, n, c, h⟩ _ ha => ⟨A, n, c, h.apart ha HXY14.out.1⟩) (fun _ _ _ _ h _ _ => h) ⟨none, 0, 0, Col.nil HBY14.out⟩ ?assign2 ?body2 ?done2 ?stop2
  case assign2 =>
    intro l x W K' hK
    gi_wp2
    exact hK
  case body2 =>
    rintro l pre x b W ⟨A, n, c, hC⟩ hsz hIb hb hlen
    have cx := hC.box.cell
    obtain ⟨q0, q1, q2, q3⟩ := range_cells hIb.range
    have hn := hC.own.len
    have hxl := HLs.out
    have hKD := HKD2a.out (by intro e; rw [e] at hlen; simp at hlen)
    have HC := Lib.hid hC
    have HKD1 := Lib.hid hKD
    clear hC hIb hKD
    simp only [actI, List.setIfInBounds_toArray, List.set_cons_zero, List.set_cons_succ]
    gi_wp2_with (gi_at_builtin; refine wpListIn_appI rfl (.tmp 90) (.tmp 92) rfl w14.heap.size A n c pre rfl (HC.out.own.alloc _) (some ⟨W.heap.size, 0, none⟩) 1 1 (W.heap.size + 1) [x] rfl rfl (IRow.one W x _ _) (by omega) (by simp; omega) ?_; intro A3 c3 w3 hO3 hg3 hB3; have HCo := Lib.hid (HC.out.round hsz HXY14.out.1 hO3 hg3 HKD1.out); have r1 := HCo.out.1; have r2 := HCo.out.2.1; clear hO3 hg3 hB3)
    exact ⟨HCo.out.2.2.1, HCo.out.2.2.2.1, A3, _, c3, HCo.out.2.2.2.2⟩
  case stop2 =>
    rintro D c pre W _ _ _ h _
    exact h.elim
  rintro D2 W2 hD hsz ⟨An, nn, cn, hC⟩ hd'
  have HC2 := Lib.hid hC
  have cxm := (hC.boxed HBX14.out (by have := HXY12.out.2.2.2; omega)).cell
  have cxn := hC.box.cell
  obtain ⟨p0, p1, p2, p3⟩ := range_cells (hC.ibox HX714.out (by have := HXY.out; omega)).range
  obtain ⟨r0, r1, r2, r3⟩ := range_cells (hC.ibox HX914.out (by have := HXY.out; omega)).range
  have HIm := Lib.hid ((show OwnI W2 w12.heap.size Am nm cm ls from Own.keep HO14.out fun g e => hC.low g (HO14.out.lt g e).2 (by have := (HO14.out.lt g e).1; have := HXY12.out.2.1; omega)).is (Nat.le_refl _))
  have HIn := Lib.hid (hC.own.is (Nat.le_refl _))
  have HG2W := Lib.hid (show Grew w5 W2 from Below.trans (show Below w5.heap.size w5 w14 from Grew.trans HG5W.out HGW14.out) (hC.below.mono (by have := HXY12.out.2.2; omega)))
  have hm1 : W2.heap[D1]? = some (.deferred (some [])) := (hC.low D1 (by have := HD1.out.2.2; have := HXY14.out.2; omega) (by have := HD1.out.1; have := HXY12.out.2.1; omega)).trans ((HGW14.out.block D1 HD1.out.2.2).trans HD1.out.2.1)
  have HM := Lib.hid (((Marks.nil w12.heap.size W2).cons HD1.out.1 hm1 (fun m h => by cases h)).cons (m := D2) (by have := HS1.out; have := HXY14.out.2; omega) hd' (fun m h => by
    simp at h
    have := HD1.out.2.2
    have := HXY14.out.2
    omega))
  have HS2 := Lib.hid (show w12.heap.size ≤ W2.heap.size by have := HS1.out; have := HXY14.out.2; omega)
  have HSm := Lib.hid (show Calls Try.prog 20 #[.slice Am nm cm, .slice An nn cn] W2 fun e w' => e = .returned (.bool true) ∧ Grew W2 w' from by
    have := ref_same Am An nm cm nn cn ls ls W2 HIm.out HIn.out
    rw [decide_eq_true rfl] at this
    exact this)
  have hn45 : n4 = n5 := HT1.out.is.len.symm.trans HT2.out.is.len
  subst hn45
  have HLa := Lib.hid (fun V (hG : Grew W2 V) => show Calls Try.prog 33 #[.pointer (some ⟨T1, 0, none⟩)] V fun e w' => e = .returned (.int .i64 (n4 : Int)) ∧ V = w' from tab_len V (HT1.out.grew (Grew.trans HG2W.out hG)))
  have HLb := Lib.hid (fun V (hG : Grew W2 V) => show Calls Try.prog 33 #[.pointer (some ⟨T2, 0, none⟩)] V fun e w' => e = .returned (.int .i64 (n4 : Int)) ∧ V = w' from tab_len V (HT2.out.grew (Grew.trans HG2W.out hG)))
  clear hC hm1 hD hd' hsz
  go_wp2_with (first
    | (go_at_call 20; ((with_reducible refine HSm.out.mono ?_); rintro e w15 ⟨rfl, hG⟩; have HG15 := Lib.hid hG; clear hG))
    | (go_at_call 33; ((with_reducible refine (HLa.out _ HG15.out).mono ?_); rintro e w16 ⟨rfl, rfl⟩))
    | (go_at_call 33; ((with_reducible refine (HLb.out _ HG15.out).mono ?_); rintro e w17 ⟨rfl, rfl⟩)))
  exact postM_ret1 rfl (Marks.apart (E := 0) HM.out (KeepsOthers.grew HG15.out)) (by have h1 := HG15.out.size; have := HS2.out; omega) (fun W' ha => ⟨rfl, ha.kept (show Below w.heap.size w _ from Grew.trans HG5.out (Grew.trans HG2W.out HG15.out)) (Nat.le_trans HG5.out.size HG512.out.size)⟩)
end Go.Proofs.Ytkkeodfoiffofaa
namespace Go.Proofs.Ytkkeodfoiffofaa.lawTableSizes
open Go.ChangeShapes Go.WideShapes Go.ChangeAt Go.RowKit
open Go.ChangeMaps (open_string shut_string)
set_option linter.unusedVariables false
set_option maxRecDepth 100000 in
theorem contract (H : Type) (enc : TypeId × Value → H) (W : World) (base : Nat) (args : Array Value) (ds gs : List (DataW H)) (before : List MemPlace)
    (hval : ∀ (j : Nat) t v, Try.f10.params[j]? = some t → args[j]? = some v → Value.okWide Try.prog W .any base t v)
    (hW : DataW.Whole enc Try.prog Try.f10.params.toList Rows.tableSizesSpec.vars false W args.toList ds gs before)
    (hsz : (DataW.weightsEach Try.prog (Try.f10.params.toList ++ Rows.tableSizesSpec.plain.varTypes Try.prog) (ds ++ gs)).all (· ≤ reachBytes) = true) :
    Calls Try.prog 10 args W fun e W' => ∃ v, e = .returned v ∧ Rows.tableSizesSpec.post enc Try.prog Try.f10 false true false false W args v W' := by
  have hW' := hW
  obtain ⟨p, q, hA0, hV, rfl, hfz, hnd⟩ := hW
  have hA : DataW.TrodAll enc Try.prog W 0 (fun _ => true) true Try.f10.params.toList args.toList ds p := hA0
  rw [Try.params10] at hA hval hsz
  obtain ⟨v0, vs0, d0, ds0, p0, q0, hargs, rfl, rfl, h0, r0⟩ := trodAll_cons hA
  obtain ⟨v1, vs1, d1, ds1, p1, q1, rfl, rfl, rfl, h1, r1⟩ := trodAll_cons r0
  obtain ⟨v2, vs2, d2, ds2, p2, q2, rfl, rfl, rfl, h2, r2⟩ := trodAll_cons r1
  obtain ⟨v3, vs3, d3, ds3, p3, q3, rfl, rfl, rfl, h3, r3⟩ := trodAll_cons r2
  obtain ⟨v4, vs4, d4, ds4, p4, q4, rfl, rfl, rfl, h4, r4⟩ := trodAll_cons r3
  obtain ⟨rfl, rfl, rfl⟩ := trodAll_nil r4
  obtain rfl : args = #[v0, v1, v2, v3, v4] := by cases args; simp_all
  obtain ⟨rfl, rfl⟩ := trodVars_none hV
  obtain ⟨A0, n0, c0, rfl⟩ := okWide_slice Try.underlying32 (hval 0 32 v0 rfl rfl)
  have k0 := h0
  have lt0 : ∀ x ∈ p0, x.block < W.heap.size := by obtain ⟨m, hm⟩ := k0; exact DataW.trod_lt m _ _ _ hm
  obtain ⟨fuel0, hf0⟩ := h0
  obtain ⟨l0, b0, u0, hd0⟩ := open_items   hf0
  have z0 : n0 * 48 ≤ 140737488351232 := by
    rcases hd0 with ⟨_, h⟩ | ⟨es, sp, h, hl⟩
    · omega
    · have hb : Try.prog.bytesOf 29 = 48 := by kernel_rfl
      have := sized_slice hsz (j := 0) (t := 32) (e := 29) (elems := es) (spare := sp) rfl (by simpa using h) Try.underlying32
      rw [hb] at this
      unfold reachBytes at this
      omega
  obtain ⟨a1, rfl, rfl, rfl, w1⟩ := open_int Try.underlying3 (hval 1 3 v1 rfl rfl) h1
  obtain ⟨a2, rfl, rfl, rfl, w2⟩ := open_int Try.underlying3 (hval 2 3 v2 rfl rfl) h2
  obtain ⟨s3, rfl, rfl, rfl, ws3⟩ := open_string Try.underlying9 (hval 3 9 v3 rfl rfl) h3
  have z3 : s3.data.toList.length ≤ 140737488351232 := sized_string hsz (j := 3) rfl rfl
  obtain ⟨a4, rfl, rfl, rfl, w4⟩ := open_int Try.underlying27 (hval 4 27 v4 rfl rfl) h4
  clear hA0
  refine (tableSizes_walk A0 n0 c0 l0 a1 a2 s3 a4 W b0 z0 w1 w2 z3 w4).mono fun e W' ⟨he, bel⟩ => ?_
  subst he
  exact ⟨_, rfl, _, _, _, [], _, [], hW', trodAll_mk1 (shut_bool Try.underlying4 _), (trodAll_cons_mk (Below.trod laidOut (by kernel_rfl) (of_decide_eq_true (by kernel_rfl)) k0 bel lt0) (trodAll_cons_mk (shut_int Try.underlying3 w1) (trodAll_cons_mk (shut_int Try.underlying3 w2) (trodAll_cons_mk (shut_string Try.underlying9 ws3) (trodAll_cons_mk (shut_int Try.underlying27 w4) trodAll_mk0))))), rfl, bel.frame _, fun h => by cases h⟩
set_option maxRecDepth 100000 in
theorem lifted (os : Os) (started : os.Started) (H : Type) (enc : TypeId × Value → H) :
    ReturnsInHanded {} Try.checked os 10 .any (Rows.tableSizesSpec.pre6 enc Try.prog Try.f10 Rows.tableSizesRow.domain false) (Rows.tableSizesSpec.post enc Try.prog Try.f10 false true false false) := by
  refine returnsInHanded_of_change_sized (C := Try.checked) ownKnob_none started (by kernel_rfl) Try.func10
    (ChangeSpec.witness6 (enc := enc) (C := Try.checked) false ⟨#[], #[.slice none 0 0, .int .i64 0, .int .i64 0, .string ByteArray.empty, .int .u64 0], []⟩ 8 (by kernel_rfl) (by kernel_rfl) (by kernel_rfl) (by kernel_rfl)) ?_
  intro W base args ds gs before hval hW _ hsz _
  exact contract H enc W base args ds gs before hval hW hsz
theorem over : Rows.tableSizesRow.holds Try.pinned (OpenSpec.ofChange Rows.tableSizesSpec) :=
  OpenClaim.holds_of_wide 10 Try.f10 rfl rfl rfl rfl rfl rfl rfl ⟨rfl, rfl, rfl, rfl, rfl⟩ rfl rfl rfl rfl rfl (by kernel_rfl) Try.func10 (by kernel_rfl)
    (of_decide_eq_true (by kernel_rfl)) (by unfold Func.isWrapper; first | (rw [if_pos (by decide +kernel)]; kernel_rfl) | (rw [if_neg (by decide +kernel)]; exact ⟨rfl, rfl⟩))
    (fun os started H enc _ => lifted os started H enc)
theorem proved : Rows.TableSizesSaid := over
#print axioms proved
end Go.Proofs.Ytkkeodfoiffofaa.lawTableSizes
