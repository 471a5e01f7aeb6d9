/- The walk of rolodexlaw8.TableFrom. -/
import Derived.Test.YtkkeodfoiffofaaAwake8
import Derived.Test.YtkkeodfoiffofaaTabD
import Derived.Test.YtkkeodfoiffofaaOpenI
import Derived.Test.YtkkeodfoiffofaaOpen
namespace Go.Proofs.Ytkkeodfoiffofaa
open Go.RowKit
set_option linter.unusedVariables false
attribute [local go_sem] Oper.semAt_some
theorem ahead_top {y : It} {key : List UInt8} (h : y.seq < m64) : ItP.ahead y ⟨key, m64 - 1, false, []⟩ = ItP.lessK y.key key := by
  unfold ItP.ahead
  by_cases e : y.key = key
  · rw [if_pos e, e, ItP.less_irrefl]
    simp
    omega
  · rw [if_neg e]
set_option maxRecDepth 100000 in
set_option maxHeartbeats 4000000 in
theorem tableFrom_walk (A0 : Option Addr) (n0 c0 : Nat) (l0 : List It) (a1 : Int) (s2 : ByteArray) (w : World) (b0 : ItemsIn w A0 n0 c0 l0) (z0 : n0 * 48 ≤ 140737488351232) (w1 : (Lit.int .i64 a1).wf = true) (z2 : s2.data.toList.length ≤ 140737488351232) :
    Calls Try.prog 11 #[.slice A0 n0 c0, .int .i64 a1, .string s2] w fun e w' => e = .returned (.bool true) ∧ Below w.heap.size w w' := by
  have HI0 := Lib.hid b0.is
  have HQ0 := Lib.hid b0.seq
  have HW1 := Lib.hid w1
  obtain ⟨key, hkey⟩ : ∃ key : List UInt8, Value.string s2 = .string ⟨key.toArray⟩ := ⟨s2.data.toList, by simp⟩
  rw [hkey]
  obtain ⟨e1, he1⟩ : ∃ z, TabP.buildE l0 a1 = z := ⟨_, rfl⟩
  have HE1 := Lib.hid he1
  clear b0 w1 z0 z2 he1 hkey
  obtain ⟨wL, hwL⟩ : ∃ W, W = (w.alloc (.cells #[.string ⟨key.toArray⟩] 9)).alloc (.cells #[.bool false] 4) := ⟨_, rfl⟩
  have HGL := Lib.hid (show Grew w wL by rw [hwL]; exact (grew_new w _).trans (grew_new _ _))
  have HB5 := Lib.hid (show Boxed wL w.heap.size 9 (.string ⟨key.toArray⟩) by rw [hwL]; exact (Boxed.new w _ _).alloc _)
  have HB6 := Lib.hid (show Boxed wL (w.heap.size + 1) 4 (.bool false) by rw [hwL]; have := Boxed.new (w.alloc (.cells #[.string ⟨key.toArray⟩] 9)) 4 (.bool false); simpa using this)
  have HWL := Lib.hid hwL
  have HAw := Lib.hid (awake8 wL)
  clear hwL
  refine calls_marks Try.func11 rfl ?_
  simp only [Try.ntmps11, List.size_toArray, List.length_cons, List.length_nil, Nat.reduceAdd, Nat.reduceSub, Array.replicate_succ, Array.replicate_zero, List.push_toArray, List.append_toArray, List.nil_append, List.cons_append]
  go_upto_region 1 with fail
  rw [← HWL.out]
  obtain ⟨b5, hb5⟩ : ∃ b, b = w.heap.size := ⟨_, rfl⟩
  obtain ⟨b6, hb6⟩ : ∃ b, b = w.heap.size + 1 := ⟨_, rfl⟩
  rw [← hb5] at HB5
  rw [← hb6] at HB6
  rw [← hb6, ← hb5]
  have HBB := Lib.hid (And.intro hb5 hb6)
  clear hb5 hb6 HWL
  go_upto_region 3 with (go_at_call 28; ((with_reducible refine HAw.out.mono ?_); rintro e w1 ⟨rfl, hG⟩; have HGa := Lib.hid (show Grew wL w1 from hG); clear hG))
  have HB51 := Lib.hid (boxed_grew HB5.out HGa.out)
  have HB61 := Lib.hid (boxed_grew HB6.out HGa.out)
  have HG1 := Lib.hid (Grew.trans HGL.out HGa.out)
  clear HB5 HB6 HGa HAw HGL
  have HRet : Hid (∀ (W : World) (ds : List Deferred) (T : Array Value), T.getD 6 undef = .pointer (some ⟨b6, 0, none⟩) → Boxed W b6 4 (.bool true) → Below w.heap.size w W → Marks w1.heap.size W ds → w1.heap.size ≤ W.heap.size →
      bodyPostM Fence.wide 9 Try.prog Try.f11 (fun e w' => e = .returned (.bool true) ∧ Below w.heap.size w w') .ret { tmps := T, defers := ds } W) := Lib.hid fun W ds T hT hB hG hM hs => by
    refine postM_retC (v := .bool true) (D := w1.heap.size) hM hs fun W' ha => ?_
    have hc := load_boxb8 (ha.boxed hB).cell
    have hT' : T[6]?.getD undef = .pointer (some ⟨b6, 0, none⟩) := by simpa using hT
    exact ⟨by simp [results, Try.results11, asAddr, hT', hc], rfl, ha.kept hG HG1.out.size⟩
  by_cases h0 : 100 < n0
  · have i0 : (100 : Int) < (n0 : Int) := by omega
    have c6 := HB61.out.cell
    have f6 := HB61.out.frozen
    go_wp2_with fail
    exact HRet.out _ _ _ rfl (HB61.out.set _) (HG1.out.setCell (by have := HBB.out; simp; omega) _) (Marks.nil _ _) (by simp)
  have i0 : ¬ (100 : Int) < (n0 : Int) := by omega
  have HB1 := Lib.hid (build_is (HI0.out.grew HG1.out) HQ0.out HW1.out HE1.out)
  go_upto_region 6 with (go_at_call 29; ((with_reducible refine HB1.out.mono ?_); rintro e w2 ⟨Ab, nb, cb, rfl, hO, hG⟩; have HO2 := Lib.hid hO; have HG12 := Lib.hid hG; clear hO hG))
  have HB52 := Lib.hid (boxed_grew HB51.out HG12.out)
  have HB62 := Lib.hid (boxed_grew HB61.out HG12.out)
  have HG2 := Lib.hid (Grew.trans HG1.out HG12.out)
  by_cases hz1 : e1 = 0
  case neg =>
    have c6 := HB62.out.cell
    have f6 := HB62.out.frozen
    go_wp2_with fail
    exact HRet.out _ _ _ rfl (HB62.out.set _) (HG2.out.setCell (by have := HBB.out; simp; omega) _) (Marks.nil _ _) (by have := HG12.out.size; simp; omega)
  subst hz1
  have HOp := Lib.hid (open_buildB HE1.out HQ0.out HO2.out)
  go_upto_region 11 with (go_at_call 31; ((with_reducible refine HOp.out.mono ?_); rintro e w3 ⟨T1, A4, n4, c4, F4, nf4, cf4, rfl, hT, hT1, hT2, hG⟩; have HT1 := Lib.hid hT; have HG23 := Lib.hid hG; clear hT hT1 hT2 hG))
  have HSR := Lib.hid (TabP.goodL_srt (TabP.buildE_zero HE1.out).1)
  have HB53 := Lib.hid (boxed_grew HB52.out HG23.out)
  have HB63 := Lib.hid (boxed_grew HB62.out HG23.out)
  have HG13 := Lib.hid (Grew.trans HG12.out HG23.out)
  obtain ⟨wb, hwb⟩ : ∃ W, W = w3.alloc (.cells #[.slice none 0 0] 32) := ⟨_, rfl⟩
  obtain ⟨bx, hbx⟩ : ∃ b, b = w3.heap.size := ⟨_, rfl⟩
  have HBX := Lib.hid (show Boxed wb bx 32 (.slice none 0 0) by rw [hwb, hbx]; exact Boxed.new w3 _ _)
  have HG3b := Lib.hid (show Grew w3 wb by rw [hwb]; exact grew_new w3 _)
  have HWb := Lib.hid (And.intro hwb hbx)
  have HXe := Lib.hid (show w3.heap.size ≤ bx by rw [hbx]; exact Nat.le_refl _)
  clear hwb hbx
  go_upto_region 12 with fail
  rw [← HWb.out.1, ← HWb.out.2]
  clear HWb HB51 HB61 HB52 HB62 HB1 HOp
  have HLs := Lib.hid (show l0.length ≤ 100 by have := HI0.out.len; omega)
  have HFr := Lib.hid (show Calls Try.prog 40 #[.pointer (some ⟨T1, 0, none⟩), .string ⟨#[]⟩] wb fun e w' => ∃ B A' n' c', e = .returned (.func (.func 71) #[] #[.pointer (some ⟨B, 0, none⟩)]) ∧ Boxed w' B 32 (.slice A' n' c') ∧ Is w' w'.heap.size A' n' c' l0 ∧ Grew wb w' from by
    have := tab_from [] wb (HT1.out.grew HG3b.out) HSR.out.1
    rw [TabP.frm_nil HSR.out.2] at this
    exact this)
  go_wp2_with (go_at_call 40; ((with_reducible refine HFr.out.mono ?_); rintro e w5 ⟨B1, A6, n6, c6, rfl, hB, hI, hG⟩; have HBv := Lib.hid hB; have HIv := Lib.hid hI; have HGb5 := Lib.hid hG; clear hB hI hG))
  have HGV1 := Lib.hid (values1_gives B1 n6 c6 A6 l0 w5 HBv.out.cell HIv.out)
  have HBX5 := Lib.hid (boxed_grew HBX.out HGb5.out)
  have HG35 := Lib.hid (Grew.trans HG3b.out HGb5.out)
  have HKD1 : Hid (l0 ≠ [] → ∀ g, keepsvalues1 B1 A6 l0 g → g < w5.heap.size ∧ g ≠ bx) := Lib.hid fun hne g hg => ⟨HGV1.out.1 g hg, keeps_box HBX5.out HBv.out HIv.out hne g hg⟩
  have HXY := Lib.hid (show bx < w5.heap.size ∧ b5 < w3.heap.size ∧ b6 < w3.heap.size ∧ b5 < b6 from ⟨HBX5.out.lt, HB53.out.lt, HB63.out.lt, by have := HBB.out; omega⟩)
  clear HFr HBX
  refine wp_rangeIz 36 11 (gf := 71) (lb := #[.pointer (some ⟨B1, 0, none⟩)]) (K := keepsvalues1 B1 A6 l0) (xs := l0) rfl (enters_of Try.func71 (by kernel_rfl) rfl) HGV1.out.1 HGV1.out.2
    (fun pre W => ∃ A n c, Col bx w5 A n c pre W) (fun _ _ _ => False)
    (fun s W W' ⟨A, n, c, h⟩ _ ha => ⟨A, n, c, h.apart ha HXY.out.1⟩) (fun _ _ _ _ h _ _ => h) ⟨none, 0, 0, Col.nil HBX5.out⟩ ?assign ?body ?done ?stop
  case assign =>
    intro l x W K' hK
    gi_wp2
    exact hK
  case body =>
    rintro l pre x b W ⟨A, n, c, hC⟩ hsz hIb hb hlen
    have cx := hC.box.cell
    obtain ⟨q0, q1, q2, q3⟩ := range_cells hIb.range
    have hn := hC.own.len
    have hxl := HLs.out
    have hKD := HKD1.out (by intro e; rw [e] at hlen; simp at hlen)
    have HC := Lib.hid hC
    have HKD := Lib.hid hKD
    clear hC hIb hKD
    simp only [actI, List.setIfInBounds_toArray, List.set_cons_zero, List.set_cons_succ]
    gi_wp2_with (gi_at_builtin; refine wpListIn_appI rfl (.tmp 37) (.tmp 39) rfl w5.heap.size A n c pre rfl (HC.out.own.alloc _) (some ⟨W.heap.size, 0, none⟩) 1 1 (W.heap.size + 1) [x] rfl rfl (IRow.one W x _ _) (by omega) (by simp; omega) ?_; intro A3 c3 w3 hO3 hg3 hB3; have HCo := Lib.hid (HC.out.round hsz HXY.out.1 hO3 hg3 HKD.out); have r1 := HCo.out.1; have r2 := HCo.out.2.1; clear hO3 hg3 hB3)
    exact ⟨HCo.out.2.2.1, HCo.out.2.2.2.1, A3, _, c3, HCo.out.2.2.2.2⟩
  case stop =>
    rintro D c pre W _ _ _ h _
    exact h.elim
  rintro D1 W1 hD hsz ⟨Am, nm, cm, hC⟩ hd'
  have HD1 := Lib.hid (And.intro hD (And.intro hd' (show D1 < W1.heap.size from lt_of_blk hd')))
  have HS1 := Lib.hid hsz
  have HG3W := Lib.hid (show Grew w3 W1 from Below.trans (show Below w3.heap.size w3 w5 from HG35.out) (hC.below.mono HXe.out))
  have HBXm := Lib.hid hC.box
  have HOm := Lib.hid hC.own
  have hnm : l0.length = nm := by have := hC.own.is (Nat.le_refl _); exact this.len
  have HB5m := Lib.hid (boxed_grew HB53.out HG3W.out)
  have HB6m := Lib.hid (boxed_grew HB63.out HG3W.out)
  clear hC hD hd' hsz HKD1 HGV1 HBX5 HBv HIv HB53 HB63
  go_upto_region 15 with fail
  obtain ⟨w6, hw6⟩ : ∃ W, W = W1.alloc (.cells #[.int .i64 0] 3) := ⟨_, rfl⟩
  obtain ⟨bi, hbi⟩ : ∃ b, b = W1.heap.size := ⟨_, rfl⟩
  have HBI := Lib.hid (show Boxed w6 bi 3 (.int .i64 0) by rw [hw6, hbi]; exact Boxed.new W1 _ _)
  have HG16 := Lib.hid (show Grew W1 w6 by rw [hw6]; exact grew_new W1 _)
  have HBIe := Lib.hid hbi
  have HW6 := Lib.hid hw6
  clear hw6 hbi
  obtain ⟨F, hF⟩ : ∃ F, F = TabP.frm key l0 := ⟨_, rfl⟩
  have HF := Lib.hid hF
  have hFl : F ≤ l0.length := by rw [hF]; exact at_le _ _
  have HLo : Hid (∀ k y, l0[k]? = some y → ItP.lessK y.key key = true → k + 1 ≤ F) := Lib.hid fun k y hy h => by
    rw [hF]
    exact at_lo HSR.out.1 hy (by rw [ahead_top (HQ0.out y (List.mem_of_getElem? hy))]; exact h)
  have HHi : Hid (∀ k y, l0[k]? = some y → ItP.lessK y.key key = false → F ≤ k) := Lib.hid fun k y hy h => by
    rw [hF]
    exact at_hi HSR.out.1 hy (by rw [ahead_top (HQ0.out y (List.mem_of_getElem? hy))]; exact h)
  have HKeep : Hid (∀ y ∈ l0.drop F, ItP.lessK y.key key = false) := Lib.hid fun y hy => by
    have h := (srt_cut (x := ⟨key, m64 - 1, false, []⟩) HSR.out.1).2 y (by rw [hF] at hy; exact hy)
    rw [ahead_top (HQ0.out y (List.mem_of_mem_drop hy))] at h
    exact h
  clear hF
  have hl100 := HLs.out
  go_wp2_with fail
  rw [← HW6.out, ← HBIe.out]
  go_loopw [] (fun wy => ∃ k : Nat, k ≤ F ∧ Boxed wy bi 3 (.int .i64 (k : Int)) ∧ Grew W1 wy) (fun wy => nm - (intOf ((wy.cell? ⟨bi, 0, none⟩).getD undef)).toNat)
  case atStart => exact ⟨0, Nat.zero_le _, HBI.out, HG16.out⟩
  case round =>
    obtain ⟨k, hk, hB, hG⟩ := hrel
    have ci := hB.cell
    have fi := hB.frozen
    have HBk := Lib.hid hB
    have HGk := Lib.hid hG
    have i0 : (0 : Int) ≤ (k : Int) := by omega
    clear hB hG
    have qi := fun y : GrewOf wr => (show y.1.cell? ⟨bi, 0, none⟩ = some (.int .i64 (k : Int)) from (boxed_grew HBk.out y.2).cell)
    have qx := fun y : GrewOf wr => (show y.1.cell? ⟨bx, 0, none⟩ = some (.slice Am nm cm) from (boxed_grew (boxed_grew HBXm.out HGk.out) y.2).cell)
    have q5 := fun y : GrewOf wr => (show y.1.cell? ⟨b5, 0, none⟩ = some (.string ⟨key.toArray⟩) from (boxed_grew (boxed_grew HB5m.out HGk.out) y.2).cell)
    have hcases : (∃ y, l0[k]? = some y ∧ k < nm ∧ ItP.lessK y.key key = true) ∨ (∃ y, l0[k]? = some y ∧ k < nm ∧ ItP.lessK y.key key = false) ∨ ¬ k < nm := by
      by_cases h : k < nm
      · obtain ⟨y, hy⟩ : ∃ y, l0[k]? = some y := ⟨_, List.getElem?_eq_getElem (by omega)⟩
        cases hl : ItP.lessK y.key key
        · exact .inr (.inl ⟨y, hy, h, hl⟩)
        · exact .inl ⟨y, hy, h, hl⟩
      · exact .inr (.inr h)
    rcases hcases with ⟨y, hy, hlt, hle⟩ | ⟨y, hy, hlt, hle⟩ | hlt
    · obtain ⟨g1, o1, rfl, q1⟩ := is_grew (HOm.out.is (Nat.le_refl _)) HGk.out hy
      have i1 : (k : Int) < (nm : Int) := by omega
      have HK1 := Lib.hid (HLo.out k y hy hle)
      have hbl : Op.bytesLess y.key key = true := hle
      have hqq := And.intro i0 (And.intro i1 (And.intro hbl (And.intro qi (And.intro qx (And.intro q5 q1)))))
      clear q1 qi qx q5 hy hle hbl i0 i1
      go_upto_region 16 with fail
      refine wp_region_x [] (by kernel_rfl) (by kernel_rfl) (by kernel_rfl) ?_
      simp only [blank, List.foldl_nil]
      repeat (first | (refine wpX_value (v := ?_) rfl (by intros; simp) rfl rfl (fun x => ?_) ?_; rotate_left; (focus (simp [go_sem, hqq]; (try go_ints); first | done | (with_reducible rfl))); (simp only [Act.put, List.setIfInBounds_toArray, List.set_cons_succ, List.set_cons_zero])))
      (refine wpX_nil ?_; intro xb wx hxg xl; obtain ⟨xf, xe⟩ := LikeAll.end_ xl; clear xl; subst xe; simp only [fill, List.foldl_nil, Act.put])
      clear hqq
      have HBx := Lib.hid (boxed_grew HBk.out hxg)
      have ci := HBx.out.cell
      have fi := HBx.out.frozen
      go_wp2_with fail
      go_roundw
      case rel => exact ⟨k + 1, HK1.out, by have h := HBx.out.set (.int .i64 ((k : Int) + 1)); simpa using h, (HGk.out.trans hxg).setCell (by rw [HBIe.out]; exact Nat.le_refl _) _⟩
      case measure =>
        have h := (HBx.out.set (.int .i64 ((k : Int) + 1))).cell
        have h2 := HBk.out.cell
        rw [h, h2]
        simp [intOf]
        omega
    all_goals first
      | (obtain ⟨g1, o1, rfl, q1⟩ := is_grew (HOm.out.is (Nat.le_refl _)) HGk.out hy
         have i1 : (k : Int) < (nm : Int) := by omega
         have hkF : k = F := by have := HHi.out k y hy hle; omega
         have hbl : Op.bytesLess y.key key = false := hle
         have hqq := And.intro i0 (And.intro i1 (And.intro hbl (And.intro qi (And.intro qx (And.intro q5 q1)))))
         clear hy hle q1)
      | (have i1 : ¬ (k : Int) < (nm : Int) := by omega
         have hkF : k = F := by omega
         have hqq := And.intro i0 (And.intro i1 (And.intro qi (And.intro qx q5))))
    all_goals
      clear qi qx q5 hlt
      go_upto_region 16 with fail
      refine wp_region_x [] (by kernel_rfl) (by kernel_rfl) (by kernel_rfl) ?_
      simp only [blank, List.foldl_nil]
      repeat (first | (refine wpX_value (v := ?_) rfl (by intros; simp) rfl rfl (fun x => ?_) ?_; rotate_left; (focus (simp [go_sem, hqq]; (try go_ints); first | done | (with_reducible rfl))); (simp only [Act.put, List.setIfInBounds_toArray, List.set_cons_succ, List.set_cons_zero])) | (refine wpX_skip rfl ?_; (simp only [Act.put, List.setIfInBounds_toArray, List.set_cons_succ, List.set_cons_zero])))
      (refine wpX_nil ?_; intro xb wx hxg xl; obtain ⟨xf, xe⟩ := LikeAll.end_ xl; clear xl; subst xe; simp only [fill, List.foldl_nil, Act.put])
      clear hqq
      go_upto_region 18 with fail
      clear i1
      subst hkF
      have HG1x := Lib.hid (HGk.out.trans hxg)
      have HG3x := Lib.hid (Grew.trans HG3W.out HG1x.out)
      have HB5x := Lib.hid (boxed_grew HB5m.out HG1x.out)
      have HB6x := Lib.hid (boxed_grew HB6m.out HG1x.out)
      obtain ⟨Ax, hI1, hX1⟩ : ∃ A, Is W1 W1.heap.size A nm cm l0 ∧ Boxed W1 bx 32 (.slice A nm cm) := ⟨_, HOm.out.is (Nat.le_refl _), HBXm.out⟩
      have HI1 := Lib.hid hI1
      have HX1 := Lib.hid hX1
      have HBIx := Lib.hid (boxed_grew HBk.out hxg)
      have HBIg := Lib.hid (show W1.heap.size ≤ bi by rw [HBIe.out]; exact Nat.le_refl _)
      have HDx := Lib.hid (show wx.heap[D1]? = some (.deferred (some [])) from (HG1x.out.block D1 HD1.out.2.2).trans HD1.out.2.1)
      have c5 := HB5x.out.cell
      have HFs := Lib.hid (show Calls Try.prog 40 #[.pointer (some ⟨T1, 0, none⟩), .string ⟨key.toArray⟩] wx fun e w' => ∃ B A' n' c', e = .returned (.func (.func 71) #[] #[.pointer (some ⟨B, 0, none⟩)]) ∧ Boxed w' B 32 (.slice A' n' c') ∧ Is w' w'.heap.size A' n' c' (l0.drop k) ∧ Grew wx w' from by
        have := tab_from key wx (HT1.out.grew HG3x.out) HSR.out.1
        rw [← HF.out] at this
        exact this)
      clear HBXm HOm HBk HGk hk HBI HG16 HLo HHi i0 ci fi
      go_wp2_with (go_at_call 40; ((with_reducible refine HFs.out.mono ?_); rintro e w14 ⟨B2, A7, n7, c7, rfl, hB, hI, hG⟩; have HBv := Lib.hid hB; have HIv := Lib.hid hI; have HGx14 := Lib.hid hG; clear hB hI hG))
      clear hI1 hX1 c5 HFs
      have HGV2 := Lib.hid (values1_gives B2 n7 c7 A7 (l0.drop k) w14 HBv.out.cell HIv.out)
      have HBI14 := Lib.hid (boxed_grew HBIx.out HGx14.out)
      have HG114 := Lib.hid (Grew.trans HG1x.out HGx14.out)
      have HKD : Hid (∀ g, keepsvalues1 B2 A7 (l0.drop k) g → g ≠ bi) := Lib.hid fun g hg => by
        rcases hg with rfl | ⟨hne, hg⟩
        · exact boxed_not_box HBI14.out HBv.out
        · intro e
          rw [e] at hg
          exact boxed_not_is HBI14.out HIv.out hne hg
      have HLT := Lib.hid (show b5 < bi ∧ b6 < bi ∧ bx < bi ∧ bi < w14.heap.size from by
        have h1 := HG3W.out.size
        have h2 := HS1.out
        have h3 := HXY.out
        have h4 := HBIg.out
        exact ⟨by omega, by omega, by omega, HBI14.out.lt⟩)
      have hkl : k ≤ nm := by omega
      refine wp_rangeIz 59 13 (gf := 71) (lb := #[.pointer (some ⟨B2, 0, none⟩)]) (K := keepsvalues1 B2 A7 (l0.drop k)) (xs := l0.drop k) rfl (enters_of Try.func71 (by kernel_rfl) rfl) HGV2.out.1 HGV2.out.2
        (fun pre W => Boxed W bi 3 (.int .i64 ((k : Int) + (pre.length : Int))) ∧ Below bi w14 W) (fun _ s _ => ¬ s <+: l0.drop k)
        (fun s W W' h _ ha => ⟨ha.boxed h.1, ha.kept h.2 (Nat.le_of_lt HLT.out.2.2.2)⟩) (fun _ _ _ _ h _ _ => h) ⟨by have := HBI14.out; simpa using this, Below.refl _ _⟩ ?_ ?_ ?_ ?_
      · intro l x W K' hK
        gi_wp2
        exact hK
      · rintro l pre x b W ⟨hBi, hG⟩ hsz hIb hb hlen
        have HIB := Lib.hid hIb.range
        obtain ⟨q0, _, _, _⟩ := range_cells hIb.range
        have hGW := (show Below W1.heap.size W1 W from Below.trans (show Below W1.heap.size W1 w14 from HG114.out) (hG.mono HBIg.out))
        have ci := hBi.cell
        have fi := hBi.frozen
        have cx := (boxed_grew HX1.out hGW).cell
        have hB5W := boxed_grew HB5m.out hGW
        have hB6W := boxed_grew HB6m.out hGW
        have c5 := hB5W.cell
        have c6 := hB6W.cell
        have f6 := hB6W.frozen
        obtain ⟨y, hy⟩ : ∃ y, (l0.drop k)[pre.length]? = some y := ⟨_, List.getElem?_eq_getElem hlen⟩
        have hy2 : l0[k + pre.length]? = some y := by rw [List.getElem?_drop] at hy; exact hy
        obtain ⟨g5, o5, e5, hb5, hr5⟩ := HI1.out.at hy2
        subst e5
        have HR5 := Lib.hid (range_below hr5 hGW hb5)
        have hlt2 : k + pre.length < nm := by rw [List.length_drop] at hlen; omega
        have i0 : (0 : Int) ≤ (k : Int) + (pre.length : Int) := by omega
        have i1 : (k : Int) + (pre.length : Int) < (nm : Int) := by omega
        have i2 : ¬ (nm : Int) ≤ (k : Int) + (pre.length : Int) := by omega
        have i3 : decide (nm ≤ k + pre.length) = false := by simp; omega
        have i4 : decide ((nm : Int) ≤ (k : Int) + (pre.length : Int)) = false := by simp; omega
        have hbl : Op.bytesLess y.key key = false := HKeep.out y (List.mem_of_getElem? hy)
        have HY := Lib.hid hy
        have HBi := Lib.hid hBi
        have HGr := Lib.hid hG
        clear hr5 hb5 hy hy2 hBi hG hIb hlen hGW hB5W hB6W
        simp only [actI, List.setIfInBounds_toArray, List.set_cons_zero, List.set_cons_succ]
        by_cases hx : x = y
        · have hne := fun W => neq_item x y W
          rw [show (!decide (x = y)) = false by simp [hx]] at hne
          rw [← hx] at hbl
          clear hx
          gi_wp2
          refine wpIn_region_quiet_round (by kernel_rfl) rfl (by kernel_rfl) ?_
          repeat (first | gi_big_quiet_step (fail) | (refine wpQuietIn_loadI (o := ⟨some 65, _, _, _, _, _⟩) (.tmp 13) rfl rfl HIB.out rfl ?_; (simp only [Act.put, List.setIfInBounds_toArray, List.set_cons_succ, List.set_cons_zero])) | (refine wpQuietIn_loadI (o := ⟨some 69, _, _, _, _, _⟩) (.tmp 68) rfl rfl HR5.out rfl ?_; (simp only [Act.put, List.setIfInBounds_toArray, List.set_cons_succ, List.set_cons_zero])) | (refine wpQuietIn_neqI (o := ⟨some 70, _, _, _, _, _⟩) (.tmp 65) (.tmp 69) rfl rfl rfl hne rfl ?_; (simp only [Act.put, List.setIfInBounds_toArray, List.set_cons_succ, List.set_cons_zero])))
          refine wpQuietIn_nil ?_
          intro _ hw'
          obtain ⟨nq, hw''⟩ := hw'
          subst hw''
          have HKO := Lib.hid (show KeepsOthers W (W.drewN nq) from KeepsOthers.grew (Grew.drewN _ _))
          gi_wp2
          refine ⟨HKO.out.trans (KeepsOthers.setCell _ _ _), KeepSet.trans (KeepSet.below (Grew.drewN _ _) fun g hg => Nat.lt_of_lt_of_le (HGV2.out.1 g hg) HGr.out.size) (KeepSet.setCell _ _ _ fun hk => HKD.out _ hk rfl), ?_, (HGr.out.trans (Below.mono (Grew.drewN _ _) (Nat.le_trans (Nat.le_of_lt HLT.out.2.2.2) HGr.out.size))).setCell (Nat.le_refl _) _⟩
          have h := Boxed.set (W := W.drewN nq) (.int .i64 ((k : Int) + (pre.length : Int) + 1)) HBi.out
          rw [List.length_append, List.length_singleton, Int.natCast_add, ← Int.add_assoc]
          exact h
        · have hne : (!decide (x = y)) = true := by simp [hx]
          have HX := Lib.hid hx
          clear hx
          gi_wp2
          refine wpIn_region_quiet_round (by kernel_rfl) rfl (by kernel_rfl) ?_
          repeat (first | gi_big_quiet_step (fail) | (refine wpQuietIn_loadI (o := ⟨some 65, _, _, _, _, _⟩) (.tmp 13) rfl rfl HIB.out rfl ?_; (simp only [Act.put, List.setIfInBounds_toArray, List.set_cons_succ, List.set_cons_zero])) | (refine wpQuietIn_loadI (o := ⟨some 69, _, _, _, _, _⟩) (.tmp 68) rfl rfl HR5.out rfl ?_; (simp only [Act.put, List.setIfInBounds_toArray, List.set_cons_succ, List.set_cons_zero])) | (refine wpQuietIn_neqI (o := ⟨some 70, _, _, _, _, _⟩) (.tmp 65) (.tmp 69) rfl rfl rfl hne rfl ?_; (simp only [Act.put, List.setIfInBounds_toArray, List.set_cons_succ, List.set_cons_zero])))
          refine wpQuietIn_nil ?_
          intro _ hw'
          obtain ⟨nq, hw''⟩ := hw'
          subst hw''
          have HKO := Lib.hid (show KeepsOthers W (W.drewN nq) from KeepsOthers.grew (Grew.drewN _ _))
          gi_wp2
          exact ⟨HKO.out.trans (KeepsOthers.setCell _ _ _), fun hp => HX.out (by
            obtain ⟨r, hr⟩ := hp
            have h1 : (l0.drop k)[pre.length]? = some x := by rw [← hr]; simp
            exact Option.some.inj (h1.symm.trans HY.out))⟩
      · rintro D2 W2 hD hsz ⟨hBi, hG⟩ hd'
        have hGW := (show Below W1.heap.size W1 W2 from Below.trans (show Below W1.heap.size W1 w14 from HG114.out) (hG.mono HBIg.out))
        have HB6W := Lib.hid (boxed_grew HB6m.out hGW)
        have HBXW := Lib.hid (boxed_grew HX1.out hGW)
        have HBIW := Lib.hid (show Boxed W2 bi 3 (.int .i64 (nm : Int)) by
          have e : (k : Int) + ((l0.drop k).length : Int) = (nm : Int) := by rw [List.length_drop]; omega
          rw [← e]
          exact hBi)
        have HG3W2 := Lib.hid (Grew.trans HG3W.out (show Grew W1 W2 from hGW))
        have hm1 : W2.heap[D1]? = some (.deferred (some [])) := ((hG.block D1 (by have := HD1.out.2.2; have := HBIg.out; omega)).trans (HGx14.out.block D1 (lt_of_blk HDx.out))).trans HDx.out
        have hD1w : D1 < w14.heap.size := Nat.lt_of_lt_of_le (lt_of_blk HDx.out) HGx14.out.size
        have HM := Lib.hid (((Marks.nil w1.heap.size W2).cons (by have h1 := HD1.out.1; have h2 := HG13.out.size; have h3 := HG35.out.size; omega) hm1 (fun m h => by cases h)).cons (m := D2) (by have h2 := HG13.out.size; have h3 := HG3W.out.size; have h4 := HG114.out.size; omega) hd' (fun m h => by
          simp at h
          omega))
        have HL1 := Lib.hid (show w1.heap.size ≤ W2.heap.size by have h1 := HG13.out.size; have h2 := HG3W2.out.size; omega)
        have hn4 : nm = n4 := hnm.symm.trans HT1.out.is.len
        have HLn := Lib.hid (fun V (hG : Grew W2 V) => show Calls Try.prog 33 #[.pointer (some ⟨T1, 0, none⟩)] V fun e w' => e = .returned (.int .i64 (nm : Int)) ∧ Grew V w' from (tab_len V (HT1.out.grew (Grew.trans HG3W2.out hG))).mono fun e w' h => ⟨by rw [hn4]; exact h.1, h.2 ▸ Grew.refl _⟩)
        have HNE := Lib.hid (show b6 ≠ bi ∧ b6 ≠ bx from ⟨by have := HLT.out; omega, by have h1 := HXY.out; have h2 := HXe.out; omega⟩)
        have hqq := And.intro (fun V : { V : World // Cl8 W2 b6 V } => show V.1.cell? ⟨bi, 0, none⟩ = some (.int .i64 (nm : Int)) from Boxed.cell (show Boxed V.1 bi 3 (.int .i64 (nm : Int)) from (V.2.block HBIW.out.lt (fun e => HNE.out.1 e.symm)).trans HBIW.out)) (fun V : { V : World // Cl8 W2 b6 V } => show V.1.cell? ⟨bx, 0, none⟩ = some (.slice Ax nm cm) from Boxed.cell (show Boxed V.1 bx 32 (.slice Ax nm cm) from (V.2.block HBXW.out.lt (fun e => HNE.out.2 e.symm)).trans HBXW.out))
        clear hGW hBi hG hd' hD hsz hn4 hm1
        go_upto_region 23 with fail
        have HGc := Lib.hid (Grew.drewN W2 1)
        have HC : Hid (Cl8 W2 b6 (World.drewN W2 1)) := Lib.hid (.inl HGc.out)
        refine wp_region_c (fun V => Cl8 W2 b6 V) (by kernel_rfl) HC.out ?_
        change wpAnyC _ _ _ _ _ _ _ _ (World.drewN W2 1)
        (refine wpAnyC_free 0 (oi := ⟨some 80, _, _, _, _, _⟩) (v := ?_) rfl (by kernel_rfl) (by kernel_rfl) (by kernel_rfl) HC.out rfl (fun x => ?_) ?_; rotate_left; (focus (simp [go_sem, hqq]; (try go_ints); first | done | (with_reducible rfl))); (simp only [Act.put, List.setIfInBounds_toArray, List.set_cons_succ, List.set_cons_zero]))
        (refine wpAnyC_free 1 (oi := ⟨some 81, _, _, _, _, _⟩) (v := ?_) rfl (by kernel_rfl) (by kernel_rfl) (by kernel_rfl) HC.out rfl (fun x => ?_) ?_; rotate_left; (focus (simp [go_sem, hqq]; (try go_ints); first | done | (with_reducible rfl))); (simp only [Act.put, List.setIfInBounds_toArray, List.set_cons_succ, List.set_cons_zero]))
        (refine wpAnyC_free 2 (oi := ⟨some 82, _, _, _, _, _⟩) (v := ?_) rfl (by kernel_rfl) (by kernel_rfl) (by kernel_rfl) HC.out rfl (fun x => ?_) ?_; rotate_left; (focus (simp [go_sem]; (try go_ints); first | done | (with_reducible rfl))); (simp only [Act.put, List.setIfInBounds_toArray, List.set_cons_succ, List.set_cons_zero]))
        (refine wpAnyC_free 3 (oi := ⟨some 83, _, _, _, _, _⟩) (v := ?_) rfl (by kernel_rfl) (by kernel_rfl) (by kernel_rfl) HC.out rfl (fun x => ?_) ?_; rotate_left; (focus (simp [go_sem]; (try go_ints); first | done | (with_reducible rfl))); (simp only [Act.put, List.setIfInBounds_toArray, List.set_cons_succ, List.set_cons_zero]))
        (refine wpAnyC_free 4 (oi := ⟨some 84, _, _, _, _, _⟩) (v := ?_) rfl (by kernel_rfl) (by kernel_rfl) (by kernel_rfl) HC.out rfl (fun x => ?_) ?_; rotate_left; (focus (simp [go_sem]; (try go_ints); first | done | (with_reducible rfl))); (simp only [Act.put, List.setIfInBounds_toArray, List.set_cons_succ, List.set_cons_zero]))
        (refine wpAnyC_free 5 (oi := ⟨some 85, _, _, _, _, _⟩) (v := ?_) rfl (by kernel_rfl) (by kernel_rfl) (by kernel_rfl) HC.out rfl (fun x => ?_) ?_; rotate_left; (focus (simp [go_sem, hqq]; (try go_ints); first | done | (with_reducible rfl))); (simp only [Act.put, List.setIfInBounds_toArray, List.set_cons_succ, List.set_cons_zero]))
        (refine wpAnyC_free 6 (oi := ⟨some 86, _, _, _, _, _⟩) (v := ?_) rfl (by kernel_rfl) (by kernel_rfl) (by kernel_rfl) HC.out rfl (fun x => ?_) ?_; rotate_left; (focus (simp [go_sem]; (try go_ints); first | done | (with_reducible rfl))); (simp only [Act.put, List.setIfInBounds_toArray, List.set_cons_succ, List.set_cons_zero]))
        (refine wpAnyC_free 7 (oi := ⟨some 87, _, _, _, _, _⟩) (v := ?_) rfl (by kernel_rfl) (by kernel_rfl) (by kernel_rfl) HC.out rfl (fun x => ?_) ?_; rotate_left; (focus (simp [go_sem]; (try go_ints); first | done | (with_reducible rfl))); (simp only [Act.put, List.setIfInBounds_toArray, List.set_cons_succ, List.set_cons_zero]))
        refine wpAnyC_step 8 (o := ⟨some 88, _, _, _, _, _⟩) rfl (by kernel_rfl) rfl ?_
        refine wpList_callR rfl _ _ (fun v w' => v = .int .i64 (nm : Int) ∧ Grew W2 w') (by simp [go_sem]) ((HLn.out _ HGc.out).mono fun e w' ⟨h1, h2⟩ => ⟨_, h1, rfl, Grew.trans HGc.out h2⟩) ?_
        rintro v we ⟨rfl, hG⟩
        have HGc := Lib.hid hG
        have HC : Hid (Cl8 W2 b6 we) := Lib.hid (.inl HGc.out)
        clear hG
        (simp only [Act.put, List.setIfInBounds_toArray, List.set_cons_succ, List.set_cons_zero])
        refine wpList_nil ⟨rfl, HC.out, ?_⟩
        (refine wpAnyC_free 9 (oi := ⟨some 89, _, _, _, _, _⟩) (v := ?_) rfl (by kernel_rfl) (by kernel_rfl) (by kernel_rfl) HC.out rfl (fun x => ?_) ?_; rotate_left; (focus (simp [go_sem]; (try go_ints); first | done | (with_reducible rfl))); (simp only [Act.put, List.setIfInBounds_toArray, List.set_cons_succ, List.set_cons_zero]))
        (refine wpAnyC_free 10 (oi := ⟨some 90, _, _, _, _, _⟩) (v := ?_) rfl (by kernel_rfl) (by kernel_rfl) (by kernel_rfl) HC.out rfl (fun x => ?_) ?_; rotate_left; (focus (simp [go_sem]; (try go_ints); first | done | (with_reducible rfl))); (simp only [Act.put, List.setIfInBounds_toArray, List.set_cons_succ, List.set_cons_zero]))
        have HB6e := Lib.hid (boxed_grew HB6W.out HGc.out)
        refine wpAnyC_step 11 (o := ⟨none, _, _, _, _, _⟩) rfl (by kernel_rfl) rfl ?_
        refine wpList_storeB rfl (.tmp 6) (.tmp 90) rfl b6 0 true (.bool false) rfl rfl HB6e.out.cell HB6e.out.frozen ?_
        (simp only [Act.put])
        refine wpList_nil ⟨rfl, .inr ⟨we, HGc.out, rfl⟩, ?_⟩
        refine wpAnyC_done (by kernel_rfl) (fun _ => ?_) _
        clear hqq
        go_wp2_with fail
        exact HRet.out _ _ _ rfl (HB6e.out.set _) ((show Below w.heap.size w we from Grew.trans HG1.out (Grew.trans HG13.out (Grew.trans HG3W2.out HGc.out))).setCell (by have := HBB.out; simp; omega) _) (Marks.apart (E := 0) HM.out ((KeepsOthers.grew HGc.out).trans (KeepsOthers.setCell _ _ _))) (by have h1 := HL1.out; have h2 := HGc.out.size; simp; omega)
      · intro D c pre W _ _ hp h _
        exact absurd hp h
end Go.Proofs.Ytkkeodfoiffofaa
namespace Go.Proofs.Ytkkeodfoiffofaa.lawTableFrom
open Go.ChangeShapes Go.WideShapes Go.ChangeAt Go.RowKit
open Go.ChangeMaps (open_string shut_string)
set_option linter.unusedVariables false
set_option maxRecDepth 100000 in
theorem contract (H : Type) (enc : TypeId × Value → H) (W : World) (base : Nat) (args : Array Value) (ds gs : List (DataW H)) (before : List MemPlace)
    (hval : ∀ (j : Nat) t v, Try.f11.params[j]? = some t → args[j]? = some v → Value.okWide Try.prog W .any base t v)
    (hW : DataW.Whole enc Try.prog Try.f11.params.toList Rows.tableFromSpec.vars false W args.toList ds gs before)
    (hsz : (DataW.weightsEach Try.prog (Try.f11.params.toList ++ Rows.tableFromSpec.plain.varTypes Try.prog) (ds ++ gs)).all (· ≤ reachBytes) = true) :
    Calls Try.prog 11 args W fun e W' => ∃ v, e = .returned v ∧ Rows.tableFromSpec.post enc Try.prog Try.f11 false true false false W args v W' := by
  have hW' := hW
  obtain ⟨p, q, hA0, hV, rfl, hfz, hnd⟩ := hW
  have hA : DataW.TrodAll enc Try.prog W 0 (fun _ => true) true Try.f11.params.toList args.toList ds p := hA0
  rw [Try.params11] at hA hval hsz
  obtain ⟨v0, vs0, d0, ds0, p0, q0, hargs, rfl, rfl, h0, r0⟩ := trodAll_cons hA
  obtain ⟨v1, vs1, d1, ds1, p1, q1, rfl, rfl, rfl, h1, r1⟩ := trodAll_cons r0
  obtain ⟨v2, vs2, d2, ds2, p2, q2, rfl, rfl, rfl, h2, r2⟩ := trodAll_cons r1
  obtain ⟨rfl, rfl, rfl⟩ := trodAll_nil r2
  obtain rfl : args = #[v0, v1, v2] := by cases args; simp_all
  obtain ⟨rfl, rfl⟩ := trodVars_none hV
  obtain ⟨A0, n0, c0, rfl⟩ := okWide_slice Try.underlying32 (hval 0 32 v0 rfl rfl)
  have k0 := h0
  have lt0 : ∀ x ∈ p0, x.block < W.heap.size := by obtain ⟨m, hm⟩ := k0; exact DataW.trod_lt m _ _ _ hm
  obtain ⟨fuel0, hf0⟩ := h0
  obtain ⟨l0, b0, u0, hd0⟩ := open_items   hf0
  have z0 : n0 * 48 ≤ 140737488351232 := by
    rcases hd0 with ⟨_, h⟩ | ⟨es, sp, h, hl⟩
    · omega
    · have hb : Try.prog.bytesOf 29 = 48 := by kernel_rfl
      have := sized_slice hsz (j := 0) (t := 32) (e := 29) (elems := es) (spare := sp) rfl (by simpa using h) Try.underlying32
      rw [hb] at this
      unfold reachBytes at this
      omega
  obtain ⟨a1, rfl, rfl, rfl, w1⟩ := open_int Try.underlying3 (hval 1 3 v1 rfl rfl) h1
  obtain ⟨s2, rfl, rfl, rfl, ws2⟩ := open_string Try.underlying9 (hval 2 9 v2 rfl rfl) h2
  have z2 : s2.data.toList.length ≤ 140737488351232 := sized_string hsz (j := 2) rfl rfl
  clear hA0
  refine (tableFrom_walk A0 n0 c0 l0 a1 s2 W b0 z0 w1 z2).mono fun e W' ⟨he, bel⟩ => ?_
  subst he
  exact ⟨_, rfl, _, _, _, [], _, [], hW', trodAll_mk1 (shut_bool Try.underlying4 _), (trodAll_cons_mk (Below.trod laidOut (by kernel_rfl) (of_decide_eq_true (by kernel_rfl)) k0 bel lt0) (trodAll_cons_mk (shut_int Try.underlying3 w1) (trodAll_cons_mk (shut_string Try.underlying9 ws2) trodAll_mk0))), rfl, bel.frame _, fun h => by cases h⟩
set_option maxRecDepth 100000 in
theorem lifted (os : Os) (started : os.Started) (H : Type) (enc : TypeId × Value → H) :
    ReturnsInHanded {} Try.checked os 11 .any (Rows.tableFromSpec.pre6 enc Try.prog Try.f11 Rows.tableFromRow.domain false) (Rows.tableFromSpec.post enc Try.prog Try.f11 false true false false) := by
  refine returnsInHanded_of_change_sized (C := Try.checked) ownKnob_none started (by kernel_rfl) Try.func11
    (ChangeSpec.witness6 (enc := enc) (C := Try.checked) false ⟨#[], #[.slice none 0 0, .int .i64 0, .string ByteArray.empty], []⟩ 8 (by kernel_rfl) (by kernel_rfl) (by kernel_rfl) (by kernel_rfl)) ?_
  intro W base args ds gs before hval hW _ hsz _
  exact contract H enc W base args ds gs before hval hW hsz
theorem over : Rows.tableFromRow.holds Try.pinned (OpenSpec.ofChange Rows.tableFromSpec) :=
  OpenClaim.holds_of_wide 11 Try.f11 rfl rfl rfl rfl rfl rfl rfl ⟨rfl, rfl, rfl, rfl, rfl⟩ rfl rfl rfl rfl rfl (by kernel_rfl) Try.func11 (by kernel_rfl)
    (of_decide_eq_true (by kernel_rfl)) (by unfold Func.isWrapper; first | (rw [if_pos (by decide +kernel)]; kernel_rfl) | (rw [if_neg (by decide +kernel)]; exact ⟨rfl, rfl⟩))
    (fun os started H enc _ => lifted os started H enc)
theorem proved : Rows.TableFromSaid := over
#print axioms proved
end Go.Proofs.Ytkkeodfoiffofaa.lawTableFrom
