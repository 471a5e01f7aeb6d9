/- rolodexlaw8.walks: a table gives these from a key on, twice, left anywhere. -/
import Derived.Test.YtkkeodfoiffofaaAwake8
import Derived.Test.YtkkeodfoiffofaaTabD
import Derived.Deep.CutBlock
import Derived.LoopN
import Derived.Test.YtkkeodfoiffofaaRoundQuiet
namespace Go.Proofs.Ytkkeodfoiffofaa
open Go.RowKit
set_option linter.unusedVariables false
attribute [local go_sem] Oper.semAt_some
set_option maxRecDepth 100000 in
set_option maxHeartbeats 4000000 in
theorem law_walks {T n c bk nf cf : Nat} {A F : Option Addr} {l : List It} {fl : List UInt8} (key : List UInt8) (lv : Int) (A5 : Option Addr) (n5 c5 : Nat) (w : World) (h : TabW T A n c l bk F nf cf fl w) (hs : ItP.Srt l) (hl : l.length ≤ 300)
    (hI : Is w w.heap.size A5 n5 c5 (l.drop (TabP.frm key l))) :
    Calls Try.prog 39 #[.pointer (some ⟨T, 0, none⟩), .slice A5 n5 c5, .string ⟨key.toArray⟩, .int .i64 lv] w fun e w' => e = .returned (.bool true) ∧ Grew w w' := by
  obtain ⟨want, hwant⟩ : ∃ ls, ls = l.drop (TabP.frm key l) := ⟨_, rfl⟩
  have hwl : want.length ≤ 300 := by rw [hwant, List.length_drop]; omega
  rw [← hwant] at hI
  obtain ⟨wL, hwL⟩ : ∃ W, W = ((w.alloc (.cells #[.slice A5 n5 c5] 32)).alloc (.cells #[.int .i64 lv] 3)).alloc (.cells #[.bool false] 4) := ⟨_, rfl⟩
  have HGL := Lib.hid (show Grew w wL by rw [hwL]; exact ((grew_new w _).trans (grew_new _ _)).trans (grew_new _ _))
  have HB26 := Lib.hid (show Boxed wL w.heap.size 32 (.slice A5 n5 c5) by rw [hwL]; exact ((Boxed.new w _ _).alloc _).alloc _)
  have HB7 := Lib.hid (show Boxed wL (w.heap.size + 1) 3 (.int .i64 lv) by rw [hwL]; have := (Boxed.new (w.alloc (.cells #[.slice A5 n5 c5] 32)) 3 (.int .i64 lv)).alloc (.cells #[.bool false] 4); simpa using this)
  have HB8 := Lib.hid (show Boxed wL (w.heap.size + 2) 4 (.bool false) by rw [hwL]; have := Boxed.new ((w.alloc (.cells #[.slice A5 n5 c5] 32)).alloc (.cells #[.int .i64 lv] 3)) 4 (.bool false); simpa using this)
  have HWL := Lib.hid hwL
  have HFr := Lib.hid (show Calls Try.prog 40 #[.pointer (some ⟨T, 0, none⟩), .string ⟨key.toArray⟩] wL fun e w' => ∃ B A' n' c', e = .returned (.func (.func 71) #[] #[.pointer (some ⟨B, 0, none⟩)]) ∧ Boxed w' B 32 (.slice A' n' c') ∧ Is w' w'.heap.size A' n' c' want ∧ Grew wL w' from by
    have := tab_from key wL (h.grew HGL.out) hs
    rw [← hwant] at this
    exact this)
  have hl5 : want.length = n5 := hI.len
  have hn5c := hI.le
  have HIw := Lib.hid hI
  clear hwL hwant h hs hl hI
  have hfn : ∀ (f : Nat) (A : Array Value) (W : World), (binOp .eql 45 (.func (.func f) #[] A) .nilFunc).run Try.prog W = .ok (.bool false) W := fun f A W => by kernel_rfl
  refine calls_marks Try.func39 rfl ?_
  simp only [Try.ntmps39, List.size_toArray, List.length_cons, List.length_nil, Nat.reduceAdd, Nat.reduceSub, Array.replicate_succ, Array.replicate_zero, List.push_toArray, List.append_toArray, List.nil_append, List.cons_append]
  go_upto_region 1 with fail
  rw [← HWL.out]
  obtain ⟨b26, hb26⟩ : ∃ b, b = w.heap.size := ⟨_, rfl⟩
  obtain ⟨b7, hb7⟩ : ∃ b, b = w.heap.size + 1 := ⟨_, rfl⟩
  obtain ⟨b8, hb8⟩ : ∃ b, b = w.heap.size + 2 := ⟨_, rfl⟩
  have e8 : w.heap.size + 1 + 1 = b8 := by omega
  rw [← hb26] at HB26
  rw [← hb7] at HB7
  rw [← hb8] at HB8
  try rw [e8]
  try rw [← hb8]
  rw [← hb7, ← hb26]
  have HBB := Lib.hid (show w.heap.size ≤ b8 by omega)
  clear hb26 hb7 hb8 HWL e8
  go_upto_region 2 with (go_at_call 40; ((with_reducible refine HFr.out.mono ?_); rintro e w13 ⟨Bs, A6, n6, c6, rfl, hB, hI, hG⟩; have HBs := Lib.hid hB; have HIs := Lib.hid hI; have HGs := Lib.hid hG; clear hB hI hG))
  go_wp2_with fail
  have HB713 := Lib.hid (boxed_grew HB7.out HGs.out)
  have HB813 := Lib.hid (boxed_grew HB8.out HGs.out)
  have HB26b := Lib.hid (boxed_grew HB26.out HGs.out)
  have HGw := Lib.hid (HGL.out.trans HGs.out)
  have HIW := Lib.hid (HIw.out.grew HGw.out)
  have HGV : Hid (∀ W, Grew w13 W → (∀ g, keepsvalues1 Bs A6 want g → g < w13.heap.size) ∧ Gives Try.prog 71 #[.pointer (some ⟨Bs, 0, none⟩)] (fun x : It => #[iv x]) (keepsvalues1 Bs A6 want) want W) := Lib.hid fun W hW =>
    ⟨(values1_gives Bs n6 c6 A6 want w13 HBs.out.cell HIs.out).1, (values1_gives Bs n6 c6 A6 want W (boxed_grew HBs.out hW).cell (HIs.out.grew hW)).2⟩
  clear HB26 HB7 HB8 HFr HGs HIw hfn
  refine wp_loop_rounds 3 ?_
  rw [rounds_succ]
  obtain ⟨w14, hw14⟩ : ∃ W, W = w13.alloc (.cells #[.int .i64 0] 3) := ⟨_, rfl⟩
  obtain ⟨b28, hb28⟩ : ∃ b, b = w13.heap.size := ⟨_, rfl⟩
  have HB28 := Lib.hid (show Boxed w14 b28 3 (.int .i64 0) by rw [hw14, hb28]; exact Boxed.new w13 _ _)
  have HG14 := Lib.hid (show Grew w13 w14 by rw [hw14]; exact grew_new w13 _)
  rw [← hw14, ← hb28]
  have HE28 := Lib.hid hb28
  clear hw14 hb28
  have c28 := HB28.out.cell
  go_upto_block 2 with fail
  obtain ⟨wA0, hwA0⟩ : ∃ W, W = w14.alloc (.cells #[.int .i64 0] 3) := ⟨_, rfl⟩
  obtain ⟨b290, hb290⟩ : ∃ b, b = w14.heap.size := ⟨_, rfl⟩
  have HB290 := Lib.hid (show Boxed wA0 b290 3 (.int .i64 0) by rw [hwA0, hb290]; exact Boxed.new w14 _ _)
  have HBA0 := Lib.hid (show Boxed wA0 b28 3 (.int .i64 0) by rw [hwA0]; exact HB28.out.alloc _)
  have HGA0 := Lib.hid (show Grew w13 wA0 by rw [hwA0]; exact HG14.out.trans (grew_new w14 _))
  have HLT0 := Lib.hid (show w13.heap.size ≤ b28 ∧ b28 < b290 by rw [hb290]; exact ⟨(Nat.le_of_eq HE28.out.symm), HB28.out.lt⟩)
  rw [← hwA0, ← hb290]
  clear hwA0 hb290
  refine wp_rangeIb 2 23 12 (gf := 71) (lb := #[.pointer (some ⟨Bs, 0, none⟩)]) (K := keepsvalues1 Bs A6 want) (xs := want) rfl (enters_of Try.func71 (by kernel_rfl) rfl)
    (fun g hg => Nat.lt_of_lt_of_le ((HGV.out _ HGA0.out).1 g hg) HGA0.out.size) (HGV.out _ HGA0.out).2
    (fun pre W => Boxed W b28 3 (.int .i64 0) ∧ Boxed W b290 3 (.int .i64 (pre.length : Int)) ∧ Grew w13 W) (fun pre W => Boxed W b28 3 (.int .i64 0) ∧ Grew w13 W)
    (fun s W W' h _ ha => ⟨ha.boxed h.1, ha.boxed h.2.1, ha.kept h.2.2 HGA0.out.size⟩) (fun s W W' h _ ha => ⟨ha.boxed h.1, ha.kept h.2 HGA0.out.size⟩) ⟨HBA0.out, HB290.out, HGA0.out⟩ ?_ ?_ ?_
  · intro l x W K' hK
    gi_wp2
    exact hK
  · rintro l pre x b W ⟨h28, h29, hG⟩ hsz hIb hb hlen
    have HIB := Lib.hid hIb.range
    have c28 := h28.cell
    have c29 := h29.cell
    have f29 := h29.frozen
    have c26 := (boxed_grew HB26b.out hG).cell
    have c7 := (boxed_grew HB713.out hG).cell
    have c8 := (boxed_grew HB813.out hG).cell
    have f8 := (boxed_grew HB813.out hG).frozen
    obtain ⟨y, hy⟩ : ∃ y, want[pre.length]? = some y := ⟨_, List.getElem?_eq_getElem hlen⟩
    obtain ⟨g5, o5, e5, _, hr5⟩ := (HIW.out.grew hG).at hy
    subst e5
    have HR5 := Lib.hid hr5
    have i0 : (0 : Int) ≤ (pre.length : Int) := by omega
    have i1 : (pre.length : Int) < (n5 : Int) := by omega
    have i2 : ¬ (n5 : Int) ≤ (pre.length : Int) := by omega
    have i3 : decide (n5 ≤ pre.length) = false := by simp; omega
    have HY := Lib.hid hy
    have H28 := Lib.hid h28
    have H29 := Lib.hid h29
    have HGr := Lib.hid hG
    have hp3 : pre.length + 1 ≤ 300 := by omega
    clear hr5 hy h28 h29 hG hIb hlen
    simp only [actI, List.setIfInBounds_toArray, List.set_cons_zero, List.set_cons_succ]
    by_cases hx : x = y
    · have hne := fun W => neq_item x y W
      rw [show (!decide (x = y)) = false by simp [hx]] at hne
      clear hx
      gi_wp2
      refine wpIn_region_quiet_round (by kernel_rfl) rfl (by kernel_rfl) ?_
      repeat (first | gi_big_quiet_step (fail) | (refine wpQuietIn_loadI (o := ⟨some 29, _, _, _, _, _⟩) (.tmp 12) rfl rfl HIB.out rfl ?_; (simp only [Act.put, List.setIfInBounds_toArray, List.set_cons_succ, List.set_cons_zero])) | (refine wpQuietIn_loadI (o := ⟨some 33, _, _, _, _, _⟩) (.tmp 32) rfl rfl HR5.out rfl ?_; (simp only [Act.put, List.setIfInBounds_toArray, List.set_cons_succ, List.set_cons_zero])) | (refine wpQuietIn_neqI (o := ⟨some 34, _, _, _, _, _⟩) (.tmp 29) (.tmp 33) rfl rfl rfl hne rfl ?_; (simp only [Act.put, List.setIfInBounds_toArray, List.set_cons_succ, List.set_cons_zero])))
      refine wpQuietIn_nil ?_
      intro _ hw'
      obtain ⟨nq, hw''⟩ := hw'
      subst hw''
      have HKO := Lib.hid (show KeepsOthers W (W.drewN nq) from KeepsOthers.grew (Grew.drewN _ _))
      have HKS : Hid (∀ v, KeepSet (keepsvalues1 Bs A6 want) W ((W.drewN nq).setCell ⟨b290, 0, none⟩ v)) := Lib.hid fun v => KeepSet.trans (KeepSet.below (Grew.drewN _ _) fun g hg => Nat.lt_of_lt_of_le ((HGV.out _ HGr.out).1 g hg) HGr.out.size) (KeepSet.setCell _ _ _ fun hk => by
        have h1 := (HGV.out _ (Grew.refl _)).1 _ hk
        have h2 := HLT0.out
        simp at h1
        omega)
      have HI : Hid (Boxed ((W.drewN nq).setCell ⟨b290, 0, none⟩ (.int .i64 ((pre.length : Int) + 1))) b28 3 (.int .i64 0) ∧ Boxed ((W.drewN nq).setCell ⟨b290, 0, none⟩ (.int .i64 ((pre.length : Int) + 1))) b290 3 (.int .i64 ((pre ++ [x]).length : Int)) ∧ Grew w13 ((W.drewN nq).setCell ⟨b290, 0, none⟩ (.int .i64 ((pre.length : Int) + 1)))) := Lib.hid
        ⟨(Below.heap_setCell _ _ _ _ (by have := HLT0.out; simp; omega)).trans H28.out, by have h := Boxed.set (W := W.drewN nq) (.int .i64 ((pre.length : Int) + 1)) H29.out; rw [List.length_append, List.length_singleton, Int.natCast_add]; exact h, (HGr.out.trans (Grew.drewN _ _)).setCell (by have := HLT0.out; simp; omega) _⟩
      have c28' := HI.out.1.cell
      have c29' : ((W.drewN nq).setCell ⟨b290, 0, none⟩ (.int .i64 ((pre.length : Int) + 1))).cell? ⟨b290, 0, none⟩ = some (.int .i64 ((pre.length : Int) + 1)) := by have := HI.out.2.1.cell; simpa using this
      have c7' := (boxed_grew HB713.out HI.out.2.2).cell
      by_cases hlv : lv = (pre.length : Int) + 1
      · have hlb : ((pre.length : Int) + 1 == lv) = true := by simp [hlv]
        have HLV := Lib.hid hlv
        clear hlv
        gi_wp2
        exact ⟨HKO.out.trans (KeepsOthers.setCell _ _ _), .inl ⟨rfl, HI.out.1, HI.out.2.2⟩⟩
      · have hlb : ((pre.length : Int) + 1 == lv) = false := by simp; omega
        clear hlv
        gi_wp2
        exact ⟨HKO.out.trans (KeepsOthers.setCell _ _ _), HKS.out _, HI.out⟩
    · have hne : (!decide (x = y)) = true := by simp [hx]
      have HX := Lib.hid hx
      clear hx
      gi_wp2
      refine wpIn_region_quiet_round (by kernel_rfl) rfl (by kernel_rfl) ?_
      repeat (first | gi_big_quiet_step (fail) | (refine wpQuietIn_loadI (o := ⟨some 29, _, _, _, _, _⟩) (.tmp 12) rfl rfl HIB.out rfl ?_; (simp only [Act.put, List.setIfInBounds_toArray, List.set_cons_succ, List.set_cons_zero])) | (refine wpQuietIn_loadI (o := ⟨some 33, _, _, _, _, _⟩) (.tmp 32) rfl rfl HR5.out rfl ?_; (simp only [Act.put, List.setIfInBounds_toArray, List.set_cons_succ, List.set_cons_zero])) | (refine wpQuietIn_neqI (o := ⟨some 34, _, _, _, _, _⟩) (.tmp 29) (.tmp 33) rfl rfl rfl hne rfl ?_; (simp only [Act.put, List.setIfInBounds_toArray, List.set_cons_succ, List.set_cons_zero])))
      refine wpQuietIn_nil ?_
      intro _ hw'
      obtain ⟨nq, hw''⟩ := hw'
      subst hw''
      have HKO := Lib.hid (show KeepsOthers W (W.drewN nq) from KeepsOthers.grew (Grew.drewN _ _))
      gi_wp2
      exact ⟨HKO.out.trans (KeepsOthers.setCell _ _ _), .inr fun hp => HX.out (by
        obtain ⟨r, hr⟩ := hp
        have h1 : want[pre.length]? = some x := by rw [← hr]; simp
        exact Option.some.inj (h1.symm.trans HY.out))⟩
  · rintro D0 W0 hD hsz hor hd'
    have HM0 := Lib.hid ((Marks.nil w13.heap.size W0).cons (Nat.le_trans HGA0.out.size hD) hd' (fun m h => by cases h))
    have h28 : Boxed W0 b28 3 (.int .i64 0) := by exact hor.elim (fun h => h.1) (fun ⟨_, _, h⟩ => h.1)
    have hG : Grew w13 W0 := by exact hor.elim (fun h => h.2.2) (fun ⟨_, _, h⟩ => h.2)
    have c28 := h28.cell
    have HGW0 := Lib.hid hG
    have HD00 := Lib.hid hd'
    have HDL := Lib.hid (Nat.le_trans HGA0.out.size hD)
    have hD0lt : D0 < W0.heap.size := (Array.getElem?_eq_some_iff.1 hd').1
    clear hor hd'
    go_wp2_with fail
    rw [rounds_succ]
    obtain ⟨w16, hw16⟩ : ∃ W, W = W0.alloc (.cells #[.int .i64 1] 3) := ⟨_, rfl⟩
    obtain ⟨b281, hb281⟩ : ∃ b, b = W0.heap.size := ⟨_, rfl⟩
    have HB281 := Lib.hid (show Boxed w16 b281 3 (.int .i64 1) by rw [hw16, hb281]; exact Boxed.new W0 _ _)
    have HG16 := Lib.hid (show Grew w13 w16 by rw [hw16]; exact HGW0.out.trans (grew_new W0 _))
    have HD16 := Lib.hid (show w16.heap[D0]? = some (.deferred (some [])) by rw [hw16]; exact (Below.heap_alloc W0 _ D0 hD0lt).trans HD00.out)
    rw [← hw16, ← hb281]
    have HE281 := Lib.hid hb281
    have HL281 := Lib.hid (show w13.heap.size ≤ b281 by rw [hb281]; exact hG.size)
    have HD0 := Lib.hid (show D0 < w16.heap.size by rw [hw16]; simp; omega)
    clear hw16 hb281 hG hsz hD hD0lt
    have c281 := HB281.out.cell
    go_upto_block 2 with fail
    obtain ⟨wA1, hwA1⟩ : ∃ W, W = w16.alloc (.cells #[.int .i64 0] 3) := ⟨_, rfl⟩
    obtain ⟨b291, hb291⟩ : ∃ b, b = w16.heap.size := ⟨_, rfl⟩
    have HB291 := Lib.hid (show Boxed wA1 b291 3 (.int .i64 0) by rw [hwA1, hb291]; exact Boxed.new w16 _ _)
    have HBA1 := Lib.hid (show Boxed wA1 b281 3 (.int .i64 1) by rw [hwA1]; exact HB281.out.alloc _)
    have HGA1 := Lib.hid (show Grew w13 wA1 by rw [hwA1]; exact HG16.out.trans (grew_new w16 _))
    have HLT1 := Lib.hid (show w13.heap.size ≤ b281 ∧ b281 < b291 by rw [hb291]; exact ⟨HL281.out, HB281.out.lt⟩)
    have HDA := Lib.hid (show wA1.heap[D0]? = some (.deferred (some [])) by rw [hwA1]; exact (Below.heap_alloc w16 _ D0 HD0.out).trans HD16.out)
    have HDW := Lib.hid (show D0 < wA1.heap.size by rw [hwA1]; have := HD0.out; simp; omega)
    rw [← hwA1, ← hb291]
    clear hwA1 hb291
    refine wp_rangeIb 2 23 12 (gf := 71) (lb := #[.pointer (some ⟨Bs, 0, none⟩)]) (K := keepsvalues1 Bs A6 want) (xs := want) rfl (enters_of Try.func71 (by kernel_rfl) rfl)
      (fun g hg => Nat.lt_of_lt_of_le ((HGV.out _ HGA1.out).1 g hg) HGA1.out.size) (HGV.out _ HGA1.out).2
      (fun pre W => Boxed W b281 3 (.int .i64 1) ∧ Boxed W b291 3 (.int .i64 (pre.length : Int)) ∧ Grew w13 W ∧ W.heap[D0]? = some (.deferred (some []))) (fun pre W => False)
      (fun s W W' h _ ha => ⟨ha.boxed h.1, ha.boxed h.2.1, ha.kept h.2.2.1 HGA1.out.size, (ha.below.block D0 HDW.out).trans h.2.2.2⟩) (fun s W W' h _ ha => h) ⟨HBA1.out, HB291.out, HGA1.out, HDA.out⟩ ?_ ?_ ?_
    · intro l x W K' hK
      gi_wp2
      exact hK
    · rintro l pre x b W ⟨h28, h29, hG, hDD⟩ hsz hIb hb hlen
      have HIB := Lib.hid hIb.range
      have c28 := h28.cell
      have c29 := h29.cell
      have f29 := h29.frozen
      have c26 := (boxed_grew HB26b.out hG).cell
      have c7 := (boxed_grew HB713.out hG).cell
      have c8 := (boxed_grew HB813.out hG).cell
      have f8 := (boxed_grew HB813.out hG).frozen
      obtain ⟨y, hy⟩ : ∃ y, want[pre.length]? = some y := ⟨_, List.getElem?_eq_getElem hlen⟩
      obtain ⟨g5, o5, e5, _, hr5⟩ := (HIW.out.grew hG).at hy
      subst e5
      have HR5 := Lib.hid hr5
      have i0 : (0 : Int) ≤ (pre.length : Int) := by omega
      have i1 : (pre.length : Int) < (n5 : Int) := by omega
      have i2 : ¬ (n5 : Int) ≤ (pre.length : Int) := by omega
      have i3 : decide (n5 ≤ pre.length) = false := by simp; omega
      have HY := Lib.hid hy
      have H28 := Lib.hid h28
      have H29 := Lib.hid h29
      have HGr := Lib.hid hG
      have HDD := Lib.hid hDD
      clear hDD
      have hp3 : pre.length + 1 ≤ 300 := by omega
      clear hr5 hy h28 h29 hG hIb hlen
      simp only [actI, List.setIfInBounds_toArray, List.set_cons_zero, List.set_cons_succ]
      by_cases hx : x = y
      · have hne := fun W => neq_item x y W
        rw [show (!decide (x = y)) = false by simp [hx]] at hne
        clear hx
        gi_wp2
        refine wpIn_region_quiet_round (by kernel_rfl) rfl (by kernel_rfl) ?_
        repeat (first | gi_big_quiet_step (fail) | (refine wpQuietIn_loadI (o := ⟨some 29, _, _, _, _, _⟩) (.tmp 12) rfl rfl HIB.out rfl ?_; (simp only [Act.put, List.setIfInBounds_toArray, List.set_cons_succ, List.set_cons_zero])) | (refine wpQuietIn_loadI (o := ⟨some 33, _, _, _, _, _⟩) (.tmp 32) rfl rfl HR5.out rfl ?_; (simp only [Act.put, List.setIfInBounds_toArray, List.set_cons_succ, List.set_cons_zero])) | (refine wpQuietIn_neqI (o := ⟨some 34, _, _, _, _, _⟩) (.tmp 29) (.tmp 33) rfl rfl rfl hne rfl ?_; (simp only [Act.put, List.setIfInBounds_toArray, List.set_cons_succ, List.set_cons_zero])))
        refine wpQuietIn_nil ?_
        intro _ hw'
        obtain ⟨nq, hw''⟩ := hw'
        subst hw''
        have HKO := Lib.hid (show KeepsOthers W (W.drewN nq) from KeepsOthers.grew (Grew.drewN _ _))
        have HKS : Hid (∀ v, KeepSet (keepsvalues1 Bs A6 want) W ((W.drewN nq).setCell ⟨b291, 0, none⟩ v)) := Lib.hid fun v => KeepSet.trans (KeepSet.below (Grew.drewN _ _) fun g hg => Nat.lt_of_lt_of_le ((HGV.out _ HGr.out).1 g hg) HGr.out.size) (KeepSet.setCell _ _ _ fun hk => by
          have h1 := (HGV.out _ (Grew.refl _)).1 _ hk
          have h2 := HLT1.out
          simp at h1
          omega)
        have HI : Hid (Boxed ((W.drewN nq).setCell ⟨b291, 0, none⟩ (.int .i64 ((pre.length : Int) + 1))) b281 3 (.int .i64 1) ∧ Boxed ((W.drewN nq).setCell ⟨b291, 0, none⟩ (.int .i64 ((pre.length : Int) + 1))) b291 3 (.int .i64 ((pre ++ [x]).length : Int)) ∧ Grew w13 ((W.drewN nq).setCell ⟨b291, 0, none⟩ (.int .i64 ((pre.length : Int) + 1)))) := Lib.hid
          ⟨(Below.heap_setCell _ _ _ _ (by have := HLT1.out; simp; omega)).trans H28.out, by have h := Boxed.set (W := W.drewN nq) (.int .i64 ((pre.length : Int) + 1)) H29.out; rw [List.length_append, List.length_singleton, Int.natCast_add]; exact h, (HGr.out.trans (Grew.drewN _ _)).setCell (by have := HLT1.out; simp; omega) _⟩
        have c28' := HI.out.1.cell
        have c29' : ((W.drewN nq).setCell ⟨b291, 0, none⟩ (.int .i64 ((pre.length : Int) + 1))).cell? ⟨b291, 0, none⟩ = some (.int .i64 ((pre.length : Int) + 1)) := by have := HI.out.2.1.cell; simpa using this
        have c7' := (boxed_grew HB713.out HI.out.2.2).cell
        gi_wp2
        exact ⟨HKO.out.trans (KeepsOthers.setCell _ _ _), HKS.out _, HI.out.1, HI.out.2.1, HI.out.2.2, (KeepsOthers.setCell _ _ _).same _ _ (HKO.out.same _ _ HDD.out rfl) rfl⟩
      · have hne : (!decide (x = y)) = true := by simp [hx]
        have HX := Lib.hid hx
        clear hx
        gi_wp2
        refine wpIn_region_quiet_round (by kernel_rfl) rfl (by kernel_rfl) ?_
        repeat (first | gi_big_quiet_step (fail) | (refine wpQuietIn_loadI (o := ⟨some 29, _, _, _, _, _⟩) (.tmp 12) rfl rfl HIB.out rfl ?_; (simp only [Act.put, List.setIfInBounds_toArray, List.set_cons_succ, List.set_cons_zero])) | (refine wpQuietIn_loadI (o := ⟨some 33, _, _, _, _, _⟩) (.tmp 32) rfl rfl HR5.out rfl ?_; (simp only [Act.put, List.setIfInBounds_toArray, List.set_cons_succ, List.set_cons_zero])) | (refine wpQuietIn_neqI (o := ⟨some 34, _, _, _, _, _⟩) (.tmp 29) (.tmp 33) rfl rfl rfl hne rfl ?_; (simp only [Act.put, List.setIfInBounds_toArray, List.set_cons_succ, List.set_cons_zero])))
        refine wpQuietIn_nil ?_
        intro _ hw'
        obtain ⟨nq, hw''⟩ := hw'
        subst hw''
        have HKO := Lib.hid (show KeepsOthers W (W.drewN nq) from KeepsOthers.grew (Grew.drewN _ _))
        gi_wp2
        exact ⟨HKO.out.trans (KeepsOthers.setCell _ _ _), .inr fun hp => HX.out (by
          obtain ⟨r, hr⟩ := hp
          have h1 : want[pre.length]? = some x := by rw [← hr]; simp
          exact Option.some.inj (h1.symm.trans HY.out))⟩
    · rintro D1 W1 hD hsz hor hd'
      have hor : Boxed W1 b281 3 (.int .i64 1) ∧ Boxed W1 b291 3 (.int .i64 (want.length : Int)) ∧ Grew w13 W1 ∧ W1.heap[D0]? = some (.deferred (some [])) := hor.elim (fun h => h) (fun ⟨_, _, h⟩ => h.elim)
      obtain ⟨h28, h29, hG, hDD⟩ := hor
      have HM1 := Lib.hid (((Marks.nil w13.heap.size W1).cons HDL.out hDD (fun m h => by cases h)).cons (Nat.le_trans HGA1.out.size hD) hd' (fun m h => by
        have e : m = D0 := by simpa using h
        have := HDW.out
        omega))
      have c28 := h28.cell
      have c29 : W1.cell? ⟨b291, 0, none⟩ = some (.int .i64 (n5 : Int)) := by rw [← hl5]; exact h29.cell
      have c26 := (boxed_grew HB26b.out hG).cell
      have HGW1 := Lib.hid hG
      have HB8W := Lib.hid (boxed_grew HB813.out hG)
      clear hD hd' h28 h29 hG hDD
      go_wp2_with fail
      rw [rounds_succ]
      obtain ⟨w17, hw17⟩ : ∃ W, W = W1.alloc (.cells #[.int .i64 2] 3) := ⟨_, rfl⟩
      obtain ⟨b282, hb282⟩ : ∃ b, b = W1.heap.size := ⟨_, rfl⟩
      have HB282 := Lib.hid (show Boxed w17 b282 3 (.int .i64 2) by rw [hw17, hb282]; exact Boxed.new W1 _ _)
      have HG17 := Lib.hid (show Grew W1 w17 by rw [hw17]; exact grew_new W1 _)
      have HB817 := Lib.hid (boxed_grew HB8W.out HG17.out)
      rw [← hw17, ← hb282]
      have HM17 := Lib.hid (Marks.apart (E := 0) HM1.out (KeepsOthers.grew HG17.out))
      have HGL17 := Lib.hid (HGW1.out.trans HG17.out)
      clear hw17 hb282 c28 c29 c26
      have c282 := HB282.out.cell
      have c817 := HB817.out.cell
      have f817 := HB817.out.frozen
      go_wp2_with fail
      have HBt := Lib.hid (HB817.out.set (.bool true))
      have HGt := Lib.hid (Below.setCell (p := ⟨b8, 0, none⟩) (show Below w.heap.size w w17 from HGw.out.trans HGL17.out) (by have := HBB.out; show w.heap.size ≤ b8; omega) (.bool true))
      refine postM_retC (v := .bool true) (D := w13.heap.size) (W := w17.setCell ⟨b8, 0, none⟩ (.bool true)) (Marks.apart (E := 0) HM17.out (KeepsOthers.setCell _ _ _)) (by have := HGL17.out.size; simpa using this) fun W' ha => ?_
      have hc := load_boxb8 (ha.boxed HBt.out).cell
      exact ⟨by simp [results, Try.results39, asAddr, hc], rfl, ha.kept HGt.out HGw.out.size⟩
end Go.Proofs.Ytkkeodfoiffofaa
