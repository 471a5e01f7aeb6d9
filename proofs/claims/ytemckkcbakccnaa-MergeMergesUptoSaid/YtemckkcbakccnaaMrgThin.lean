/- The walk of merge.Thin. -/
import Derived.Test.YtemckkcbakccnaaMrgThinP
namespace Go.Proofs.Ytemckkcbakccnaa
open Go.RowKit
set_option linter.unusedVariables false
attribute [local go_sem] Oper.semAt_some
set_option maxRecDepth 100000 in
set_option maxHeartbeats 4000000 in
theorem mrg_thin (A K : Option Addr) (n c kn kc : Nat) (l : List It) (ms : List Nat) (bottom : Bool) (w : World) (h : Is w w.heap.size A n c l) (hk : Ns w w.heap.size K kn kc ms) (hn : n ≤ 1000000) (hkn : kn ≤ 999999) :
    Calls Try.prog 13 #[.slice A n c, .slice K kn kc, .bool bottom] w fun e w' => ∃ A' n' c', e = .returned (.slice A' n' c') ∧ OwnI w' w.heap.size A' n' c' (MrgP.thin l ms bottom) ∧ Below w.heap.size w w' := by
  have hl := h.len
  have hm := h.le
  have hx := h.max
  have hkl := hk.len
  unfold maxLen at hx
  have HI := Lib.hid h
  have HK := Lib.hid hk
  have HSr := Lib.hid (mrg_sorted A n c l w h hn)
  have HCl : Hid (∀ W, Below w.heap.size w W → Calls Try.prog 26 #[.slice K kn kc] W fun e w' => ∃ A' n' c', e = .returned (.slice A' n' c') ∧ OwnU w' W.heap.size A' n' c' ms ∧ Grew W w') := Lib.hid fun W hW => clone_u K kn kc ms W ((hk.below hW).more hW.size) (by omega)
  clear h hk
  obtain ⟨s, hs⟩ : ∃ s, s = ItP.srt l := ⟨_, rfl⟩
  have HS := Lib.hid hs
  rw [← hs] at HSr
  clear hs
  refine calls_marks Try.func13 rfl ?_
  simp only [Try.ntmps13, List.size_toArray, List.length_cons, List.length_nil, Nat.reduceAdd, Nat.reduceSub, Array.replicate_succ, Array.replicate_zero, List.push_toArray, List.append_toArray, List.nil_append, List.cons_append]
  cases s
  · go_wp2_with (go_at_call 20; ((with_reducible refine HSr.out.mono ?_); rintro e w2 ⟨rfl, hG⟩; have HG2 := Lib.hid hG; clear hG))
    refine postM_ret01 rfl rfl ?_
    exact ⟨none, 0, 0, rfl, by unfold MrgP.thin; rw [← HS.out, if_neg (by decide)]; exact OwnI.nil _ _, HG2.out⟩
  · go_upto_region 3 with (go_at_call 20; ((with_reducible refine HSr.out.mono ?_); rintro e w2 ⟨rfl, hG⟩; have HB2 := Lib.hid (show Below w.heap.size w w2 from hG); clear hG))
    go_wp2_with (first
      | (go_at_call 26; ((with_reducible refine (HCl.out _ HB2.out).mono ?_); rintro e w3 ⟨A3, n3, c3, rfl, hO, hG⟩; have HO3 := Lib.hid hO; have HG3 := Lib.hid hG; have hn3 : n3 ≤ 999999 := (by have := hO.len; omega); clear hO hG))
      | (at_builtin; refine wpList_appU rfl (.tmp 20) (.tmp 21) rfl w2.heap.size A3 n3 c3 ms rfl (HO3.out.alloc _) (some ⟨w3.heap.size, 0, none⟩) 1 1 (w3.heap.size + 1) [m64 - 1] rfl rfl (URow.one w3 (m64 - 1) 27 (0, 0)) (by omega) (by have := HG3.out.size; simp; omega) ?_; intro A7 c7 w5 hO5 hg5 hB5; have HO5 := Lib.hid hO5; have HB5 := Lib.hid (show Below w.heap.size w w5 from HB2.out.trans (((HG3.out.alloc HG3.out.size _).trans hB5).mono HB2.out.size)); have hs5 : w3.heap.size ≤ w5.heap.size := (by have := hg5.size; simp at this; omega); clear hO5 hg5 hB5))
    -- LOOP
    obtain ⟨M, hM⟩ : ∃ M, M = ms ++ [m64 - 1] := ⟨_, rfl⟩
    rw [← hM] at HO5
    have HM := Lib.hid hM
    clear hM HO3 HG3 HCl HSr HK HB2
    go_loopw [8, 25] (fun o i wy => ∃ (k : Nat) (A2 : Option Addr) (n2 c2 : Nat), k ≤ n ∧ i = .int .i64 (k : Int) ∧ o = .slice A2 n2 c2 ∧ OwnI wy w5.heap.size A2 n2 c2 (MrgP.thinA M (l.take k)) ∧ Grew w5 wy) (fun _ i _ => n - (intOf i).toNat)
    case atStart => exact ⟨0, none, 0, 0, Nat.zero_le _, rfl, rfl, OwnI.nil _ _, Grew.refl _⟩
    case round =>
      obtain ⟨k, A2, n2, c2, hk, rfl, rfl, hO, hG⟩ := hrel
      have HO := Lib.hid hO
      have HG := Lib.hid hG
      have hn2 : n2 ≤ k := by
        have := MrgP.pick_le (MrgP.keepB M) (l.take k) []
        have h2 := hO.len
        unfold MrgP.thinA at h2
        rw [h2, List.length_take] at this
        omega
      clear hO hG
      have i0 : (0 : Int) ≤ (k : Int) := by omega
      by_cases hlt : k < n
      · obtain ⟨x, hx⟩ : ∃ y, l[k]? = some y := ⟨_, List.getElem?_eq_getElem (by omega)⟩
        obtain ⟨g1, o1, rfl, hb1, hr1⟩ := HI.out.at hx
        have HBr := Lib.hid (show Below w.heap.size w wr from HB5.out.trans (Below.mono HG.out HB5.out.size))
        obtain ⟨q0, q1, q2, q3⟩ := range_cells (range_below hr1 HBr.out hb1)
        have HADD0 : Hid (MrgP.thinA M (l.take (k + 1)) = MrgP.thinA M (l.take k) ++ (if MrgP.keepB M (l.take k) x = true then [x] else [])) := Lib.hid (MrgP.pick_add (MrgP.keepB M) hx)
        have i1 : (k : Int) < (n : Int) := by omega
        have HGI := Lib.hid (And.intro hb1 hr1)
        clear hr1 hx hb1
        obtain ⟨w7, hw7⟩ : ∃ W, W = (wr.alloc (.cells #[.string ⟨x.key.toArray⟩, .int .u64 (x.seq : Int), .bool x.gone, .string ⟨x.val.toArray⟩] 29)).alloc (.cells #[.int .u64 0] 27) := ⟨_, rfl⟩
        obtain ⟨b10, hb10⟩ : ∃ b, b = wr.heap.size := ⟨_, rfl⟩
        obtain ⟨b11, hb11⟩ : ∃ b, b = wr.heap.size + 1 := ⟨_, rfl⟩
        have HX := Lib.hid (show IBox w7 b10 x by rw [hw7, hb10]; exact (IBox.new wr x).alloc _)
        have HN := Lib.hid (show Boxed w7 b11 27 (.int .u64 0) by rw [hw7, hb11]; have := Boxed.new (wr.alloc (.cells #[.string ⟨x.key.toArray⟩, .int .u64 (x.seq : Int), .bool x.gone, .string ⟨x.val.toArray⟩] 29)) 27 (.int .u64 0); simpa using this)
        have HG7 := Lib.hid (show Grew w5 w7 by rw [hw7]; exact HG.out.trans ((grew_new wr _).trans (grew_new _ _)))
        have HO7 := Lib.hid (show OwnI w7 w5.heap.size A2 n2 c2 (MrgP.thinA M (l.take k)) by rw [hw7]; exact (HO.out.alloc _).alloc _)
        have HL10 := Lib.hid (show b10 < b11 ∧ w5.heap.size ≤ b10 by rw [hb10, hb11]; exact ⟨by omega, HG.out.size⟩)
        have HW7 := Lib.hid (And.intro hw7 (And.intro hb10 hb11))
        clear hw7 hb10 hb11 HO HG HBr
        go_upto_region 9 with fail
        rw [← HW7.out.1, ← HW7.out.2.2, ← HW7.out.2.1]
        clear HW7 q0 q1 q2 q3
        by_cases hk0 : k = 0
        · have HK0 := Lib.hid (MrgP.keepB_none (ms := M) (show MrgP.hidBy (l.take k) x = none by rw [hk0]; rfl) 0)
          have HK00 := Lib.hid hk0
          clear hk0
          have HFACTS := fun (W : World) (hW : Below w.heap.size w W) (hX : IBox W b10 x) => HK00.out
          go_upto_region 9 with fail
          obtain ⟨w8, hw8⟩ : ∃ W, W = World.drewN w7 1 := ⟨_, rfl⟩
          have HX8 := Lib.hid (show IBox w8 b10 x by rw [hw8]; exact HX.out.drewN 1)
          have HN8 := Lib.hid (show Boxed w8 b11 27 (.int .u64 0) by rw [hw8]; exact HN.out)
          have HG8 := Lib.hid (show Grew w5 w8 by rw [hw8]; exact HG7.out.trans (Grew.drewN _ _))
          have HO8 := Lib.hid (show OwnI w8 w5.heap.size A2 n2 c2 (MrgP.thinA M (l.take k)) by rw [hw8]; exact HO7.out.drewN 1)
          have hqq := HFACTS w8 (show Below w.heap.size w w8 from HB5.out.trans (Below.mono HG8.out HB5.out.size)) HX8.out
          refine wp_region_p (BoxC w8 false) [13, 14] (by kernel_rfl) (by kernel_rfl) (by kernel_rfl) (by rw [hw8]; exact .inl ⟨rfl, rfl⟩) ?_
          clear hw8
          repeat (first | (refine wpP_value (v := ?_) rfl rfl (fun x => ?_) ?_; rotate_left; (focus (simp [go_sem, hqq]; (try go_ints); first | done | (with_reducible rfl))); (simp only [Act.put, List.setIfInBounds_toArray, List.set_cons_succ, List.set_cons_zero])) | (refine wpP_skip rfl ?_; (simp only [Act.put, List.setIfInBounds_toArray, List.set_cons_succ, List.set_cons_zero])))
          refine wpP_make (.pointer (some ⟨w8.heap.size, 0, none⟩)) rfl rfl (fun W h => ?_) ?_
          · rcases h with ⟨_, rfl⟩ | ⟨h, _⟩ | ⟨h, _⟩
            · exact ⟨_, by simp [go_sem], .inr (.inl ⟨rfl, rfl⟩)⟩
            · omega
            · omega
          (simp only [Act.put, List.setIfInBounds_toArray, List.set_cons_succ, List.set_cons_zero])
          refine wpP_write rfl rfl (fun W h => ?_) ?_
          · rcases h with ⟨h, _⟩ | ⟨_, rfl⟩ | ⟨h, _⟩
            · omega
            · have c1 := (Boxed.new w8 4 (.bool false)).cell
              have f1 := (Boxed.new w8 4 (.bool false)).frozen
              exact ⟨_, by simp [go_sem, c1, f1], .inr (.inr ⟨rfl, rfl⟩)⟩
            · omega
          (simp only [Act.put])
          refine wpP_nil ?_
          intro w9 hz
          rcases hz with ⟨h, _⟩ | ⟨h, _⟩ | ⟨_, hw9⟩
          · omega
          · omega
          clear hqq
          obtain ⟨b12, hb12⟩ : ∃ b, b = w8.heap.size := ⟨_, rfl⟩
          rw [← hb12]
          have HHc := Lib.hid (show Boxed w9 b12 4 (.bool false) by rw [hw9, hb12]; exact BoxC.boxed)
          have HG89 := Lib.hid (show Grew w8 w9 by rw [hw9]; exact BoxC.grew (v := false) (p := 2) (.inr (.inr ⟨rfl, rfl⟩)))
          have HX9 := Lib.hid (HX8.out.grew HG89.out)
          have HN9 := Lib.hid (hBx2 HN8.out HG89.out)
          have HG9 := Lib.hid (HG8.out.trans HG89.out)
          have HO9 := Lib.hid (HO8.out.below_all HG89.out)
          have HL12 := Lib.hid (show b11 < b12 by rw [hb12]; exact HN8.out.lt)
          clear hw9 hb12 HX8 HN8 HG8 HO8 HG89 HX HN HG7 HO7
          have c12 := HHc.out.cell
          go_upto_region 12 with fail
          obtain ⟨d, hd⟩ : ∃ d, d = MrgP.keepB M (l.take k) x := ⟨_, rfl⟩
          have HCt : Hid (Calls Try.prog 27 #[.slice A7 (n3 + 1) c7, .func (.func 28) #[] #[.pointer (some ⟨b10, 0, none⟩), .pointer (some ⟨b12, 0, none⟩), .pointer (some ⟨b11, 0, none⟩)]] w9 fun e w' => e = .returned (.bool d) ∧ w9 = w') := Lib.hid (by
            have h := contains_u A7 (n3 + 1) c7 M x false 0 b10 b12 b11 w9 ((HO5.out.below_all HG9.out).ns (Nat.le_refl _)) HX9.out HHc.out.cell HN9.out.cell (by omega)
            rwa [← HK0.out, ← hd] at h)
          have HADD := Lib.hid (HADD0.out)
          rw [← hd] at HADD
          clear hd
          obtain ⟨e0, e1, e2, e3⟩ := range_cells HX9.out.range
          cases d
          · have HADD := Lib.hid (show MrgP.thinA M (l.take (k + 1)) = MrgP.thinA M (l.take k) by rw [HADD.out]; simp)
            clear e0 e1 e2 e3
            go_wp2_with (go_at_call 27; ((with_reducible refine HCt.out.mono ?_); rintro e w' ⟨rfl, rfl⟩))
            go_roundw
            case rel => exact ⟨k + 1, A2, n2, c2, hlt, by go_num, rfl, by rw [HADD.out]; exact HO9.out, HG9.out⟩
            case measure => simp [intOf]; omega
          · have HADD := Lib.hid (show MrgP.thinA M (l.take (k + 1)) = MrgP.thinA M (l.take k) ++ [x] by rw [HADD.out]; simp)
            have hbs := HG9.out.size
            go_wp2_with (first
              | (go_at_call 27; ((with_reducible refine HCt.out.mono ?_); rintro e w' ⟨rfl, rfl⟩))
              | (at_builtin; refine wpList_appI rfl (.tmp 53) (.tmp 55) rfl w5.heap.size A2 n2 c2 _ rfl (HO9.out.alloc _) (some ⟨w9.heap.size, 0, none⟩) 1 1 (w9.heap.size + 1) [x] rfl rfl (IRow.one w9 x _ _) (by omega) (by simp; omega) ?_; intro Aq cq wq hOq hgq hBq horq))
            go_roundw
            case rel => exact ⟨k + 1, Aq, _, cq, hlt, by go_num, rfl, by rw [HADD.out]; exact hOq, ((HG9.out.alloc HG9.out.size _).trans hBq)⟩
            case measure => simp [intOf]; omega
        · obtain ⟨j, rfl⟩ : ∃ j, k = j + 1 := ⟨k - 1, by omega⟩
          obtain ⟨z, hz⟩ : ∃ y, l[j]? = some y := ⟨_, List.getElem?_eq_getElem (by omega)⟩
          have HHB := Lib.hid (MrgP.hidBy_add (x := x) hz)
          have hrz := HI.out.range hz
          have HRZ := Lib.hid hrz
          rw [show ((j + 1 : Nat) : Int) = (j : Int) + 1 from by omega] at i0 i1 ⊢
          have i9 : (0 : Int) < (j : Int) + 1 := by omega
          have i10 : (j : Int) < (n : Int) := by omega
          have i11 : (0 : Int) ≤ (j : Int) := by omega
          clear hz hrz hk0
          by_cases hkey : z.key = x.key
          · have HK0 := Lib.hid (MrgP.keepB_some (ms := M) (show MrgP.hidBy (l.take (j + 1)) x = some z.seq by rw [HHB.out, if_pos hkey]))
            have t1 : (z.key == x.key) = true := by simpa using hkey
            clear hkey
            have HFACTS := fun (W : World) (hW : Below w.heap.size w W) (hX : IBox W b10 x) => And.intro t1 (And.intro i9 (And.intro i10 (And.intro i11 (And.intro (fun y : AnyOf (BoxC W true) => boxC_cells (range_below HRZ.out hW HGI.out.1) (Nat.lt_of_lt_of_le HGI.out.1 hW.size) y) (fun y : AnyOf (BoxC W true) => boxC_cells hX.range hX.lt y)))))
            go_upto_region 9 with fail
            obtain ⟨w8, hw8⟩ : ∃ W, W = World.drewN w7 1 := ⟨_, rfl⟩
            have HX8 := Lib.hid (show IBox w8 b10 x by rw [hw8]; exact HX.out.drewN 1)
            have HN8 := Lib.hid (show Boxed w8 b11 27 (.int .u64 0) by rw [hw8]; exact HN.out)
            have HG8 := Lib.hid (show Grew w5 w8 by rw [hw8]; exact HG7.out.trans (Grew.drewN _ _))
            have HO8 := Lib.hid (show OwnI w8 w5.heap.size A2 n2 c2 (MrgP.thinA M (l.take (j + 1))) by rw [hw8]; exact HO7.out.drewN 1)
            have hqq := HFACTS w8 (show Below w.heap.size w w8 from HB5.out.trans (Below.mono HG8.out HB5.out.size)) HX8.out
            refine wp_region_p (BoxC w8 true) [13, 14] (by kernel_rfl) (by kernel_rfl) (by kernel_rfl) (by rw [hw8]; exact .inl ⟨rfl, rfl⟩) ?_
            clear hw8
            repeat (first | (refine wpP_value (v := ?_) rfl rfl (fun x => ?_) ?_; rotate_left; (focus (simp [go_sem, hqq]; (try go_ints); first | done | (with_reducible rfl))); (simp only [Act.put, List.setIfInBounds_toArray, List.set_cons_succ, List.set_cons_zero])) | (refine wpP_skip rfl ?_; (simp only [Act.put, List.setIfInBounds_toArray, List.set_cons_succ, List.set_cons_zero])))
            refine wpP_make (.pointer (some ⟨w8.heap.size, 0, none⟩)) rfl rfl (fun W h => ?_) ?_
            · rcases h with ⟨_, rfl⟩ | ⟨h, _⟩ | ⟨h, _⟩
              · exact ⟨_, by simp [go_sem], .inr (.inl ⟨rfl, rfl⟩)⟩
              · omega
              · omega
            (simp only [Act.put, List.setIfInBounds_toArray, List.set_cons_succ, List.set_cons_zero])
            refine wpP_write rfl rfl (fun W h => ?_) ?_
            · rcases h with ⟨h, _⟩ | ⟨_, rfl⟩ | ⟨h, _⟩
              · omega
              · have c1 := (Boxed.new w8 4 (.bool false)).cell
                have f1 := (Boxed.new w8 4 (.bool false)).frozen
                exact ⟨_, by simp [go_sem, c1, f1], .inr (.inr ⟨rfl, rfl⟩)⟩
              · omega
            (simp only [Act.put])
            refine wpP_nil ?_
            intro w9 hz
            rcases hz with ⟨h, _⟩ | ⟨h, _⟩ | ⟨_, hw9⟩
            · omega
            · omega
            clear hqq
            obtain ⟨b12, hb12⟩ : ∃ b, b = w8.heap.size := ⟨_, rfl⟩
            rw [← hb12]
            have HHc := Lib.hid (show Boxed w9 b12 4 (.bool true) by rw [hw9, hb12]; exact BoxC.boxed)
            have HG89 := Lib.hid (show Grew w8 w9 by rw [hw9]; exact BoxC.grew (v := true) (p := 2) (.inr (.inr ⟨rfl, rfl⟩)))
            have HX9 := Lib.hid (HX8.out.grew HG89.out)
            have HN9 := Lib.hid (hBx2 HN8.out HG89.out)
            have HG9 := Lib.hid (HG8.out.trans HG89.out)
            have HO9 := Lib.hid (HO8.out.below_all HG89.out)
            have HL12 := Lib.hid (show b11 < b12 by rw [hb12]; exact HN8.out.lt)
            clear hw9 hb12 HX8 HN8 HG8 HO8 HG89 HX HN HG7 HO7
            have c12 := HHc.out.cell
            have HBw9 := Lib.hid (show Below w.heap.size w w9 from HB5.out.trans (Below.mono HG9.out HB5.out.size))
            obtain ⟨p0, p1, p2, p3⟩ := range_cells (range_below HRZ.out HBw9.out HGI.out.1)
            have c11 := HN9.out.cell
            have f11 := HN9.out.frozen
            go_upto_region 12 with fail
            obtain ⟨wn, hwn⟩ : ∃ W, W = w9.setCell ⟨b11, 0, none⟩ (.int .u64 (z.seq : Int)) := ⟨_, rfl⟩
            have HXn := Lib.hid (show IBox wn b10 x by rw [hwn]; exact HX9.out.keep (Below.heap_setCell w9 _ _ b10 (by have := HL10.out; simp; omega)))
            have HHn := Lib.hid (show Boxed wn b12 4 (.bool true) by rw [hwn]; exact (Below.heap_setCell w9 _ _ b12 (by have := HL12.out; simp; omega)).trans HHc.out)
            have HNn := Lib.hid (show Boxed wn b11 27 (.int .u64 (z.seq : Int)) by rw [hwn]; exact HN9.out.set _)
            have HGn := Lib.hid (show Grew w5 wn by rw [hwn]; exact HG9.out.setCell (by have := HL10.out; simp; omega) _)
            have HOn := Lib.hid (show OwnI wn w5.heap.size A2 n2 c2 (MrgP.thinA M (l.take (j + 1))) by rw [hwn]; exact Own.setCell HO9.out (fun e => boxu_ne HN9.out HO9.out e) _)
            rw [← hwn]
            clear hwn HX9 HHc HN9 HG9 HO9 c12 c11 f11 p0 p1 p2 p3
            obtain ⟨d, hd⟩ : ∃ d, d = MrgP.keepB M (l.take (j + 1)) x := ⟨_, rfl⟩
            have HCt : Hid (Calls Try.prog 27 #[.slice A7 (n3 + 1) c7, .func (.func 28) #[] #[.pointer (some ⟨b10, 0, none⟩), .pointer (some ⟨b12, 0, none⟩), .pointer (some ⟨b11, 0, none⟩)]] wn fun e w' => e = .returned (.bool d) ∧ wn = w') := Lib.hid (by
              have h := contains_u A7 (n3 + 1) c7 M x true z.seq b10 b12 b11 wn ((HO5.out.below_all HGn.out).ns (Nat.le_refl _)) HXn.out HHn.out.cell HNn.out.cell (by omega)
              rwa [← HK0.out, ← hd] at h)
            have HADD := Lib.hid (HADD0.out)
            rw [← hd] at HADD
            clear hd
            obtain ⟨e0, e1, e2, e3⟩ := range_cells HXn.out.range
            cases d
            · have HADD := Lib.hid (show MrgP.thinA M (l.take (j + 1 + 1)) = MrgP.thinA M (l.take (j + 1)) by rw [HADD.out]; simp)
              clear e0 e1 e2 e3
              go_wp2_with (go_at_call 27; ((with_reducible refine HCt.out.mono ?_); rintro e w' ⟨rfl, rfl⟩))
              go_roundw
              case rel => exact ⟨j + 1 + 1, A2, n2, c2, hlt, by go_num, rfl, by rw [HADD.out]; exact HOn.out, HGn.out⟩
              case measure => simp [intOf]; omega
            · have HADD := Lib.hid (show MrgP.thinA M (l.take (j + 1 + 1)) = MrgP.thinA M (l.take (j + 1)) ++ [x] by rw [HADD.out]; simp)
              have hbs := HGn.out.size
              go_wp2_with (first
                | (go_at_call 27; ((with_reducible refine HCt.out.mono ?_); rintro e w' ⟨rfl, rfl⟩))
                | (at_builtin; refine wpList_appI rfl (.tmp 53) (.tmp 55) rfl w5.heap.size A2 n2 c2 _ rfl (HOn.out.alloc _) (some ⟨wn.heap.size, 0, none⟩) 1 1 (wn.heap.size + 1) [x] rfl rfl (IRow.one wn x _ _) (by omega) (by simp; omega) ?_; intro Aq cq wq hOq hgq hBq horq))
              go_roundw
              case rel => exact ⟨j + 1 + 1, Aq, _, cq, hlt, by go_num, rfl, by rw [HADD.out]; exact hOq, ((HGn.out.alloc HGn.out.size _).trans hBq)⟩
              case measure => simp [intOf]; omega
          · have HK0 := Lib.hid (MrgP.keepB_none (ms := M) (show MrgP.hidBy (l.take (j + 1)) x = none by rw [HHB.out, if_neg hkey]) 0)
            have t1 : (z.key == x.key) = false := by simpa using hkey
            clear hkey
            have HFACTS := fun (W : World) (hW : Below w.heap.size w W) (hX : IBox W b10 x) => And.intro t1 (And.intro i9 (And.intro i10 (And.intro i11 (And.intro (fun y : AnyOf (BoxC W false) => boxC_cells (range_below HRZ.out hW HGI.out.1) (Nat.lt_of_lt_of_le HGI.out.1 hW.size) y) (fun y : AnyOf (BoxC W false) => boxC_cells hX.range hX.lt y)))))
            go_upto_region 9 with fail
            obtain ⟨w8, hw8⟩ : ∃ W, W = World.drewN w7 1 := ⟨_, rfl⟩
            have HX8 := Lib.hid (show IBox w8 b10 x by rw [hw8]; exact HX.out.drewN 1)
            have HN8 := Lib.hid (show Boxed w8 b11 27 (.int .u64 0) by rw [hw8]; exact HN.out)
            have HG8 := Lib.hid (show Grew w5 w8 by rw [hw8]; exact HG7.out.trans (Grew.drewN _ _))
            have HO8 := Lib.hid (show OwnI w8 w5.heap.size A2 n2 c2 (MrgP.thinA M (l.take (j + 1))) by rw [hw8]; exact HO7.out.drewN 1)
            have hqq := HFACTS w8 (show Below w.heap.size w w8 from HB5.out.trans (Below.mono HG8.out HB5.out.size)) HX8.out
            refine wp_region_p (BoxC w8 false) [13, 14] (by kernel_rfl) (by kernel_rfl) (by kernel_rfl) (by rw [hw8]; exact .inl ⟨rfl, rfl⟩) ?_
            clear hw8
            repeat (first | (refine wpP_value (v := ?_) rfl rfl (fun x => ?_) ?_; rotate_left; (focus (simp [go_sem, hqq]; (try go_ints); first | done | (with_reducible rfl))); (simp only [Act.put, List.setIfInBounds_toArray, List.set_cons_succ, List.set_cons_zero])) | (refine wpP_skip rfl ?_; (simp only [Act.put, List.setIfInBounds_toArray, List.set_cons_succ, List.set_cons_zero])))
            refine wpP_make (.pointer (some ⟨w8.heap.size, 0, none⟩)) rfl rfl (fun W h => ?_) ?_
            · rcases h with ⟨_, rfl⟩ | ⟨h, _⟩ | ⟨h, _⟩
              · exact ⟨_, by simp [go_sem], .inr (.inl ⟨rfl, rfl⟩)⟩
              · omega
              · omega
            (simp only [Act.put, List.setIfInBounds_toArray, List.set_cons_succ, List.set_cons_zero])
            refine wpP_write rfl rfl (fun W h => ?_) ?_
            · rcases h with ⟨h, _⟩ | ⟨_, rfl⟩ | ⟨h, _⟩
              · omega
              · have c1 := (Boxed.new w8 4 (.bool false)).cell
                have f1 := (Boxed.new w8 4 (.bool false)).frozen
                exact ⟨_, by simp [go_sem, c1, f1], .inr (.inr ⟨rfl, rfl⟩)⟩
              · omega
            (simp only [Act.put])
            refine wpP_nil ?_
            intro w9 hz
            rcases hz with ⟨h, _⟩ | ⟨h, _⟩ | ⟨_, hw9⟩
            · omega
            · omega
            clear hqq
            obtain ⟨b12, hb12⟩ : ∃ b, b = w8.heap.size := ⟨_, rfl⟩
            rw [← hb12]
            have HHc := Lib.hid (show Boxed w9 b12 4 (.bool false) by rw [hw9, hb12]; exact BoxC.boxed)
            have HG89 := Lib.hid (show Grew w8 w9 by rw [hw9]; exact BoxC.grew (v := false) (p := 2) (.inr (.inr ⟨rfl, rfl⟩)))
            have HX9 := Lib.hid (HX8.out.grew HG89.out)
            have HN9 := Lib.hid (hBx2 HN8.out HG89.out)
            have HG9 := Lib.hid (HG8.out.trans HG89.out)
            have HO9 := Lib.hid (HO8.out.below_all HG89.out)
            have HL12 := Lib.hid (show b11 < b12 by rw [hb12]; exact HN8.out.lt)
            clear hw9 hb12 HX8 HN8 HG8 HO8 HG89 HX HN HG7 HO7
            have c12 := HHc.out.cell
            go_upto_region 12 with fail
            obtain ⟨d, hd⟩ : ∃ d, d = MrgP.keepB M (l.take (j + 1)) x := ⟨_, rfl⟩
            have HCt : Hid (Calls Try.prog 27 #[.slice A7 (n3 + 1) c7, .func (.func 28) #[] #[.pointer (some ⟨b10, 0, none⟩), .pointer (some ⟨b12, 0, none⟩), .pointer (some ⟨b11, 0, none⟩)]] w9 fun e w' => e = .returned (.bool d) ∧ w9 = w') := Lib.hid (by
              have h := contains_u A7 (n3 + 1) c7 M x false 0 b10 b12 b11 w9 ((HO5.out.below_all HG9.out).ns (Nat.le_refl _)) HX9.out HHc.out.cell HN9.out.cell (by omega)
              rwa [← HK0.out, ← hd] at h)
            have HADD := Lib.hid (HADD0.out)
            rw [← hd] at HADD
            clear hd
            obtain ⟨e0, e1, e2, e3⟩ := range_cells HX9.out.range
            cases d
            · have HADD := Lib.hid (show MrgP.thinA M (l.take (j + 1 + 1)) = MrgP.thinA M (l.take (j + 1)) by rw [HADD.out]; simp)
              clear e0 e1 e2 e3
              go_wp2_with (go_at_call 27; ((with_reducible refine HCt.out.mono ?_); rintro e w' ⟨rfl, rfl⟩))
              go_roundw
              case rel => exact ⟨j + 1 + 1, A2, n2, c2, hlt, by go_num, rfl, by rw [HADD.out]; exact HO9.out, HG9.out⟩
              case measure => simp [intOf]; omega
            · have HADD := Lib.hid (show MrgP.thinA M (l.take (j + 1 + 1)) = MrgP.thinA M (l.take (j + 1)) ++ [x] by rw [HADD.out]; simp)
              have hbs := HG9.out.size
              go_wp2_with (first
                | (go_at_call 27; ((with_reducible refine HCt.out.mono ?_); rintro e w' ⟨rfl, rfl⟩))
                | (at_builtin; refine wpList_appI rfl (.tmp 53) (.tmp 55) rfl w5.heap.size A2 n2 c2 _ rfl (HO9.out.alloc _) (some ⟨w9.heap.size, 0, none⟩) 1 1 (w9.heap.size + 1) [x] rfl rfl (IRow.one w9 x _ _) (by omega) (by simp; omega) ?_; intro Aq cq wq hOq hgq hBq horq))
              go_roundw
              case rel => exact ⟨j + 1 + 1, Aq, _, cq, hlt, by go_num, rfl, by rw [HADD.out]; exact hOq, ((HG9.out.alloc HG9.out.size _).trans hBq)⟩
              case measure => simp [intOf]; omega
      · obtain rfl : k = n := by omega
        have HT := Lib.hid (show l.take k = l from List.take_of_length_le (by omega))
        have i1 : ¬ (k : Int) < (k : Int) := by omega
        have HOe := Lib.hid (show OwnI wr w5.heap.size A2 n2 c2 (MrgP.thinA M l) by have := HO.out; rwa [HT.out] at this)
        have HR0 : Hid (MrgP.thin l ms bottom = if bottom = true then MrgP.strip (MrgP.thinA M l) else MrgP.thinA M l) := Lib.hid (by unfold MrgP.thin; rw [← HS.out, if_pos rfl, ← HM.out])
        obtain ⟨X, hX⟩ : ∃ X, X = MrgP.thinA M l := ⟨_, rfl⟩
        rw [← hX] at HR0 HOe
        have hXn : X.length ≤ 1000000 := by have := HOe.out.len; omega
        clear hX HO HI HO5 HT
        cases bottom
        · go_wp2_with fail
          refine postM_ret01 rfl rfl ?_
          exact ⟨A2, n2, c2, rfl, by have hz := HR0.out; simp at hz; rw [hz]; exact Own.lower HOe.out HB5.out.size, HB5.out.trans (Below.mono HG.out HB5.out.size)⟩
        · obtain ⟨wB, hwB⟩ : ∃ W, W = wr.alloc (.cells #[.slice none 0 0] 23) := ⟨_, rfl⟩
          obtain ⟨b13, hb13⟩ : ∃ b, b = wr.heap.size := ⟨_, rfl⟩
          have HBX := Lib.hid (show Boxed wB b13 23 (.slice none 0 0) by rw [hwB, hb13]; exact Boxed.new wr _ _)
          have HOB := Lib.hid (show OwnI wB w5.heap.size A2 n2 c2 X by rw [hwB]; exact HOe.out.alloc _)
          have HGB0 := Lib.hid (show Grew w5 wB by rw [hwB]; exact HG.out.trans (grew_new wr _))
          have HLT := Lib.hid (show ∀ g, blk A2 = some g → g < b13 by rw [hb13]; exact fun g hg => (Own.lt HOe.out g hg).2)
          have HW13 := Lib.hid (show w.heap.size ≤ b13 by rw [hb13]; exact Nat.le_trans HB5.out.size HG.out.size)
          have HBk := Lib.hid (back_items A2 n2 c2 wB)
          have HWB := Lib.hid (And.intro hwB hb13)
          clear hwB hb13
          go_upto_region 18 with fail
          rw [← HWB.out.1, ← HWB.out.2]
          clear HWB
          obtain ⟨bs, hbs⟩ : ∃ b, b = wB.heap.size := ⟨_, rfl⟩
          rw [← hbs] at HBk
          have HBS := Lib.hid hbs
          clear hbs
          go_wp2_with (go_at_call 29; ((with_reducible refine HBk.out.mono ?_); rintro e w10 ⟨rfl, hBs, hG⟩; have HBs := Lib.hid hBs; have HG10 := Lib.hid hG; clear hBs hG))
          have HO10 := Lib.hid (HOB.out.below_all HG10.out)
          have HBX10 := Lib.hid (hBx2 HBX.out HG10.out)
          have HB10 := Lib.hid (show Below w.heap.size w w10 from HB5.out.trans (Below.mono (HGB0.out.trans HG10.out) HB5.out.size))
          have HGV := Lib.hid (back1_gives bs n2 c2 A2 X w10 HBs.out.cell (HO10.out.is (Nat.le_refl _)))
          have HKD : Hid (∀ g, keepsback1 bs A2 X g → g < w10.heap.size ∧ g ≠ b13) := Lib.hid fun g hg => ⟨HGV.out.1 g hg, fun e => by
            have h1 := HBX.out.lt
            have h2 := HBS.out
            rcases hg with hg | ⟨_, hg⟩
            · omega
            · have := HLT.out g hg
              omega⟩
          refine wp_range2z 63 64 15 (gf := 41) (lb := #[.pointer (some ⟨bs, 0, none⟩)]) (K := keepsback1 bs A2 X) (xs := backs X) rfl (enters_of Try.func41 (by kernel_rfl) rfl) HGV.out.1 HGV.out.2
            (fun pre W => ∃ A n c, Boxed W b13 23 (.slice A n c) ∧ OwnI W w10.heap.size A n c (keptOf pre) ∧ Below w.heap.size w W) (fun _ _ _ => False)
            (fun s W W' h _ ha => ?_) (fun _ _ _ _ h _ _ => h) ⟨none, 0, 0, HBX10.out, OwnI.nil _ _, HB10.out⟩ ?assign ?body ?done ?stop
          · obtain ⟨A, n, c, h1, h2, h3⟩ := h
            exact ⟨A, n, c, ha.boxed h1, ha.ownI h2, ha.kept h3 HB10.out.size⟩
          case assign =>
            intro l x W K' hK
            gi_wp2
            exact hK
          case body =>
            rintro l' pre x b W ⟨A, n', c', hBx, hO, hB⟩ hsz hIb hb hlen
            have c0 := hBx.cell
            obtain ⟨q0, q1, q2, q3⟩ := range_cells hIb.range
            have hn := hO.len
            have hpl := keptOf_le pre
            rw [backs_len] at hlen
            have hn6 : n' ≤ 1000000 := by omega
            have HO := Lib.hid hO
            have HBx := Lib.hid hBx
            have HB := Lib.hid hB
            have HIB := Lib.hid hIb
            have HSZ := Lib.hid hsz
            have HAD := Lib.hid (keptOf_add pre x)
            obtain ⟨T, hT⟩ : ∃ T, T = MrgP.strip (pre.map (·.1)).reverse := ⟨_, rfl⟩
            have HKT := Lib.hid (show keptOf pre = T.reverse by rw [hT]; rfl)
            rw [← hT] at HAD
            clear hBx hO hB hIb hT
            simp only [actB, List.setIfInBounds_toArray, List.set_cons_zero, List.set_cons_succ]
            by_cases hg : x.1.gone = true
            · have HGB := Lib.hid hg
              rw [hg] at q2
              rw [hg, Bool.true_and] at HAD
              clear hg
              rcases T with _ | ⟨y, T'⟩
              · have HAD := Lib.hid (show keptOf (pre ++ [x]) = keptOf pre by rw [HAD.out, if_pos (by simp), HKT.out])
                obtain rfl : n' = 0 := by rw [HKT.out] at hn; simpa using hn.symm
                clear hn hpl
                gi_wp2
                refine wpIn_region_quiet_round (by kernel_rfl) rfl (by kernel_rfl) ?_
                repeat (gi_big_quiet_step (fail))
                refine wpQuietIn_nil ?_
                intro Wd hw'
                obtain ⟨nq, hWd⟩ := hw'
                have HKO := Lib.hid (show KeepsOthers W Wd by rw [hWd]; exact KeepsOthers.grew (Grew.drewN _ _))
                have HKS := Lib.hid (show KeepSet (keepsback1 bs A2 X) W Wd by rw [hWd]; exact KeepSet.below (Grew.drewN _ _) fun g hg => Nat.lt_of_lt_of_le (HKD.out g hg).1 HSZ.out)
                have HOd := Lib.hid (show OwnI Wd w10.heap.size A 0 c' (keptOf pre) by rw [hWd]; exact HO.out.drewN nq)
                have HBxd := Lib.hid (show Boxed Wd b13 23 (.slice A 0 c') by rw [hWd]; exact HBx.out)
                have HBd := Lib.hid (show Below w.heap.size w Wd by rw [hWd]; exact HB.out.trans (Below.mono (Grew.drewN _ _) HB.out.size))
                have HIBd := Lib.hid (show IBox Wd b x.1 by rw [hWd]; exact HIB.out.drewN nq)
                have hszd : w10.heap.size ≤ Wd.heap.size := by rw [hWd]; exact HSZ.out
                clear hWd HO HBx HB q0 q1 q2 q3 c0
                gi_wp2
                exact ⟨HKO.out, HKS.out, A, 0, c', HBxd.out, by rw [HAD.out]; exact HOd.out, HBd.out⟩
              · obtain ⟨m, rfl⟩ : ∃ m, n' = m + 1 := ⟨n' - 1, by rw [HKT.out] at hn; simp at hn; omega⟩
                have hm2 : T'.length = m := by rw [HKT.out] at hn; simpa using hn
                have hyo : (keptOf pre)[m]? = some y := by rw [HKT.out, List.reverse_cons, List.getElem?_append_right (by simp; omega)]; simp [hm2]
                obtain ⟨g2, o2, rfl, hb2, hr2⟩ := (HO.out.is (Nat.le_refl _)).at hyo
                obtain ⟨p0, p1, p2, p3⟩ := range_cells hr2
                have j0 : ((m : Int) + 1 == 0) = false := by simp; omega
                have j1 : (m : Int) < (m : Int) + 1 := by omega
                have j2 : (0 : Int) ≤ (m : Int) := by omega
                clear hn hpl hm2 hyo hr2 hb2
                by_cases hk : y.key = x.1.key
                · have HAD := Lib.hid (show keptOf (pre ++ [x]) = keptOf pre ++ [x.1] by rw [HAD.out, if_neg (by simp [hk]), HKT.out])
                  rw [hk] at p0
                  clear hk
                  gi_wp2
                  refine wpIn_region_quiet_round (by kernel_rfl) rfl (by kernel_rfl) ?_
                  repeat (gi_big_quiet_step (fail))
                  refine wpQuietIn_nil ?_
                  intro Wd hw'
                  obtain ⟨nq, hWd⟩ := hw'
                  have HKO := Lib.hid (show KeepsOthers W Wd by rw [hWd]; exact KeepsOthers.grew (Grew.drewN _ _))
                  have HKS := Lib.hid (show KeepSet (keepsback1 bs A2 X) W Wd by rw [hWd]; exact KeepSet.below (Grew.drewN _ _) fun g hg => Nat.lt_of_lt_of_le (HKD.out g hg).1 HSZ.out)
                  have HOd := Lib.hid (show OwnI Wd w10.heap.size (some ⟨g2, o2, none⟩) (m + 1) c' (keptOf pre) by rw [hWd]; exact HO.out.drewN nq)
                  have HBxd := Lib.hid (show Boxed Wd b13 23 (.slice (some ⟨g2, o2, none⟩) (m + 1) c') by rw [hWd]; exact HBx.out)
                  have HBd := Lib.hid (show Below w.heap.size w Wd by rw [hWd]; exact HB.out.trans (Below.mono (Grew.drewN _ _) HB.out.size))
                  have HIBd := Lib.hid (show IBox Wd b x.1 by rw [hWd]; exact HIB.out.drewN nq)
                  have hszd : w10.heap.size ≤ Wd.heap.size := by rw [hWd]; exact HSZ.out
                  clear hWd HO HBx HB q0 q1 q2 q3 c0 p0 p1 p2 p3
                  obtain ⟨e0, e1, e2, e3⟩ := range_cells HIBd.out.range
                  rw [HGB.out] at e2
                  have cd := HBxd.out.cell
                  have HR1 := Lib.hid (show IRow (Wd.alloc (.cells #[.string ⟨x.1.key.toArray⟩, .int .u64 (x.1.seq : Int), .bool true, .string ⟨x.1.val.toArray⟩] 29)) (Wd.heap.size + 1) (some ⟨Wd.heap.size, 0, none⟩) [x.1] by have := IRow.one Wd x.1 29 (0, 0); rwa [HGB.out] at this)
                  gi_wp2_with (gi_at_builtin; refine wpListIn_appI rfl (.tmp 84) (.tmp 86) rfl w10.heap.size (some ⟨g2, o2, none⟩) (m + 1) c' _ rfl (HOd.out.alloc _) (some ⟨Wd.heap.size, 0, none⟩) 1 1 (Wd.heap.size + 1) [x.1] rfl rfl HR1.out (by omega) (by simp; omega) ?_; intro A3 c3 w3 hO3 hg3 hB3; have HCo := Lib.hid (collectI HBxd.out HOd.out HBd.out hO3 hg3 HKD.out hszd HB10.out.size HW13.out); have r1 := HCo.out.1; have r2 := HCo.out.2.1; clear hO3 hg3 hB3)
                  exact ⟨HKO.out.trans HCo.out.2.2.1, HKS.out.trans HCo.out.2.2.2.1, A3, _, c3, HCo.out.2.2.2.2.1, by rw [HAD.out]; exact HCo.out.2.2.2.2.2.1, HCo.out.2.2.2.2.2.2⟩
                · have HAD := Lib.hid (show keptOf (pre ++ [x]) = keptOf pre by rw [HAD.out, if_pos (by simp [hk]), HKT.out])
                  have t1 : (y.key == x.1.key) = false := by simp [hk]
                  have t2 : (y.key != x.1.key) = true := by simp [hk]
                  have HHK := Lib.hid hk
                  gi_wp2
                  refine wpIn_region_quiet_round (by kernel_rfl) rfl (by kernel_rfl) ?_
                  repeat (gi_big_quiet_step (fail))
                  refine wpQuietIn_nil ?_
                  intro Wd hw'
                  obtain ⟨nq, hWd⟩ := hw'
                  have HKO := Lib.hid (show KeepsOthers W Wd by rw [hWd]; exact KeepsOthers.grew (Grew.drewN _ _))
                  have HKS := Lib.hid (show KeepSet (keepsback1 bs A2 X) W Wd by rw [hWd]; exact KeepSet.below (Grew.drewN _ _) fun g hg => Nat.lt_of_lt_of_le (HKD.out g hg).1 HSZ.out)
                  have HOd := Lib.hid (show OwnI Wd w10.heap.size (some ⟨g2, o2, none⟩) (m + 1) c' (keptOf pre) by rw [hWd]; exact HO.out.drewN nq)
                  have HBxd := Lib.hid (show Boxed Wd b13 23 (.slice (some ⟨g2, o2, none⟩) (m + 1) c') by rw [hWd]; exact HBx.out)
                  have HBd := Lib.hid (show Below w.heap.size w Wd by rw [hWd]; exact HB.out.trans (Below.mono (Grew.drewN _ _) HB.out.size))
                  have HIBd := Lib.hid (show IBox Wd b x.1 by rw [hWd]; exact HIB.out.drewN nq)
                  have hszd : w10.heap.size ≤ Wd.heap.size := by rw [hWd]; exact HSZ.out
                  clear hWd HO HBx HB q0 q1 q2 q3 c0 p0 p1 p2 p3
                  gi_wp2
                  exact ⟨HKO.out, HKS.out, (some ⟨g2, o2, none⟩), (m + 1), c', HBxd.out, by rw [HAD.out]; exact HOd.out, HBd.out⟩
            · have hg : x.1.gone = false := by simpa using hg
              have HGB := Lib.hid hg
              rw [hg] at q2
              have HAD := Lib.hid (show keptOf (pre ++ [x]) = keptOf pre ++ [x.1] by rw [HAD.out, hg, if_neg (by simp), HKT.out])
              clear hg hn hpl
              gi_wp2
              refine wpIn_region_quiet_round (by kernel_rfl) rfl (by kernel_rfl) ?_
              repeat (gi_big_quiet_step (fail))
              refine wpQuietIn_nil ?_
              intro Wd hw'
              obtain ⟨nq, hWd⟩ := hw'
              have HKO := Lib.hid (show KeepsOthers W Wd by rw [hWd]; exact KeepsOthers.grew (Grew.drewN _ _))
              have HKS := Lib.hid (show KeepSet (keepsback1 bs A2 X) W Wd by rw [hWd]; exact KeepSet.below (Grew.drewN _ _) fun g hg => Nat.lt_of_lt_of_le (HKD.out g hg).1 HSZ.out)
              have HOd := Lib.hid (show OwnI Wd w10.heap.size A n' c' (keptOf pre) by rw [hWd]; exact HO.out.drewN nq)
              have HBxd := Lib.hid (show Boxed Wd b13 23 (.slice A n' c') by rw [hWd]; exact HBx.out)
              have HBd := Lib.hid (show Below w.heap.size w Wd by rw [hWd]; exact HB.out.trans (Below.mono (Grew.drewN _ _) HB.out.size))
              have HIBd := Lib.hid (show IBox Wd b x.1 by rw [hWd]; exact HIB.out.drewN nq)
              have hszd : w10.heap.size ≤ Wd.heap.size := by rw [hWd]; exact HSZ.out
              clear hWd HO HBx HB q0 q1 q2 q3 c0
              obtain ⟨e0, e1, e2, e3⟩ := range_cells HIBd.out.range
              rw [HGB.out] at e2
              have cd := HBxd.out.cell
              have HR1 := Lib.hid (show IRow (Wd.alloc (.cells #[.string ⟨x.1.key.toArray⟩, .int .u64 (x.1.seq : Int), .bool false, .string ⟨x.1.val.toArray⟩] 29)) (Wd.heap.size + 1) (some ⟨Wd.heap.size, 0, none⟩) [x.1] by have := IRow.one Wd x.1 29 (0, 0); rwa [HGB.out] at this)
              gi_wp2_with (gi_at_builtin; refine wpListIn_appI rfl (.tmp 84) (.tmp 86) rfl w10.heap.size A n' c' _ rfl (HOd.out.alloc _) (some ⟨Wd.heap.size, 0, none⟩) 1 1 (Wd.heap.size + 1) [x.1] rfl rfl HR1.out (by omega) (by simp; omega) ?_; intro A3 c3 w3 hO3 hg3 hB3; have HCo := Lib.hid (collectI HBxd.out HOd.out HBd.out hO3 hg3 HKD.out hszd HB10.out.size HW13.out); have r1 := HCo.out.1; have r2 := HCo.out.2.1; clear hO3 hg3 hB3)
              exact ⟨HKO.out.trans HCo.out.2.2.1, HKS.out.trans HCo.out.2.2.2.1, A3, _, c3, HCo.out.2.2.2.2.1, by rw [HAD.out]; exact HCo.out.2.2.2.2.2.1, HCo.out.2.2.2.2.2.2⟩
          case done =>
            rintro D W hD hsz ⟨A, n', c', hBx, hO, hB⟩ hd'
            have c0 := hBx.cell
            have hn' : n' ≤ 1000000 := by have h1 := hO.len; have h2 := keptOf_le (backs X); rw [backs_len] at h2; omega
            have HO := Lib.hid hO
            have HBx := Lib.hid hBx
            have HB := Lib.hid hB
            have HM := Lib.hid ((Marks.nil w10.heap.size W).cons hD hd' (fun m h => by cases h))
            have HRv := Lib.hid (rev_items A n' c' w10.heap.size (keptOf (backs X)) W hO hn')
            have HSZ := Lib.hid hsz
            clear hBx hO hB hd' hD hsz
            go_wp2_with (go_at_call 30; ((with_reducible refine HRv.out.mono ?_); rintro e w20 ⟨⟨v, rfl⟩, hO2, hg2⟩; have HO2 := Lib.hid hO2; have HG2 := Lib.hid hg2; have c20 := (HBx.out.kept hg2 (fun e => boxed_not_own HBx.out HO.out e.symm)).cell; clear hO2 hg2))
            have HB20 := Lib.hid (HB.out.grown HG2.out HB.out.size (fun k e => Nat.le_trans HB10.out.size (Own.lt HO.out k e).1))
            refine postM_ret1 rfl (Marks.apart (E := 0) HM.out (KeepsOthers.appI HO.out HG2.out)) (Nat.le_trans HSZ.out HG2.out.size) (fun W' ha => ⟨A, n', c', rfl, ?_, ha.kept HB20.out HB10.out.size⟩)
            have h1 := ha.ownI HO2.out
            rw [keptOf_all, List.reverse_reverse] at h1
            have hz := HR0.out; simp only [if_true] at hz; rw [hz]
            exact Own.lower h1 HB10.out.size
          case stop =>
            rintro D c pre W _ _ _ h _
            exact h.elim
end Go.Proofs.Ytemckkcbakccnaa
