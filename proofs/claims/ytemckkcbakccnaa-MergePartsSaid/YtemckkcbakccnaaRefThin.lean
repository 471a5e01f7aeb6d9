/- The walk of rolodexref8.Thin. -/
import Derived.Test.YtemckkcbakccnaaRefShown
import Derived.Test.YtemckkcbakccnaaRefSorted
import Derived.Test.YtemckkcbakccnaaClass
import Derived.Test.YtemckkcbakccnaaNums
namespace Go.Proofs.Ytemckkcbakccnaa
open Go.RowKit
set_option linter.unusedVariables false
namespace MrgP
/-- shown now, or at one of the first m moments -/
def shUp (l : List It) (ms : List Nat) (x : It) (m : Nat) : Bool := sh l (m64 - 1) x || (ms.take m).any fun q => sh l q x
theorem shUp_zero (l : List It) (ms : List Nat) (x : It) : shUp l ms x 0 = sh l (m64 - 1) x := by simp [shUp]
theorem shUp_all (l : List It) (ms : List Nat) (x : It) {m : Nat} (hm : ms.length ≤ m) : shUp l ms x m = shAny l ms x := by unfold shUp shAny; rw [List.take_of_length_le hm]
theorem shUp_add (l : List It) {ms : List Nat} (x : It) {m q : Nat} (hq : ms[m]? = some q) : shUp l ms x (m + 1) = (shUp l ms x m || sh l q x) := by
  unfold shUp
  rw [List.take_add_one, hq, List.any_append]
  simp [Bool.or_assoc]
theorem filter_add {f : It → Bool} {l : List It} {k : Nat} {x : It} (hx : l[k]? = some x) : (l.take (k + 1)).filter f = (l.take k).filter f ++ (if f x = true then [x] else []) := by
  rw [List.take_add_one, hx, List.filter_append]
  congr 1
  by_cases h : f x = true <;> simp [h]
theorem strip_at {l : List It} {j : Nat} {x : It} (hx : l[j]? = some x) : strip (l.drop j) = if (x.gone && decide ((strip (l.drop (j + 1))).head?.map (·.key) ≠ some x.key)) = true then strip (l.drop (j + 1)) else x :: strip (l.drop (j + 1)) := by
  have hi := List.getElem?_eq_some_iff.1 hx
  obtain ⟨h1, h2⟩ := hi
  rw [List.drop_eq_getElem_cons h1, h2]
  rfl
theorem strip_len (l : List It) : (strip l).length ≤ l.length := (strip_sub l).length_le
end MrgP
set_option maxRecDepth 100000 in
set_option maxHeartbeats 4000000 in
theorem ref_thin (A K : Option Addr) (n c kn kc : Nat) (l : List It) (ms : List Nat) (bottom : Bool) (w : World) (h : Is w w.heap.size A n c l) (hk : Ns w w.heap.size K kn kc ms) (hn : n ≤ 1000000) :
    Calls Try.prog 19 #[.slice A n c, .slice K kn kc, .bool bottom] w fun e w' => ∃ A' n' c', e = .returned (.slice A' n' c') ∧ OwnI w' w.heap.size A' n' c' (MrgP.thinR l ms bottom) ∧ Below w.heap.size w w' := by
  have hl := h.len
  have hm := h.le
  have hx := h.max
  have hkl := hk.len
  have hkm := hk.le
  have hkx := hk.max
  unfold maxLen at hx hkx
  have HI := Lib.hid h
  have HK := Lib.hid hk
  obtain ⟨w1, hw1⟩ : ∃ W, W = w.alloc (.cells #[] 29) := ⟨_, rfl⟩
  obtain ⟨b1, hb1⟩ : ∃ b, b = w.heap.size := ⟨_, rfl⟩
  have HE := Lib.hid (show OwnI w1 w.heap.size (some ⟨b1, 0, none⟩) 0 0 [] by rw [hw1, hb1]; exact OwnI.empty w w.heap.size (Nat.le_refl _))
  have HB1 := Lib.hid (show Below w.heap.size w w1 by rw [hw1]; exact grew_new w _)
  have HSr : Hid (∀ W, Below w.heap.size w W → Calls Try.prog 14 #[.slice A n c] W fun e w' => e = .returned (.bool (ItP.srt l)) ∧ Grew W w') := Lib.hid fun W hW => ref_sorted A n c l W ((h.below hW).more hW.size) hn
  have HSh : Hid (∀ W (x : It) (q : Nat), Below w.heap.size w W → Calls Try.prog 34 #[.slice A n c, iv x, .int .u64 (q : Int)] W fun e w' => e = .returned (.bool (MrgP.sh l q x)) ∧ Grew W w') := Lib.hid fun W x q hW => ref_shown A n c l x q W ((h.below hW).more hW.size)
  have HW := Lib.hid (And.intro hw1 hb1)
  clear h hk hw1 hb1
  have hmk : ∀ W : World, (Instr.makeSlice 23 (.int .i64 0) (.int .i64 0)).run Try.prog W = .ok (.slice (some ⟨W.heap.size, 0, none⟩) 0 0) (W.alloc (.cells #[] 29)) := fun _ => by kernel_rfl
  go_enter Try.func19, Try.ntmps19
  go_upto_region 2 with fail
  rw [← HW.out.1, ← HW.out.2]
  clear HW
  obtain ⟨s, hs⟩ : ∃ s, s = ItP.srt l := ⟨_, rfl⟩
  have HS := Lib.hid hs
  rw [← hs] at HSr
  clear hs
  cases s
  · go_wp2_with (go_at_call 14; ((with_reducible refine (HSr.out _ HB1.out).mono ?_); rintro e w2 ⟨rfl, hG⟩; have HG2 := Lib.hid hG; clear hG))
    go_ret
    exact ⟨some ⟨b1, 0, none⟩, 0, 0, rfl, by unfold MrgP.thinR; rw [← HS.out, if_neg (by decide)]; exact HE.out.below_all HG2.out, HB1.out.trans (Below.mono HG2.out HB1.out.size)⟩
  · go_wp2_with (go_at_call 14; ((with_reducible refine (HSr.out _ HB1.out).mono ?_); rintro e w2 ⟨rfl, hG⟩; have HG2 := Lib.hid hG; clear hG))
    have HE2 := Lib.hid (HE.out.below_all HG2.out)
    have HB2 := Lib.hid (show Below w.heap.size w w2 from HB1.out.trans (Below.mono HG2.out HB1.out.size))
    clear HE HB1 HG2
    go_loopw [7, 8] (fun o i wy => ∃ (k : Nat) (A2 : Option Addr) (n2 c2 : Nat), k ≤ n ∧ i = .int .i64 (k : Int) ∧ o = .slice A2 n2 c2 ∧ OwnI wy w.heap.size A2 n2 c2 ((l.take k).filter (MrgP.shAny l ms)) ∧ Below w.heap.size w wy) (fun _ i _ => n - (intOf i).toNat)
    case atStart => exact ⟨0, some ⟨b1, 0, none⟩, 0, 0, Nat.zero_le _, rfl, rfl, HE2.out, HB2.out⟩
    case round =>
      obtain ⟨k, A2, n2, c2, hk, rfl, rfl, hO, hB⟩ := hrel
      have HO := Lib.hid hO
      have HB := Lib.hid hB
      have hn2 : n2 ≤ k := by
        have := List.length_filter_le (MrgP.shAny l ms) (l.take k)
        rw [hO.len, List.length_take] at this
        omega
      clear hO hB
      have i0 : (0 : Int) ≤ (k : Int) := by omega
      by_cases hlt : k < n
      · obtain ⟨x, hx⟩ : ∃ y, l[k]? = some y := ⟨_, List.getElem?_eq_getElem (by omega)⟩
        obtain ⟨g1, o1, rfl, hb1, hr1⟩ := HI.out.at hx
        obtain ⟨q0, q1, q2, q3⟩ := range_cells (range_below hr1 HB.out hb1)
        have HRx := Lib.hid (fun W (hW : Below w.heap.size w W) => range_cells (range_below hr1 hW hb1))
        have HFA := Lib.hid (MrgP.filter_add (f := MrgP.shAny l ms) hx)
        have HU0 := Lib.hid (MrgP.shUp_zero l ms x)
        have HUa := Lib.hid (fun m (hm : ms.length ≤ m) => MrgP.shUp_all l ms x hm)
        have i1 : (k : Int) < (n : Int) := by omega
        have HX := Lib.hid hx
        have HS0 := Lib.hid (HSh.out wr x (m64 - 1) HB.out)
        rw [show ((m64 - 1 : Nat) : Int) = 18446744073709551615 from rfl] at HS0
        clear hr1 hx hb1
        go_wp2_with (go_at_call 34; ((with_reducible refine HS0.out.mono ?_); rintro e w3 ⟨rfl, hG⟩; have HG3 := Lib.hid hG; clear hG))
        go_loopw [9, 10] (fun f j wy => ∃ m : Nat, m ≤ kn ∧ j = .int .i64 (m : Int) ∧ f = .bool (MrgP.shUp l ms x m) ∧ Grew wr wy) (fun _ j _ => kn - (intOf j).toNat)
        case atStart => exact ⟨0, Nat.zero_le _, rfl, by rw [HU0.out], HG3.out⟩
        case round =>
          obtain ⟨m, hm, rfl, rfl, hG2⟩ := hrel
          have HG2 := Lib.hid hG2
          have HBw := Lib.hid (HB.out.trans (Below.mono hG2 HB.out.size))
          clear hG2
          have i20 : (0 : Int) ≤ (m : Int) := by omega
          by_cases hlt2 : m < kn
          · obtain ⟨q, hq⟩ : ∃ y, ms[m]? = some y := ⟨_, List.getElem?_eq_getElem (by omega)⟩
            obtain ⟨g2, o2, rfl, p0⟩ := ns_grew HK.out HBw.out hq
            obtain ⟨g3, o3, e3, p1⟩ := is_grew HI.out HBw.out HX.out
            cases e3
            have HUA := Lib.hid (MrgP.shUp_add l x hq)
            have i25 : (m : Int) < (kn : Int) := by omega
            obtain ⟨b, hb⟩ : ∃ b, b = MrgP.shUp l ms x m := ⟨_, rfl⟩
            rw [← hb] at HUA ⊢
            clear hq hb
            cases b
            · obtain ⟨d, hd⟩ : ∃ d, d = MrgP.sh l q x := ⟨_, rfl⟩
              have HSq := Lib.hid (fun W (hW : Grew wr W) => HSh.out W x q (HBw.out.trans (Below.mono hW HBw.out.size)))
              rw [← hd] at HUA HSq
              clear hd
              go_upto_region 11 with fail
              have hqq := And.intro p0 (And.intro p1 (And.intro i25 (And.intro i20 (And.intro i0 i1))))
              refine wp_region_x [] (by kernel_rfl) (by kernel_rfl) (by kernel_rfl) ?_
              simp only [blank, List.foldl_nil]
              repeat (first | (refine wpX_value (v := ?_) rfl (by intros; simp) rfl rfl (fun x => ?_) ?_; rotate_left; (focus (simp [go_sem, hqq]; (try go_ints); first | done | (with_reducible rfl))); (simp only [Act.put, List.setIfInBounds_toArray, List.set_cons_succ, List.set_cons_zero])) | (refine wpX_call (.bool d) _ _ rfl (by intros; simp) rfl rfl (fun x => ?_) (fun W hW => HSq.out W hW) ?_; (focus (simp [go_sem]; done)); (simp only [Act.put, List.setIfInBounds_toArray, List.set_cons_succ, List.set_cons_zero])) | (refine wpX_skip rfl ?_; (simp only [Act.put, List.setIfInBounds_toArray, List.set_cons_succ, List.set_cons_zero])))
              (refine wpX_nil ?_; intro xb wx hxg xl; obtain ⟨xf, xe⟩ := LikeAll.end_ xl; clear xl; subst xe; simp only [fill, List.foldl_nil, Act.put])
              clear hqq
              go_wp2_with fail
              go_roundw
              case rel => exact ⟨m + 1, hlt2, by go_num, by rw [HUA.out]; simp, Grew.trans HG2.out hxg⟩
              case measure => simp [intOf]; omega
            · go_upto_region 11 with fail
              have hqq := And.intro p0 (And.intro p1 (And.intro i25 i20))
              refine wp_region_x [] (by kernel_rfl) (by kernel_rfl) (by kernel_rfl) ?_
              simp only [blank, List.foldl_nil]
              repeat (first | (refine wpX_value (v := ?_) rfl (by intros; simp) rfl rfl (fun x => ?_) ?_; rotate_left; (focus (simp [go_sem]; (try go_ints); first | done | (with_reducible rfl))); (simp only [Act.put, List.setIfInBounds_toArray, List.set_cons_succ, List.set_cons_zero])) | (refine wpX_skip rfl ?_; (simp only [Act.put, List.setIfInBounds_toArray, List.set_cons_succ, List.set_cons_zero])))
              (refine wpX_nil ?_; intro xb wx hxg xl; obtain ⟨xf, xe⟩ := LikeAll.end_ xl; clear xl; subst xe; simp only [fill, List.foldl_nil, Act.put])
              clear hqq
              go_wp2_with fail
              go_roundw
              case rel => exact ⟨m + 1, hlt2, by go_num, by rw [HUA.out]; simp, Grew.trans HG2.out hxg⟩
              case measure => simp [intOf]; omega
          · obtain rfl : m = kn := by omega
            have i25 : ¬ (m : Int) < (m : Int) := by omega
            obtain ⟨r0, r1, r2, r3⟩ := HRx.out _ HBw.out
            have HO2 := Lib.hid (HO.out.below_all HG2.out)
            rw [HUa.out m (by omega)]
            obtain ⟨b, hb⟩ : ∃ b, b = MrgP.shAny l ms x := ⟨_, rfl⟩
            rw [← hb] at HFA ⊢
            clear hb
            cases b
            · have HFA := Lib.hid (show (l.take (k + 1)).filter (MrgP.shAny l ms) = (l.take k).filter (MrgP.shAny l ms) by rw [HFA.out]; simp)
              go_wp2_with fail
              go_roundw
              case rel => exact ⟨k + 1, A2, n2, c2, hlt, by go_num, rfl, by rw [HFA.out]; exact HO2.out, HBw.out⟩
              case measure => simp [intOf]; omega
            · have HFA := Lib.hid (show (l.take (k + 1)).filter (MrgP.shAny l ms) = (l.take k).filter (MrgP.shAny l ms) ++ [x] by rw [HFA.out]; simp)
              have hbs := HBw.out.size
              go_wp2_with (at_builtin; refine wpList_appI rfl (.tmp 49) (.tmp 54) rfl w.heap.size A2 n2 c2 _ rfl (HO2.out.alloc _) (some ⟨wr.heap.size, 0, none⟩) 1 1 (wr.heap.size + 1) [x] rfl rfl (IRow.one wr x _ _) (by omega) (by simp; omega) ?_; intro A3 c3 w3 hO3 hg3 hB3 hor3)
              go_roundw
              case rel => exact ⟨k + 1, A3, _, c3, hlt, by go_num, rfl, by rw [HFA.out]; exact hO3, (HBw.out.alloc HBw.out.size _).trans hB3⟩
              case measure => simp [intOf]; omega
      · obtain rfl : k = n := by omega
        have HT := Lib.hid (show l.take k = l from List.take_of_length_le (by omega))
        have i1 : ¬ (k : Int) < (k : Int) := by omega
        obtain ⟨V, hV⟩ : ∃ V, V = l.filter (MrgP.shAny l ms) := ⟨_, rfl⟩
        have HO1 := Lib.hid (show OwnI wr w.heap.size A2 n2 c2 V by have := HO.out; rwa [HT.out, ← hV] at this)
        have HV := Lib.hid hV
        have hVn : V.length = n2 := HO1.out.len
        clear hV HO
        go_wp2_with fail
        go_loopw [7, 11] (fun o i wy => ∃ (m : Nat) (A3 : Option Addr) (n3 c3 : Nat), m ≤ V.length ∧ (bottom = false → m = V.length) ∧ i = .int .i64 ((m : Int) - 1) ∧ o = .slice A3 n3 c3 ∧ OwnI wy w.heap.size A3 n3 c3 (V.take m ++ MrgP.strip (V.drop m)) ∧ Below w.heap.size w wy) (fun _ i _ => ((intOf i) + 1).toNat)
        case atStart => exact ⟨V.length, A2, n2, c2, Nat.le_refl _, (fun _ => rfl), by rw [hVn], rfl, by rw [List.take_length, List.drop_length]; simpa [MrgP.strip] using HO1.out, HB.out⟩
        case round =>
          obtain ⟨m, A3, n3, c3, hm, hbm, rfl, rfl, hO3, hB3⟩ := hrel
          have HO3 := Lib.hid hO3
          have HB3 := Lib.hid hB3
          have HBM := Lib.hid hbm
          have hn3 : (V.take m ++ MrgP.strip (V.drop m)).length = n3 := hO3.len
          clear hO3 hB3 hbm
          cases bottom
          · have HR := Lib.hid (show MrgP.thinR l ms false = V.take m ++ MrgP.strip (V.drop m) by
              have e := HBM.out rfl
              unfold MrgP.thinR
              rw [← HS.out, if_pos rfl, if_neg (by decide), ← HV.out, e, List.take_length, List.drop_length]
              simp [MrgP.strip])
            go_wp2_with fail
            go_ret
            exact ⟨A3, n3, c3, rfl, by rw [HR.out]; exact HO3.out, HB3.out⟩
          rcases m with _ | j
          · have HR := Lib.hid (show MrgP.thinR l ms true = V.take 0 ++ MrgP.strip (V.drop 0) by
              unfold MrgP.thinR
              rw [← HS.out, if_pos rfl, if_pos rfl, ← HV.out]
              simp)
            go_wp2_with fail
            go_ret
            exact ⟨A3, n3, c3, rfl, by rw [HR.out]; exact HO3.out, HB3.out⟩
          rw [show (((j + 1 : Nat) : Int) - 1) = (j : Int) by omega]
          have j0 : (0 : Int) ≤ (j : Int) := by omega
          obtain ⟨x, hx⟩ : ∃ y, V[j]? = some y := ⟨_, List.getElem?_eq_getElem (by omega)⟩
          have HST := Lib.hid (MrgP.strip_at hx)
          have hsl := MrgP.strip_len (V.drop (j + 1))
          obtain ⟨T, hT⟩ : ∃ T, T = MrgP.strip (V.drop (j + 1)) := ⟨_, rfl⟩
          rw [← hT] at HST hsl hn3 HO3
          have HTk := Lib.hid hT
          have hn3' : n3 = j + 1 + T.length := by rw [← hn3, List.length_append, List.length_take]; omega
          have hn3u : n3 ≤ 1000000 := by simp at hsl; omega
          have hxo : (V.take (j + 1) ++ T)[j]? = some x := by rw [List.getElem?_append_left (by rw [List.length_take]; omega), List.getElem?_take, if_pos (by omega)]; exact hx
          have hxe := HO3.out.is (Nat.le_refl _)
          obtain ⟨g1, o1, rfl, hb1, hr1⟩ := hxe.at hxo
          obtain ⟨q0, q1, q2, q3⟩ := range_cells hr1
          have j1 : (j : Int) < (n3 : Int) := by omega
          have HTO := Lib.hid (show V.take (j + 1) = V.take j ++ [x] by rw [List.take_add_one, hx]; rfl)
          have hn3b := HO3.out.le
          unfold maxLen at hn3b
          by_cases hg : x.gone = true
          · have hg' : (x.gone && decide (T.head?.map (·.key) ≠ some x.key)) = decide (T.head?.map (·.key) ≠ some x.key) := by rw [hg]; rfl
            rw [hg'] at HST
            rw [hg] at q2
            clear hg' hg
            rcases T with _ | ⟨y, T'⟩
            · have HST := Lib.hid (show MrgP.strip (V.drop j) = [] by rw [HST.out]; simp)
              have e1 : ((j : Int) == (n3 : Int) - 1) = true := by simp at hn3' ⊢; omega
              clear hxo hr1 hx hT hn3 hn3' hsl
              go_upto_region 17 with fail
              go_quiet (fail)
              go_upto_region 18 with fail
              obtain ⟨wz, hwz⟩ : ∃ v, v = wr.drewN nq := ⟨_, rfl⟩
              rw [← hwz]
              have HOz := Lib.hid (show OwnI wz w.heap.size (some ⟨g1, o1, none⟩) n3 c3 (V.take (j + 1) ++ ([] : List It)) by rw [hwz]; exact HO3.out.drewN nq)
              have HBz := Lib.hid (show Below w.heap.size w wz by rw [hwz]; exact HB3.out.trans (Below.mono (Grew.drewN _ _) HB3.out.size))
              have HI1 := Lib.hid ((HOz.out.is (Nat.le_refl _)).to j (by omega))
              have HI2 := Lib.hid ((HOz.out.is (Nat.le_refl _)).from_ (j + 1) (by omega))
              have HL := Lib.hid (show (V.take (j + 1) ++ ([] : List It)).take j = V.take j ∧ (V.take (j + 1) ++ ([] : List It)).drop (j + 1) = ([] : List It) by
                have e : (V.take (j + 1)).length = j + 1 := by rw [List.length_take]; omega
                refine ⟨?_, ?_⟩
                · rw [List.take_append_of_le_length (by omega), List.take_take]; congr 1; omega
                · rw [List.drop_append, e, List.drop_of_length_le (by omega)]; simp)
              have hTl : ([] : List It).length = n3 - (j + 1) := by have h1 := HI2.out.len; have h2 := HL.out.2; rw [h2] at h1; exact h1
              have HTl := Lib.hid hTl
              clear hwz hTl
              refine wp_region_c (fun W => Grew wz W) (by kernel_rfl) (Grew.drewN wz 1) ?_
              have HC := Lib.hid (Grew.drewN wz 1)
              (refine wpAnyC_free 1 (oi := ⟨some 93, _, _, _, _, _⟩) (v := ?_) rfl (by kernel_rfl) (by kernel_rfl) (by kernel_rfl) HC.out rfl (fun x => ?_) ?_; rotate_left; (focus (simp [go_sem]; (try go_ints); first | done | (with_reducible rfl))); (simp only [Act.put, List.setIfInBounds_toArray, List.set_cons_succ, List.set_cons_zero]))
              (refine wpAnyC_free 2 (oi := ⟨some 94, _, _, _, _, _⟩) (v := ?_) rfl (by kernel_rfl) (by kernel_rfl) (by kernel_rfl) HC.out rfl (fun x => ?_) ?_; rotate_left; (focus (simp [go_sem]; (try go_ints); first | done | (with_reducible rfl))); (simp only [Act.put, List.setIfInBounds_toArray, List.set_cons_succ, List.set_cons_zero]))
              refine wpAnyC_free 3 (oi := ⟨some 95, _, _, _, _, _⟩) (.slice (some ⟨g1, o1, none⟩) j c3) rfl (by kernel_rfl) (by kernel_rfl) (by kernel_rfl) HC.out rfl (fun W => exec_toI (.tmp 93) (.tmp 94) rfl rfl rfl (by omega) (by omega) (by unfold maxLen; omega) W.1) ?_
              (simp only [Act.put, List.setIfInBounds_toArray, List.set_cons_succ, List.set_cons_zero])
              (refine wpAnyC_free 5 (oi := ⟨some 97, _, _, _, _, _⟩) (v := ?_) rfl (by kernel_rfl) (by kernel_rfl) (by kernel_rfl) HC.out rfl (fun x => ?_) ?_; rotate_left; (focus (simp [go_sem]; (try go_ints); first | done | (with_reducible rfl))); (simp only [Act.put, List.setIfInBounds_toArray, List.set_cons_succ, List.set_cons_zero]))
              (refine wpAnyC_free 6 (oi := ⟨some 98, _, _, _, _, _⟩) (v := ?_) rfl (by kernel_rfl) (by kernel_rfl) (by kernel_rfl) HC.out rfl (fun x => ?_) ?_; rotate_left; (focus (simp [go_sem]; (try go_ints); first | done | (with_reducible rfl))); (simp only [Act.put, List.setIfInBounds_toArray, List.set_cons_succ, List.set_cons_zero]))
              (refine wpAnyC_free 7 (oi := ⟨some 99, _, _, _, _, _⟩) (v := ?_) rfl (by kernel_rfl) (by kernel_rfl) (by kernel_rfl) HC.out rfl (fun x => ?_) ?_; rotate_left; (focus (simp [go_sem]; (try go_ints); first | done | (with_reducible rfl))); (simp only [Act.put, List.setIfInBounds_toArray, List.set_cons_succ, List.set_cons_zero]))
              refine wpAnyC_free 8 (oi := ⟨some 100, _, _, _, _, _⟩) (.slice (cutI (some ⟨g1, o1, none⟩) (j + 1) c3) (n3 - (j + 1)) (c3 - (j + 1))) rfl (by kernel_rfl) (by kernel_rfl) (by kernel_rfl) HC.out rfl (fun W => exec_fromI (.tmp 97) (.tmp 99) rfl rfl (by simp [Act.eval]) (by omega) (by omega) (by unfold maxLen; omega) W.1) ?_
              (simp only [Act.put, List.setIfInBounds_toArray, List.set_cons_succ, List.set_cons_zero])
              change wpAnyC _ _ _ _ _ _ _ _ (World.drewN wz 1)
              refine wpAnyC_step 0 (o := ⟨some 92, _, _, _, _, _⟩) rfl (by kernel_rfl) rfl ?_
              refine wpList_build0 rfl rfl ?_
              have HOw2 := Lib.hid (OwnI.empty (wz.drewN 1) wz.heap.size HC.out.size)
              obtain ⟨w2, hw2⟩ : ∃ v, v = (wz.drewN 1).alloc (.cells #[] 29) := ⟨_, rfl⟩
              have HCw2 := Lib.hid (show Grew wz w2 by rw [hw2]; exact HC.out.trans ((Below.refl _ _).alloc (Nat.le_refl _) _))
              rw [← hw2] at HOw2 ⊢
              clear hw2
              (simp only [Act.put, List.setIfInBounds_toArray, List.set_cons_succ, List.set_cons_zero])
              refine wpList_nil ⟨rfl, HCw2.out, ?_⟩
              have HC := HCw2
              refine wpAnyC_step 4 (o := ⟨some 96, _, _, _, _, _⟩) rfl (by kernel_rfl) rfl ?_
              refine wpList_appI rfl (.tmp 92) (.tmp 95) rfl wz.heap.size _ 0 0 [] rfl HOw2.out (some ⟨g1, o1, none⟩) j c3 wz.heap.size (V.take j) rfl (by have := HI1.out.len; rw [HL.out.1] at this; exact this) (by have := (Is.below HI1.out HCw2.out).row; rw [HL.out.1] at this; exact this) (by omega) HCw2.out.size ?_
              intro A4 cap4 w3 hO4 hg4 hB4 hor4
              have HC3 := Lib.hid (show Grew wz w3 from Below.trans HCw2.out hB4)
              have HO4 := Lib.hid (show OwnI w3 wz.heap.size A4 (0 + j) cap4 (V.take j) by simpa using hO4)
              clear hO4 hg4 hB4 hor4 HOw2
              (simp only [Act.put, List.setIfInBounds_toArray, List.set_cons_succ, List.set_cons_zero])
              refine wpList_nil ⟨rfl, HC3.out, ?_⟩
              have HC := HC3
              refine wpAnyC_step 9 (o := ⟨some 101, _, _, _, _, _⟩) rfl (by kernel_rfl) rfl ?_
              refine wpList_appI rfl (.tmp 96) (.tmp 100) rfl wz.heap.size A4 _ cap4 (V.take j) rfl HO4.out (cutI (some ⟨g1, o1, none⟩) (j + 1) c3) (n3 - (j + 1)) (c3 - (j + 1)) wz.heap.size [] rfl HTl.out (by have := (Is.below HI2.out HC3.out).row; rw [HL.out.2] at this; exact this) (by omega) HC3.out.size ?_
              intro A5 cap5 w5 hO5 hg5 hB5 hor5
              have HC5 := Lib.hid (show Grew wz w5 from Below.trans HC3.out hB5)
              have HO5 := Lib.hid (by have := hO5; rwa [Nat.zero_add] at this)
              clear hO5 hg5 hB5 hor5 HO4
              (simp only [Act.put, List.setIfInBounds_toArray, List.set_cons_succ, List.set_cons_zero])
              refine wpList_nil ⟨rfl, HC5.out, ?_⟩
              have HC := HC5
              (refine wpAnyC_free 10 (oi := ⟨some 7, _, _, _, _, _⟩) (v := ?_) rfl (by kernel_rfl) (by kernel_rfl) (by kernel_rfl) HC.out rfl (fun x => ?_) ?_; rotate_left; (focus (simp [go_sem]; (try go_ints); first | done | (with_reducible rfl))); (simp only [Act.put, List.setIfInBounds_toArray, List.set_cons_succ, List.set_cons_zero]))
              refine wpAnyC_done (by kernel_rfl) (fun _ => ?_) _
              go_wp2_with fail
              go_roundw
              case rel => exact ⟨j, A5, _, cap5, by omega, (fun e => by cases e), rfl, rfl, by rw [HST.out]; exact Own.lower HO5.out HBz.out.size, HBz.out.trans (Below.mono HC5.out HBz.out.size)⟩
              case measure => first | (simp [intOf]; done) | (simp [intOf]; omega)
            · have hyo : (V.take (j + 1) ++ (y :: T'))[j + 1]? = some y := by rw [List.getElem?_append_right (by rw [List.length_take]; omega)]; simp [List.length_take, show min (j + 1) V.length = j + 1 by omega]
              obtain ⟨g2, o2, e2, hb2, hr2⟩ := hxe.at hyo
              cases e2
              obtain ⟨p0, p1, p2, p3⟩ := range_cells hr2
              have e1 : ((j : Int) == (n3 : Int) - 1) = false := by simp at hn3' ⊢; omega
              have j2 : (j : Int) + 1 < (n3 : Int) := by simp at hn3'; omega
              by_cases hk2 : y.key = x.key
              · have e2 : (y.key != x.key) = false := by simp [hk2]
                have HST := Lib.hid (show MrgP.strip (V.drop j) = x :: y :: T' by rw [HST.out]; simp [hk2])
                rw [hk2] at p0
                clear hk2 hxo hyo hr1 hr2 hxe hx hT hn3 hn3' hsl
                go_upto_region 17 with fail
                go_quiet (fail)
                go_wp2_with fail
                go_roundw
                case rel => exact ⟨j, _, n3, c3, by omega, (fun e => by cases e), rfl, rfl, by have := HO3.out.drewN nq; rw [HTO.out] at this; rw [HST.out]; simpa using this, HB3.out.trans (Below.mono (Grew.drewN _ _) HB3.out.size)⟩
                case measure => first | (simp [intOf]; done) | (simp [intOf]; omega)
              · have e2 : (y.key != x.key) = true := by simp [hk2]
                have HST := Lib.hid (show MrgP.strip (V.drop j) = y :: T' by rw [HST.out]; simp [hk2])
                have e3 : (y.key == x.key) = false := by simp [hk2]
                clear hxo hyo hr1 hr2 hxe hx hT hn3 hn3' hsl
                go_upto_region 17 with fail
                go_quiet (fail)
                go_upto_region 18 with fail
                obtain ⟨wz, hwz⟩ : ∃ v, v = wr.drewN nq := ⟨_, rfl⟩
                rw [← hwz]
                have HOz := Lib.hid (show OwnI wz w.heap.size (some ⟨g1, o1, none⟩) n3 c3 (V.take (j + 1) ++ (y :: T')) by rw [hwz]; exact HO3.out.drewN nq)
                have HBz := Lib.hid (show Below w.heap.size w wz by rw [hwz]; exact HB3.out.trans (Below.mono (Grew.drewN _ _) HB3.out.size))
                have HI1 := Lib.hid ((HOz.out.is (Nat.le_refl _)).to j (by omega))
                have HI2 := Lib.hid ((HOz.out.is (Nat.le_refl _)).from_ (j + 1) (by omega))
                have HL := Lib.hid (show (V.take (j + 1) ++ (y :: T')).take j = V.take j ∧ (V.take (j + 1) ++ (y :: T')).drop (j + 1) = (y :: T') by
                  have e : (V.take (j + 1)).length = j + 1 := by rw [List.length_take]; omega
                  refine ⟨?_, ?_⟩
                  · rw [List.take_append_of_le_length (by omega), List.take_take]; congr 1; omega
                  · rw [List.drop_append, e, List.drop_of_length_le (by omega)]; simp)
                have hTl : (y :: T').length = n3 - (j + 1) := by have h1 := HI2.out.len; have h2 := HL.out.2; rw [h2] at h1; exact h1
                have HTl := Lib.hid hTl
                clear hwz hTl
                refine wp_region_c (fun W => Grew wz W) (by kernel_rfl) (Grew.drewN wz 1) ?_
                have HC := Lib.hid (Grew.drewN wz 1)
                (refine wpAnyC_free 1 (oi := ⟨some 93, _, _, _, _, _⟩) (v := ?_) rfl (by kernel_rfl) (by kernel_rfl) (by kernel_rfl) HC.out rfl (fun x => ?_) ?_; rotate_left; (focus (simp [go_sem]; (try go_ints); first | done | (with_reducible rfl))); (simp only [Act.put, List.setIfInBounds_toArray, List.set_cons_succ, List.set_cons_zero]))
                (refine wpAnyC_free 2 (oi := ⟨some 94, _, _, _, _, _⟩) (v := ?_) rfl (by kernel_rfl) (by kernel_rfl) (by kernel_rfl) HC.out rfl (fun x => ?_) ?_; rotate_left; (focus (simp [go_sem]; (try go_ints); first | done | (with_reducible rfl))); (simp only [Act.put, List.setIfInBounds_toArray, List.set_cons_succ, List.set_cons_zero]))
                refine wpAnyC_free 3 (oi := ⟨some 95, _, _, _, _, _⟩) (.slice (some ⟨g1, o1, none⟩) j c3) rfl (by kernel_rfl) (by kernel_rfl) (by kernel_rfl) HC.out rfl (fun W => exec_toI (.tmp 93) (.tmp 94) rfl rfl rfl (by omega) (by omega) (by unfold maxLen; omega) W.1) ?_
                (simp only [Act.put, List.setIfInBounds_toArray, List.set_cons_succ, List.set_cons_zero])
                (refine wpAnyC_free 5 (oi := ⟨some 97, _, _, _, _, _⟩) (v := ?_) rfl (by kernel_rfl) (by kernel_rfl) (by kernel_rfl) HC.out rfl (fun x => ?_) ?_; rotate_left; (focus (simp [go_sem]; (try go_ints); first | done | (with_reducible rfl))); (simp only [Act.put, List.setIfInBounds_toArray, List.set_cons_succ, List.set_cons_zero]))
                (refine wpAnyC_free 6 (oi := ⟨some 98, _, _, _, _, _⟩) (v := ?_) rfl (by kernel_rfl) (by kernel_rfl) (by kernel_rfl) HC.out rfl (fun x => ?_) ?_; rotate_left; (focus (simp [go_sem]; (try go_ints); first | done | (with_reducible rfl))); (simp only [Act.put, List.setIfInBounds_toArray, List.set_cons_succ, List.set_cons_zero]))
                (refine wpAnyC_free 7 (oi := ⟨some 99, _, _, _, _, _⟩) (v := ?_) rfl (by kernel_rfl) (by kernel_rfl) (by kernel_rfl) HC.out rfl (fun x => ?_) ?_; rotate_left; (focus (simp [go_sem]; (try go_ints); first | done | (with_reducible rfl))); (simp only [Act.put, List.setIfInBounds_toArray, List.set_cons_succ, List.set_cons_zero]))
                refine wpAnyC_free 8 (oi := ⟨some 100, _, _, _, _, _⟩) (.slice (cutI (some ⟨g1, o1, none⟩) (j + 1) c3) (n3 - (j + 1)) (c3 - (j + 1))) rfl (by kernel_rfl) (by kernel_rfl) (by kernel_rfl) HC.out rfl (fun W => exec_fromI (.tmp 97) (.tmp 99) rfl rfl (by simp [Act.eval]) (by omega) (by omega) (by unfold maxLen; omega) W.1) ?_
                (simp only [Act.put, List.setIfInBounds_toArray, List.set_cons_succ, List.set_cons_zero])
                change wpAnyC _ _ _ _ _ _ _ _ (World.drewN wz 1)
                refine wpAnyC_step 0 (o := ⟨some 92, _, _, _, _, _⟩) rfl (by kernel_rfl) rfl ?_
                refine wpList_build0 rfl rfl ?_
                have HOw2 := Lib.hid (OwnI.empty (wz.drewN 1) wz.heap.size HC.out.size)
                obtain ⟨w2, hw2⟩ : ∃ v, v = (wz.drewN 1).alloc (.cells #[] 29) := ⟨_, rfl⟩
                have HCw2 := Lib.hid (show Grew wz w2 by rw [hw2]; exact HC.out.trans ((Below.refl _ _).alloc (Nat.le_refl _) _))
                rw [← hw2] at HOw2 ⊢
                clear hw2
                (simp only [Act.put, List.setIfInBounds_toArray, List.set_cons_succ, List.set_cons_zero])
                refine wpList_nil ⟨rfl, HCw2.out, ?_⟩
                have HC := HCw2
                refine wpAnyC_step 4 (o := ⟨some 96, _, _, _, _, _⟩) rfl (by kernel_rfl) rfl ?_
                refine wpList_appI rfl (.tmp 92) (.tmp 95) rfl wz.heap.size _ 0 0 [] rfl HOw2.out (some ⟨g1, o1, none⟩) j c3 wz.heap.size (V.take j) rfl (by have := HI1.out.len; rw [HL.out.1] at this; exact this) (by have := (Is.below HI1.out HCw2.out).row; rw [HL.out.1] at this; exact this) (by omega) HCw2.out.size ?_
                intro A4 cap4 w3 hO4 hg4 hB4 hor4
                have HC3 := Lib.hid (show Grew wz w3 from Below.trans HCw2.out hB4)
                have HO4 := Lib.hid (show OwnI w3 wz.heap.size A4 (0 + j) cap4 (V.take j) by simpa using hO4)
                clear hO4 hg4 hB4 hor4 HOw2
                (simp only [Act.put, List.setIfInBounds_toArray, List.set_cons_succ, List.set_cons_zero])
                refine wpList_nil ⟨rfl, HC3.out, ?_⟩
                have HC := HC3
                refine wpAnyC_step 9 (o := ⟨some 101, _, _, _, _, _⟩) rfl (by kernel_rfl) rfl ?_
                refine wpList_appI rfl (.tmp 96) (.tmp 100) rfl wz.heap.size A4 _ cap4 (V.take j) rfl HO4.out (cutI (some ⟨g1, o1, none⟩) (j + 1) c3) (n3 - (j + 1)) (c3 - (j + 1)) wz.heap.size (y :: T') rfl HTl.out (by have := (Is.below HI2.out HC3.out).row; rw [HL.out.2] at this; exact this) (by omega) HC3.out.size ?_
                intro A5 cap5 w5 hO5 hg5 hB5 hor5
                have HC5 := Lib.hid (show Grew wz w5 from Below.trans HC3.out hB5)
                have HO5 := Lib.hid (by have := hO5; rwa [Nat.zero_add] at this)
                clear hO5 hg5 hB5 hor5 HO4
                (simp only [Act.put, List.setIfInBounds_toArray, List.set_cons_succ, List.set_cons_zero])
                refine wpList_nil ⟨rfl, HC5.out, ?_⟩
                have HC := HC5
                (refine wpAnyC_free 10 (oi := ⟨some 7, _, _, _, _, _⟩) (v := ?_) rfl (by kernel_rfl) (by kernel_rfl) (by kernel_rfl) HC.out rfl (fun x => ?_) ?_; rotate_left; (focus (simp [go_sem]; (try go_ints); first | done | (with_reducible rfl))); (simp only [Act.put, List.setIfInBounds_toArray, List.set_cons_succ, List.set_cons_zero]))
                refine wpAnyC_done (by kernel_rfl) (fun _ => ?_) _
                go_wp2_with fail
                go_roundw
                case rel => exact ⟨j, A5, _, cap5, by omega, (fun e => by cases e), rfl, rfl, by rw [HST.out]; exact Own.lower HO5.out HBz.out.size, HBz.out.trans (Below.mono HC5.out HBz.out.size)⟩
                case measure => first | (simp [intOf]; done) | (simp [intOf]; omega)
          · have hg : x.gone = false := by simpa using hg
            have HST := Lib.hid (show MrgP.strip (V.drop j) = x :: T by rw [HST.out, hg]; rfl)
            rw [hg] at q2
            clear hxo hr1 hxe hx hT hg hn3 hn3' hsl
            go_upto_region 17 with fail
            go_quiet (fail)
            go_wp2_with fail
            go_roundw
            case rel => exact ⟨j, _, n3, c3, by omega, (fun e => by cases e), rfl, rfl, by have := HO3.out.drewN nq; rw [HTO.out] at this; rw [HST.out]; simpa using this, HB3.out.trans (Below.mono (Grew.drewN _ _) HB3.out.size)⟩
            case measure => first | (simp [intOf]; done) | (simp [intOf]; omega)
end Go.Proofs.Ytemckkcbakccnaa
