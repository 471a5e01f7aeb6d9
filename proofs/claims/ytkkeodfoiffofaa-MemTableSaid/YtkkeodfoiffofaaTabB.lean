/- The walks of table.shared and table.lay. -/
import Derived.Test.YtkkeodfoiffofaaTabA
import Derived.Test.YtkkeodfoiffofaaBinA
import Derived.Test.YtkkeodfoiffofaaItemBox
import Derived.Test.YtkkeodfoiffofaaClass
import Derived.Test.YtkkeodfoiffofaaCrc
import Derived.Test.YtkkeodfoiffofaaItemCmp
import Derived.Test.YtkkeodfoiffofaaClone
import Derived.Test.YtkkeodfoiffofaaRoundIn
import Derived.Test.YtkkeodfoiffofaaRangeF
namespace Go.Proofs.Ytkkeodfoiffofaa
open Go.RowKit
set_option linter.unusedVariables false
theorem ba_extract (t : List UInt8) (i j : Nat) : (⟨t.toArray⟩ : ByteArray).extract i j = ⟨((t.drop i).take (j - i)).toArray⟩ := by
  apply ByteArray.ext
  simp [List.extract_eq_take_drop]
theorem ba_drop (t : List UInt8) (k : Nat) : (⟨t.toArray⟩ : ByteArray).extract k t.length = ⟨(t.drop k).toArray⟩ := by
  rw [ba_extract, List.take_of_length_le (by rw [List.length_drop]; omega)]
theorem run_index_str (l : List UInt8) (i : Nat) (x : UInt8) (h : l[i]? = some x) (W : World) : (Instr.index 9 (.string ⟨l.toArray⟩) (.int .i64 (i : Int))).run Try.prog W = .ok (b8 x) W := by
  have h2 : (ByteArray.mk l.toArray)[i]? = some x := by
    obtain ⟨h3, h4⟩ := List.getElem?_eq_some_iff.1 h
    have h5 : i < (ByteArray.mk l.toArray).size := by show i < l.toArray.size; simpa using h3
    rw [getElem?_pos (ByteArray.mk l.toArray) i h5]
    exact congrArg some h4
  simp [go_sem, Instr.index, h2, asIntOf]
set_option maxRecDepth 100000 in
set_option maxHeartbeats 1000000 in
theorem tab_shared (a b : List UInt8) (w : World) (ha : a.length ≤ maxLen) : Calls Try.prog 70 #[.string ⟨a.toArray⟩, .string ⟨b.toArray⟩] w fun e w' => e = .returned (.int .i64 (TabP.shared a b : Int)) ∧ Grew w w' := by
  unfold maxLen at ha
  have hsa := ba_size a
  have hsb := ba_size b
  go_enter Try.func70, Try.ntmps70
  go_wp2_with fail
  go_loopw [5] (fun n wy => ∃ k : Nat, k ≤ a.length ∧ k ≤ b.length ∧ n = .int .i64 (k : Int) ∧ TabP.shared a b = k + TabP.shared (a.drop k) (b.drop k) ∧ Grew w wy) (fun n _ => a.length - (intOf n).toNat)
  case atStart => exact ⟨0, Nat.zero_le _, Nat.zero_le _, rfl, by simp, Grew.refl _⟩
  case round =>
    obtain ⟨k, hka, hkb, rfl, hs, hG⟩ := hrel
    have HS := Lib.hid hs
    have HG := Lib.hid hG
    clear hs hG
    have i0 : (0 : Int) ≤ (k : Int) := by omega
    by_cases h1 : k < a.length
    · have d1 : decide ((k : Int) < (a.length : Int)) = true := decide_eq_true (by omega)
      by_cases h2 : k < b.length
      · have d2 : decide ((k : Int) < (b.length : Int)) = true := decide_eq_true (by omega)
        obtain ⟨x, hx⟩ : ∃ x, a[k]? = some x := ⟨_, List.getElem?_eq_getElem h1⟩
        obtain ⟨y, hy⟩ : ∃ y, b[k]? = some y := ⟨_, List.getElem?_eq_getElem h2⟩
        have g1 : ∀ W : World, (Instr.index 9 (.string ⟨a.toArray⟩) (.int .i64 (k : Int))).run Try.prog W = .ok (.int .u8 (x.toNat : Int)) W := run_index_str a k x hx
        have g2 : ∀ W : World, (Instr.index 9 (.string ⟨b.toArray⟩) (.int .i64 (k : Int))).run Try.prog W = .ok (.int .u8 (y.toNat : Int)) W := run_index_str b k y hy
        have HM := Lib.hid (TabP.shared_more hx hy)
        have hx8 := x.toNat_lt
        have hy8 := y.toNat_lt
        clear hx hy
        by_cases he : x = y
        · subst he
          have HM := Lib.hid (show TabP.shared a b = (k + 1) + TabP.shared (a.drop (k + 1)) (b.drop (k + 1)) by rw [HS.out, HM.out, if_pos rfl]; omega)
          go_upto_region 2 with fail
          go_quiet (fail)
          go_wp2_with fail
          go_roundw
          case rel => exact ⟨k + 1, h1, h2, by go_num, HM.out, Grew.trans HG.out (Grew.drewN _ _)⟩
          case measure => simp [intOf]; omega
        · have d3 : ((x.toNat : Int) == (y.toNat : Int)) = false := by
            rw [beq_eq_false_iff_ne]
            intro e
            exact he (UInt8.toNat_inj.1 (by omega))
          have HM := Lib.hid (show TabP.shared a b = k by rw [HS.out, HM.out, if_neg he]; rfl)
          go_upto_region 2 with fail
          go_quiet (fail)
          go_wp2_with fail
          go_ret
          exact ⟨by rw [HM.out]; rfl, Grew.trans HG.out (Grew.drewN _ _)⟩
      · have d2 : decide ((k : Int) < (b.length : Int)) = false := decide_eq_false (by omega)
        have HM := Lib.hid (show TabP.shared a b = k by rw [HS.out, TabP.shared_end (.inr (by omega))]; rfl)
        go_upto_region 2 with fail
        go_quiet (fail)
        go_wp2_with fail
        go_ret
        exact ⟨by rw [HM.out]; rfl, Grew.trans HG.out (Grew.drewN _ _)⟩
    · have d1 : decide ((k : Int) < (a.length : Int)) = false := decide_eq_false (by omega)
      have HM := Lib.hid (show TabP.shared a b = k by rw [HS.out, TabP.shared_end (.inl (by omega))]; rfl)
      go_upto_region 2 with fail
      go_quiet (fail)
      go_wp2_with fail
      go_ret
      exact ⟨by rw [HM.out]; rfl, Grew.trans HG.out (Grew.drewN _ _)⟩
set_option maxRecDepth 100000 in
set_option maxHeartbeats 1000000 in
theorem tab_lay (A : Option Addr) (n c : Nat) (l : List UInt8) (B : Nat) (x : It) (ahead : List UInt8) (w : World) (hn : l.length = n) (hr : Row w B A (l.map b8)) (hB : B ≤ w.heap.size) (hx : x.seq < m64) (ha : ahead.length ≤ maxLen) (hm : n + x.key.length + x.val.length ≤ 100000000000) :
    Calls Try.prog 53 #[.slice A n c, iv x, .string ⟨ahead.toArray⟩] w (GivesB w (l ++ TabP.lay ahead x)) := by
  subst hn
  have HSh := Lib.hid (fun W => tab_shared ahead x.key W ha)
  have hsl := TabP.shared_le ahead x.key
  have HX := Lib.hid hx
  obtain ⟨k, hk⟩ : ∃ k, k = TabP.shared ahead x.key := ⟨_, rfl⟩
  rw [← hk] at HSh hsl
  have HK := Lib.hid hk
  clear hx hk ha
  have hsx := ba_size x.key
  have hsv := ba_size x.val
  have hks : k < two64 := by rw [two64_eq]; omega
  have hkd : (x.key.drop k).length = x.key.length - k := List.length_drop
  go_enter Try.func53, Try.ntmps53
  go_upto_region 2 with (go_at_call 70; ((with_reducible refine (HSh.out _).mono ?_); rintro e w1 ⟨rfl, hG⟩; have HG1 := Lib.hid hG; clear hG))
  have HB1 := Lib.hid (show Below w.heap.size w w1 from (grew_new w _).trans (Below.mono HG1.out (by simp)))
  have hX1 : IBox w1 w.heap.size x := IBox.grew (IBox.new w x) HG1.out
  have hlx := BinP.enc_len k
  have HU1 := Lib.hid (bin_uint A l.length c k l B w1 rfl (hr.below (HB1.out.mono hB)) (Nat.le_trans hB HB1.out.size) (by omega) hks)
  have hk63 : (k : Int) ≤ 9223372036854775807 := by omega
  clear hr hB
  go_upto_region 3 with (go_at_call 51; ((with_reducible refine HU1.out.mono ?_); rintro e w2 ⟨A1, n1, c1, rfl, hO, hG⟩; have HO1 := Lib.hid hO; have HG2 := Lib.hid hG; clear hO hG))
  obtain ⟨l1, hl1⟩ : ∃ r, r = l ++ BinP.enc k := ⟨_, rfl⟩
  have HL1 := Lib.hid hl1
  have hn1 : l1.length ≤ l.length + 10 := by rw [hl1, List.length_append]; omega
  rw [← hl1] at HO1
  clear HU1 hl1
  have HX2 := Lib.hid (hX1.grew HG2.out)
  obtain ⟨e0, e1, e2, e3⟩ := range_cells HX2.out.range
  have hn1e := HO1.out.len
  have HU2 := Lib.hid (ba_drop x.key k ▸ bin_text A1 n1 c1 l1 (x.key.drop k) w2.heap.size w2 hn1e HO1.out.row (Nat.le_refl _) (by omega))
  go_upto_region 4 with (go_at_call 52; ((with_reducible refine HU2.out.mono ?_); rintro e w3 ⟨A2, n2, c2, rfl, hO, hG⟩; have HO2 := Lib.hid hO; have HG3 := Lib.hid hG; clear hO hG))
  have hl2 := TabP.text_len (x.key.drop k)
  rw [hkd] at hl2
  obtain ⟨l2, hl2e⟩ : ∃ r, r = l1 ++ BinP.text (x.key.drop k) := ⟨_, rfl⟩
  have HL2 := Lib.hid hl2e
  have hn2 : l2.length ≤ l.length + x.key.length + 20 := by rw [hl2e, List.length_append]; omega
  rw [← hl2e] at HO2
  clear HU2 hl2e e0 e1 e2 e3 HO1
  have HX3 := Lib.hid (HX2.out.grew HG3.out)
  obtain ⟨e0, e1, e2, e3⟩ := range_cells HX3.out.range
  have hn2e := HO2.out.len
  have HU3 := Lib.hid (bin_uint A2 n2 c2 x.seq l2 w3.heap.size w3 hn2e HO2.out.row (Nat.le_refl _) (by omega) (by have := HX.out; rw [m64_eq] at this; rw [two64_eq]; exact this))
  go_upto_region 5 with (go_at_call 51; ((with_reducible refine HU3.out.mono ?_); rintro e w4 ⟨A3, n3, c3, rfl, hO, hG⟩; have HO3 := Lib.hid hO; have HG4 := Lib.hid hG; clear hO hG))
  have hl3 := BinP.enc_len x.seq
  obtain ⟨l3, hl3e⟩ : ∃ r, r = l2 ++ BinP.enc x.seq := ⟨_, rfl⟩
  have HL3 := Lib.hid hl3e
  have hn3 : l3.length ≤ l.length + x.key.length + 30 := by rw [hl3e, List.length_append]; omega
  rw [← hl3e] at HO3
  clear HU3 hl3e e0 e1 e2 e3 HO2
  have HX4 := Lib.hid (HX3.out.grew HG4.out)
  obtain ⟨e0, e1, e2, e3⟩ := range_cells HX4.out.range
  have hn3e := HO3.out.len
  have HB4 := Lib.hid (show Below w.heap.size w w4 from HB1.out.trans (((HG2.out.trans (Below.mono HG3.out HG2.out.size)).trans (Below.mono HG4.out (Nat.le_trans HG2.out.size HG3.out.size))).mono HB1.out.size))
  have HT : Hid (TabP.lay ahead x = BinP.enc k ++ BinP.text (x.key.drop k) ++ BinP.enc x.seq ++ (if x.gone then [1] else 0 :: BinP.text x.val)) := Lib.hid (by rw [HK.out]; rfl)
  have HLL : Hid (l ++ TabP.lay ahead x = l3 ++ (if x.gone then [1] else 0 :: BinP.text x.val)) := Lib.hid (by rw [HT.out, HL3.out, HL2.out, HL1.out]; simp only [List.append_assoc])
  clear HT HL1 HL2 HL3 HK HSh hsl
  obtain ⟨gone, hgone⟩ : ∃ b, b = x.gone := ⟨_, rfl⟩
  rw [← hgone] at e2 HLL
  clear hgone
  have hs4 := HB4.out.size
  have HO4 := Lib.hid (show OwnB w4 w.heap.size A3 n3 c3 l3 from Own.lower HO3.out (Nat.le_trans HB1.out.size (Nat.le_trans HG2.out.size HG3.out.size)))
  have h30 : w.heap.size < w3.heap.size := HX3.out.lt
  have hs34 : w3.heap.size ≤ w4.heap.size := HG4.out.size
  cases gone
  · go_upto_region 7 with fail
    clear e0 e1 e2 e3
    have HC := Lib.hid (show Below w3.heap.size w4 (World.drewN w4 1) from Below.mono (Grew.drewN w4 1) hs34)
    refine wp_region_c (fun W => Below w3.heap.size w4 W) (by kernel_rfl) HC.out ?_
    have hqq := fun V : { V : World // Below w3.heap.size w4 V } => range_cells (HX4.out.below V.2 h30).range
    (refine wpAnyC_free 0 (oi := ⟨some 31, _, _, _, _, _⟩) (v := ?_) rfl (by kernel_rfl) (by kernel_rfl) (by kernel_rfl) HC.out rfl (fun x => ?_) ?_; rotate_left; (focus (simp [go_sem]; (try go_ints); first | done | (with_reducible rfl))); (simp only [Act.put, List.setIfInBounds_toArray, List.set_cons_succ, List.set_cons_zero]))
    (refine wpAnyC_free 3 (oi := ⟨some 34, _, _, _, _, _⟩) (v := ?_) rfl (by kernel_rfl) (by kernel_rfl) (by kernel_rfl) HC.out rfl (fun x => ?_) ?_; rotate_left; (focus (simp [go_sem]; (try go_ints); first | done | (with_reducible rfl))); (simp only [Act.put, List.setIfInBounds_toArray, List.set_cons_succ, List.set_cons_zero]))
    (refine wpAnyC_free 4 (oi := ⟨some 35, _, _, _, _, _⟩) (v := ?_) rfl (by kernel_rfl) (by kernel_rfl) (by kernel_rfl) HC.out rfl (fun x => ?_) ?_; rotate_left; (focus (simp [go_sem, hqq]; (try go_ints); first | done | (with_reducible rfl))); (simp only [Act.put, List.setIfInBounds_toArray, List.set_cons_succ, List.set_cons_zero]))
    change wpAnyC _ _ _ _ _ _ _ _ (World.drewN w4 1)
    clear hqq
    refine wpAnyC_step 1 (o := ⟨some 32, _, _, _, _, _⟩) rfl (by kernel_rfl) rfl ?_
    refine wpList_value (o := ⟨some 32, _, _, _, _, _⟩) (v := .slice (some ⟨w4.heap.size, 0, none⟩) 1 1) (w' := (World.drewN w4 1).alloc (.cells #[.int .u8 0] 5)) rfl (by kernel_rfl) ?_
    have HC5 := Lib.hid (show Below w3.heap.size w4 ((World.drewN w4 1).alloc (.cells #[.int .u8 0] 5)) from HC.out.trans (Below.mono (grew_new _ _) hs34))
    have HO5 := Lib.hid ((HO3.out.drewN 1).alloc (.cells #[.int .u8 0] 5))
    have HR5 := Lib.hid (show Row ((World.drewN w4 1).alloc (.cells #[.int .u8 0] 5)) (w4.heap.size + 1) (some ⟨w4.heap.size, 0, none⟩) [b8 0] from Row.new _ _ _ _ _ _ rfl (Nat.le_refl _) _ rfl)
    generalize (World.drewN w4 1).alloc (.cells #[.int .u8 0] 5) = w5 at HC5 HO5 HR5 ⊢
    have hs45 := HC5.out.size
    (simp only [Act.put, List.setIfInBounds_toArray, List.set_cons_succ, List.set_cons_zero])
    refine wpList_nil ⟨rfl, HC5.out, ?_⟩
    refine wpAnyC_step 2 (o := ⟨some 33, _, _, _, _, _⟩) rfl (by kernel_rfl) rfl ?_
    refine wpList_app8 rfl (.tmp 31) (.tmp 32) 49 rfl (.inl ⟨_, Try.underlying49⟩) w3.heap.size _ _ _ l3 rfl HO5.out 1 [0] (Src.slice rfl HR5.out) (.inr ⟨rfl, by omega⟩) (Nat.le_trans hs34 hs45) ?_
    intro A6 c6 w6 hO6 hg6 hB6 hb6
    have HC6 := Lib.hid (show Below w3.heap.size w4 w6 from HC5.out.trans hB6)
    have HO6 := Lib.hid hO6
    clear hO6 hg6 hB6 hb6
    have hs46 := HC6.out.size
    (simp only [Act.put, List.setIfInBounds_toArray, List.set_cons_succ, List.set_cons_zero])
    refine wpList_nil ⟨rfl, HC6.out, ?_⟩
    have h6 := HO6.out.len
    have hx3 : (l3 ++ [0]).length ≤ l.length + x.key.length + 31 := by rw [List.length_append]; simp only [List.length_cons, List.length_nil]; omega
    refine wpAnyC_step 5 (o := ⟨some 36, _, _, _, _, _⟩) rfl (by kernel_rfl) rfl ?_
    refine wpList_callR rfl _ _ (fun v w' => ∃ A n c, v = .slice A n c ∧ OwnB w' w.heap.size A n c (l ++ TabP.lay ahead x) ∧ Grew w6 w') (by simp [go_sem]) ((bin_text A6 (n3 + 1) c6 (l3 ++ [0]) x.val w6.heap.size w6 h6 HO6.out.row (Nat.le_refl _) (by omega)).mono fun e w' ⟨A, n, c, e1, h1, h2⟩ => ⟨_, e1, A, n, c, rfl, by rw [HLL.out]; exact (show OwnB w' w.heap.size A n c (l3 ++ [0] ++ BinP.text x.val) from Own.lower h1 (by omega)) |> fun h => by simpa using h, h2⟩) ?_
    rintro v w7 ⟨A7, n7, c7, rfl, hO, hG⟩
    have HO7 := Lib.hid hO
    have HC7 := Lib.hid (show Below w3.heap.size w4 w7 from HC6.out.trans (Below.mono hG (Nat.le_trans hs34 hs46)))
    clear hO hG
    (simp only [Act.put, List.setIfInBounds_toArray, List.set_cons_succ, List.set_cons_zero])
    refine wpList_nil ⟨rfl, HC7.out, ?_⟩
    have HC := HC7
    (refine wpAnyC_free 6 (oi := ⟨some 6, _, _, _, _, _⟩) (v := ?_) rfl (by kernel_rfl) (by kernel_rfl) (by kernel_rfl) HC.out rfl (fun x => ?_) ?_; rotate_left; (focus (simp [go_sem]; (try go_ints); first | done | (with_reducible rfl))); (simp only [Act.put, List.setIfInBounds_toArray, List.set_cons_succ, List.set_cons_zero]))
    refine wpAnyC_done (by kernel_rfl) (fun _ => ?_) _
    go_wp2_with fail
    go_ret
    exact ⟨A7, n7, c7, rfl, HO7.out, HB4.out.trans (Below.mono HC7.out (by omega))⟩
  · go_wp2_with (at_builtin; go_loud (refine wpList_app8 rfl (.tmp 28) (.tmp 29) 49 rfl (.inl ⟨_, Try.underlying49⟩) w.heap.size _ _ _ l3 rfl (HO4.out.alloc _) 1 [1] (Src.slice rfl (Row.new _ _ _ _ (w4.heap.size + 1) _ rfl (by omega) _ rfl)) (.inr ⟨rfl, by omega⟩) (by simp; omega) ?_; intro A5 c5 w5 hO5 hg5 hB5 hb5))
    go_ret
    exact ⟨A5, _, c5, rfl, by rw [HLL.out]; exact hO5, (HB4.out.alloc hs4 _).trans hB5⟩
end Go.Proofs.Ytkkeodfoiffofaa
namespace Go.Proofs.Ytkkeodfoiffofaa
open Go.RowKit
set_option linter.unusedVariables false
abbrev i64v (m : Nat) : Value := .int .i64 (m : Int)
theorem info_int : (Try.prog.info? 3).map (fun i => (i.zero, i.size, i.bytes)) = some (some (.int .i64 0), 1, 8) := by kernel_rfl
/-- a slice of ints of the call's own -/
def OwnN (w : World) (base : Nat) (A : Option Addr) (n cap : Nat) (l : List Nat) : Prop := Own w base 3 1 A n cap (l.map i64v)
theorem OwnN.nil (w : World) (base : Nat) : OwnN w base none 0 0 [] := Own.nil _ _ _ _
theorem OwnN.len {w : World} {base n cap : Nat} {A : Option Addr} {l : List Nat} (h : OwnN w base A n cap l) : l.length = n := by have := Own.len h; simpa using this
set_option maxRecDepth 100000 in
set_option maxHeartbeats 1000000 in
theorem tab_places (key : List UInt8) (size : Nat) (w : World) (hk : key.length ≤ 1000000) (hs : size ≤ 500000000) :
    Calls Try.prog 65 #[.string ⟨key.toArray⟩, .int .i64 (size : Int)] w fun e w' => ∃ A n c, e = .returned (.slice A n c) ∧ OwnN w' w.heap.size A n c (TabP.places key size) ∧ Grew w w' := by
  by_cases h0 : size = 0
  · subst h0
    go_enter Try.func65, Try.ntmps65
    go_wp2_with fail
    go_ret
    exact ⟨_, _, _, rfl, OwnN.nil _ _, Grew.refl _⟩
  have i0 : ¬ (size : Int) = 0 := by omega
  obtain ⟨hv, hhv⟩ : ∃ h : BitVec 32, h = CrcP.sum key := ⟨_, rfl⟩
  obtain ⟨sv', hsv⟩ : ∃ s : BitVec 32, s = CrcP.more hv [85] := ⟨_, rfl⟩
  have HP : Hid (TabP.places key size = TabP.placesF 6 hv.toNat sv'.toNat (8 * size)) := Lib.hid (by unfold TabP.places; rw [if_neg h0, hsv, hhv])
  have HS := Lib.hid (fun (A : Option Addr) (c : Nat) (W : World) (hr : Row W W.heap.size A (key.map b8)) => show Calls Try.prog 56 #[.slice A key.length c] W fun e w' => e = .returned (.int .u32 (bv32 hv)) ∧ W = w' by rw [hhv]; exact crc_sum A key.length c key W.heap.size W rfl hr (by unfold maxLen; omega))
  have HM := Lib.hid (fun (A : Option Addr) (W : World) (hr : Row W W.heap.size A ([85].map b8)) => show Calls Try.prog 72 #[.int .u32 (bv32 hv), .slice A 1 1] W fun e w' => e = .returned (.int .u32 (bv32 sv')) ∧ W = w' by rw [hsv]; exact crc_more A 1 1 hv [85] W.heap.size W rfl hr (by unfold maxLen; omega))
  clear hhv hsv
  go_enter Try.func65, Try.ntmps65
  go_upto_region 4 with (first
    | (refine wpList_bytes8 (dst := some 11) w.heap.size key rfl rfl (Nat.le_refl _) (by unfold maxLen; omega) ?_; intro cap1 w1 hO1 hB1 hs1)
    | (go_at_call 56; ((with_reducible refine (HS.out _ _ _ hO1.row).mono ?_); rintro e w2 ⟨rfl, rfl⟩)))
  have HB1 := Lib.hid hB1
  clear hB1 hO1 HS
  obtain ⟨w3, hw3⟩ : ∃ W, W = w1.alloc (.cells #[.int .u8 85] 5) := ⟨_, rfl⟩
  have HB3 := Lib.hid (show Grew w w3 by rw [hw3]; exact HB1.out.alloc (Nat.le_of_lt hs1) _)
  have hs3 := HB3.out.size
  have hr3 : Row w3 w3.heap.size (some ⟨w1.heap.size, 0, none⟩) ([85].map b8) := by rw [hw3]; exact Row.new _ _ _ _ _ _ rfl (by simp) _ rfl
  have HM3 := Lib.hid (HM.out _ w3 hr3)
  rw [hw3] at HM3
  go_upto_region 6 with (go_at_call 72; ((with_reducible refine HM3.out.mono ?_); rintro e w2 ⟨rfl, rfl⟩))
  rw [← hw3]
  clear hw3 hr3 HM3 HM HB1
  have hh0 := u32_bd hv
  have hv0 := u32_bd sv'
  unfold bv32 at *
  obtain ⟨h1, hh1⟩ : ∃ n : Nat, n = hv.toNat := ⟨_, rfl⟩
  obtain ⟨s1, hs1⟩ : ∃ n : Nat, n = sv'.toNat := ⟨_, rfl⟩
  rw [← hh1, ← hs1] at HP
  rw [← hh1] at hh0
  rw [← hs1] at hv0
  rw [← hh1, ← hs1]
  clear hh1 hs1
  go_wp2_with fail
  go_loopw [5, 7, 16] (fun h l i wy => ∃ (k x : Nat) (A : Option Addr) (c : Nat) (out : List Nat), k ≤ 6 ∧ i = .int .i64 (k : Int) ∧ h = .int .u32 (x : Int) ∧ x < 4294967296 ∧ l = .slice A k c ∧ OwnN wy w.heap.size A k c out ∧ out ++ TabP.placesF (6 - k) x s1 (8 * size) = TabP.placesF 6 h1 s1 (8 * size) ∧ Grew w wy) (fun _ _ i _ => 6 - (intOf i).toNat)
  case atStart => exact ⟨0, h1, none, 0, [], by omega, rfl, rfl, by omega, rfl, OwnN.nil _ _, rfl, HB3.out⟩
  case round =>
    obtain ⟨k, x, A, c, out, hk6, rfl, rfl, hx, rfl, hO, he, hG⟩ := hrel
    have HO := Lib.hid hO
    have HE := Lib.hid he
    have HG := Lib.hid hG
    clear hO he hG
    have hsr := HG.out.size
    by_cases hlt : k < 6
    · have i1 : (k : Int) < 6 := by omega
      have i8 : (8 : Int) * (size : Int) ≤ 4294967295 := by omega
      have i9 : ¬ (8 : Int) * (size : Int) = 0 := by omega
      obtain ⟨m, hm⟩ : ∃ m, m = x % (8 * size) := ⟨_, rfl⟩
      have i10 : (x : Int) % (8 * (size : Int)) = (m : Int) := by rw [hm]; simp
      have i11 : m < 4294967296 := by rw [hm]; exact Nat.lt_of_le_of_lt (Nat.mod_le _ _) hx
      obtain ⟨x', hx'⟩ : ∃ y, y = (x + s1) % 4294967296 := ⟨_, rfl⟩
      have i12 : ((x : Int) + (s1 : Int)) % 4294967296 = (x' : Int) := by rw [hx']; omega
      have i13 : x' < 4294967296 := by rw [hx']; omega
      have HE := Lib.hid (show (out ++ [m]) ++ TabP.placesF (6 - (k + 1)) x' s1 (8 * size) = TabP.placesF 6 h1 s1 (8 * size) by
        rw [← HE.out, show 6 - k = (6 - (k + 1)) + 1 from by omega, TabP.placesF, hm, hx']
        simp)
      clear hm hx'
      go_wp2_with (at_builtin; go_loud (refine wpList_appn1 rfl (.tmp 18) (.tmp 25) 30 3 (.int .i64 0) 8 rfl Try.underlying30 info_int rfl (by omega) w.heap.size _ _ _ (out.map i64v) rfl (Own.alloc HO.out _) 1 [i64v m] (Src.slice rfl (Row.new _ _ _ _ (wr.heap.size + 1) _ rfl (by omega) _ rfl)) (by intro v hv; simp at hv; rw [hv]; rfl) (k + 1) (by omega) ((out ++ [m]).map i64v) (by simp) (by omega) (by simp; omega) ?_; intro A5 c5 w5 hO5 hg5 hB5 hor5))
      go_roundw
      case rel => exact ⟨k + 1, x', A5, c5, out ++ [m], hlt, by go_num, by rw [i12], i13, rfl, hO5, HE.out, (HG.out.alloc hsr _).trans hB5⟩
      case measure => simp [intOf]; omega
    · obtain rfl : k = 6 := by omega
      have i1 : ¬ ((6 : Nat) : Int) < 6 := by omega
      go_wp2_with fail
      go_ret
      exact ⟨_, _, _, rfl, by have := HE.out; rw [HP.out, ← this]; simpa [TabP.placesF] using HO.out, HG.out⟩
end Go.Proofs.Ytkkeodfoiffofaa
namespace Go.Proofs.Ytkkeodfoiffofaa
open Go.RowKit
set_option linter.unusedVariables false
attribute [local go_sem] Oper.semAt_some wide_fn
theorem exec_load8 {o : Oper} {a : Act} {w : World} {g k : Nat} {x : UInt8} (X : Operand) (ho : o.op = .load 5 X) (hx : a.eval X = .pointer (some ⟨g, k, none⟩)) (h : w.cell? ⟨g, k, none⟩ = some (b8 x)) : (execOp a.eval o).run Try.prog w = .ok (.value (b8 x)) w := by
  unfold execOp
  simp [ho, hx, Instr.loadAt, Instr.sureAddr, loadVar, isAgg, Sem.run_bind, run_underlying Try.underlying5 w, h]
theorem size_u8 : (Try.prog.info? 5).map (·.size) = some 1 := by kernel_rfl
theorem run_store8 {w : World} {g k : Nat} {x : UInt8} {old : Value} (hc : w.cell? ⟨g, k, none⟩ = some old) (hf : w.frozen? ⟨g, k, none⟩ = false) :
    (storeVar 5 ⟨g, k, none⟩ (b8 x)).run Try.prog w = .ok () (w.setCell ⟨g, k, none⟩ (b8 x)) := by
  have hs := run_storeCells_cells (P := Try.prog) g k [b8 x] 0 w (fun j hj => by
    have : j = 0 := by simp at hj; omega
    subst this
    simp [hc]) (fun j hj => by
    have : j = 0 := by simp at hj; omega
    subst this
    simpa using hf) (fun v hv => by simp at hv; rw [hv]; rfl)
  have hcs : (b8 x).cells = #[b8 x] := rfl
  cases hq : Try.prog.info? 5 with
  | none => have := size_u8; simp [hq] at this
  | some i =>
    have hsz : i.size = 1 := by have := size_u8; simpa [hq] using this
    simp only [Nat.add_zero] at hs
    simp [storeVar, sizeOf, typeInfo, hq, hcs, hsz, hs, World.setCells]
theorem wpList_store8 {ops : Array Oper} {rest : List Oper} {o : Oper} {a : Act} {w : World} {Q : Exit → Act → World → Prop} (hgd : o.guard = none) (X Y : Operand) (ho : o.op = .store 5 X Y)
    (g k : Nat) (x : UInt8) (old : Value) (hx : a.eval X = .pointer (some ⟨g, k, none⟩)) (hy : a.eval Y = b8 x) (hc : w.cell? ⟨g, k, none⟩ = some old) (hf : w.frozen? ⟨g, k, none⟩ = false)
    (h : wpList Try.prog ops Q rest (a.put o.dst undef) (w.setCell ⟨g, k, none⟩ (b8 x))) : wpList Try.prog ops Q (o :: rest) a w :=
  wpList_plain hgd fun _ hK => by
    unfold Oper.wp execOp
    simp only [ho, hx, hy, Instr.storeAt, Instr.sureAddr, Sem.run_bind, Sem.run_pure, Result.andThen_ok, run_store8 hc hf]
    exact hK _ _ h
theorem or_bit (y : UInt8) (r : Nat) (hr : r < 8) : bits .or .u8 (y.toNat : Int) (2 ^ r % 256) = ((y ||| UInt8.ofNat (2 ^ r)).toNat : Int) := by
  have h : 2 ^ r < 256 := by
    have : 2 ^ r ≤ 2 ^ 7 := Nat.pow_le_pow_right (by decide) (by omega)
    omega
  have e : (2 : Int) ^ r = ((2 ^ r : Nat) : Int) := (Int.natCast_pow 2 r).symm
  rw [e]
  generalize 2 ^ r = m at h
  have e2 : (m : Int) % 256 = ((UInt8.ofNat m).toNat : Int) := by rw [UInt8.toNat_ofNat']; omega
  rw [e2, u8_or_nat _ _ y.toNat_lt (UInt8.ofNat m).toNat_lt, UInt8.toNat_or]
set_option maxRecDepth 100000 in
set_option maxHeartbeats 2000000 in
theorem tab_filter {β : Type} (f : β → It) (gf : Nat) (lb : Array Value) (K : Nat → Prop) (xs : List β) (many : Nat) (w : World) (eg : ∀ args w, (callFunc gf args).run Try.prog w = .ok (.enter gf args) w) (hK : ∀ g, K g → g < w.heap.size)
    (hseq : ∀ W, Grew w W → Gives Try.prog gf lb (fun x : β => #[iv (f x)]) K xs W) (hm : many ≤ 1000000) (hk : ∀ x : β, (f x).key.length ≤ 1000000) :
    Calls Try.prog 54 #[.func (.func gf) #[] lb, .int .i64 (many : Int)] w (GivesB w (TabP.filter (xs.map f) many)) := by
  have hsz : TabP.fsize many ≤ 2000000 := by unfold TabP.fsize; omega
  obtain ⟨N, hN⟩ : ∃ N, N = TabP.fsize many := ⟨_, rfl⟩
  have HN := Lib.hid hN
  have i1 : ((many : Int) * 10 + 7).tdiv 8 = (N : Int) := by rw [hN]; unfold TabP.fsize; rw [show (many : Int) * 10 + 7 = ((many * 10 + 7 : Nat) : Int) from by omega, Int.ofNat_tdiv]; rfl
  rw [← hN] at hsz
  clear hN
  have HSQ := Lib.hid hseq
  have HK := Lib.hid hK
  have HKL := Lib.hid hk
  have HEG := Lib.hid eg
  clear hseq hK hk eg
  refine calls_marks Try.func54 rfl ?_
  simp only [Try.ntmps54, List.size_toArray, List.length_cons, List.length_nil, Nat.reduceAdd, Nat.reduceSub, Array.replicate_succ, Array.replicate_zero, List.push_toArray, List.append_toArray, List.nil_append, List.cons_append]
  go_upto_region 2 with (refine wpList_make8 w.heap.size N .i64 .i64 rfl rfl rfl (Nat.le_refl _) (by omega) ?_; intro w1 hO1 hB1 hz1)
  obtain ⟨w2, hw2⟩ : ∃ W, W = w1.alloc (.cells #[.slice (some ⟨w.heap.size, 0, none⟩) N N] 49) := ⟨_, rfl⟩
  obtain ⟨bf, hbf⟩ : ∃ b, b = w1.heap.size := ⟨_, rfl⟩
  obtain ⟨g0, hg0⟩ : ∃ b, b = w.heap.size := ⟨_, rfl⟩
  have HL := Lib.hid (show g0 < bf ∧ bf < w2.heap.size by rw [hg0, hbf, hw2]; exact ⟨hz1, by simp⟩)
  have HBF := Lib.hid (show Boxed w2 bf 49 (.slice (some ⟨g0, 0, none⟩) N N) by rw [hw2, hbf, hg0]; exact Boxed.new w1 _ _)
  have HO2 := Lib.hid (show OwnB w2 g0 (some ⟨g0, 0, none⟩) N N (List.replicate N 0) by rw [hw2, hg0]; exact Own.alloc hO1 _)
  have HG2 := Lib.hid (show Below g0 w w2 by rw [hw2, hg0]; exact hB1.alloc (Nat.le_of_lt hz1) _)
  have HGV := Lib.hid (HSQ.out w2 (by have := HG2.out; rw [hg0] at this; exact this))
  rw [← hg0] at HK
  have HG0 := Lib.hid hg0
  rw [← hw2, ← hbf, ← hg0]
  clear hw2 hbf hg0 hO1 hB1 hz1 HSQ i1
  go_wp2_with fail
  refine wp_rangeFz f 15 6 (gf := gf) (lb := lb) (K := K) (xs := xs) rfl HEG.out (fun g h => by have h1 := HK.out g h; have h2 := HL.out; omega) HGV.out
    (fun pre W => Boxed W bf 49 (.slice (some ⟨g0, 0, none⟩) N N) ∧ OwnB W g0 (some ⟨g0, 0, none⟩) N N (TabP.filterF (List.replicate N 0) (pre.map f)) ∧ Below g0 w W) (fun _ _ _ => False)
    (fun s W W' h _ ha => ⟨ha.boxed h.1, ha.own h.2.1, h.2.2.trans (ha.below.mono (by have := HL.out; omega))⟩) (fun _ _ _ _ h _ _ => h) ⟨HBF.out, HO2.out, HG2.out⟩ ?assign ?body ?done ?stop
  case assign =>
    intro l x W K' hK
    gi_wp2
    exact hK
  case body =>
    rintro l pre xb b W ⟨hBf, hO, hG⟩ hsz2 hIb hb hlen
    have hxk := HKL.out xb
    have HMAP := Lib.hid (show (pre ++ [xb]).map f = pre.map f ++ [f xb] by simp)
    obtain ⟨x, hx⟩ : ∃ x, x = f xb := ⟨_, rfl⟩
    rw [← hx] at hxk hIb HMAP ⊢
    clear hx
    obtain ⟨q0, q1, q2, q3⟩ := range_cells hIb.range
    have cf := hBf.cell
    have HB0 := Lib.hid hBf
    have HO := Lib.hid hO
    have HG := Lib.hid hG
    have HIb := Lib.hid hIb
    have HS := Lib.hid hsz2
    clear hIb hBf hO hG
    simp only [actI, List.setIfInBounds_toArray, List.set_cons_zero, List.set_cons_succ]
    obtain ⟨F, hF⟩ : ∃ F, F = TabP.filterF (List.replicate N 0) (pre.map f) := ⟨_, rfl⟩
    have hFN : F.length = N := by rw [hF, TabP.filterF_len, List.length_replicate]
    have HADD := Lib.hid (show TabP.filterF (List.replicate N 0) ((pre ++ [xb]).map f) = TabP.orBits F (TabP.places x.key N) by rw [HMAP.out, TabP.filterF_add, ← hF]; unfold TabP.addKey; rw [hFN])
    rw [← hF] at HO
    clear hF
    have HPl := Lib.hid (tab_places x.key N W hxk (by omega))
    have hLt : ∀ p ∈ TabP.places x.key N, p < 8 * N := TabP.places_lt
    have hLe := TabP.places_len x.key N
    obtain ⟨ps, hps⟩ : ∃ ps, ps = TabP.places x.key N := ⟨_, rfl⟩
    rw [← hps] at HADD HPl hLt hLe
    have HLt := Lib.hid hLt
    clear hps hLt
    gi_wp2_with (gi_at_call 65; go_loud ((refine calls_in (HPl.out.mono ?_)); rintro e w5 ⟨A5, n5, c5, rfl, hO5, hG5⟩; have HO5 := Lib.hid hO5; have HG5 := Lib.hid hG5; clear hO5 hG5))
    have hn5 := HO5.out.len
    have hg0W : g0 < bf ∧ bf < W.heap.size := by have := HL.out; have := HS.out; omega
    have hg0w : g0 ≤ w.heap.size := by rw [HG0.out]; exact Nat.le_refl _
    gi_loopw [8, 22] (fun at_ i wy => ∃ k : Nat, k ≤ n5 ∧ i = .int .i64 (k : Int) ∧ OwnN wy W.heap.size A5 n5 c5 ps ∧ Boxed wy bf 49 (.slice (some ⟨g0, 0, none⟩) N N) ∧ OwnB wy g0 (some ⟨g0, 0, none⟩) N N (TabP.orBits F (ps.take k)) ∧ Below g0 W wy ∧ KeepsOthers W wy ∧ KeepSet K W wy) (fun _ i _ => n5 - (intOf i).toNat)
    case atStart => exact ⟨0, Nat.zero_le _, rfl, HO5.out, (HG5.out.block bf hg0W.2).trans HB0.out, Own.below_all HO.out HG5.out, HG5.out.mono (by omega), KeepsOthers.grew HG5.out, KeepSet.below HG5.out fun g h => by have := HK.out g h; omega⟩
    case round =>
      obtain ⟨k, hk, rfl, hP, hBx, hO, hG, hKO, hKS⟩ := hrel
      have HP := Lib.hid hP
      have HBx := Lib.hid hBx
      have HOk := Lib.hid hO
      have HGk := Lib.hid hG
      have HKO := Lib.hid hKO
      have HKS := Lib.hid hKS
      clear hP hBx hO hG hKO hKS HO5
      have i0 : (0 : Int) ≤ (k : Int) := by omega
      by_cases hlt : k < n5
      · have i1 : (k : Int) < (n5 : Int) := by omega
        obtain ⟨p, hp⟩ : ∃ p, ps[k]? = some p := ⟨_, List.getElem?_eq_getElem (by omega)⟩
        have hp8 := HLt.out p (List.mem_of_getElem? hp)
        have HT := Lib.hid (TabP.orBits_take (f := F) hp)
        obtain ⟨ad, hA, _, hc⟩ := (Own.row HP.out (Nat.le_refl _)).at_ k (by simpa using (show k < ps.length by omega))
        subst hA
        rw [List.getElem_map, List.getElem_of_getElem? hp |> fun h => h.2] at hc
        clear hp
        obtain ⟨d, hd⟩ : ∃ d, d = p / 8 := ⟨_, rfl⟩
        obtain ⟨r, hr⟩ : ∃ r, r = p % 8 := ⟨_, rfl⟩
        have hdN : d < N := by omega
        have hr8 : r < 8 := by omega
        obtain ⟨G, hG⟩ : ∃ G, G = TabP.orBits F (ps.take k) := ⟨_, rfl⟩
        have hGN : G.length = N := by rw [hG, TabP.orBits_len, hFN]
        rw [← hG] at HT HOk
        clear hG
        obtain ⟨y, hy⟩ : ∃ y, G[d]? = some y := ⟨_, List.getElem?_eq_getElem (by omega)⟩
        have HT := Lib.hid (show TabP.orBits F (ps.take (k + 1)) = G.set d (y ||| UInt8.ofNat (2 ^ r)) by rw [HT.out]; unfold TabP.orBit; rw [← hd, ← hr, List.getD_eq_getElem?_getD, hy]; rfl)
        have ho := or_bit y r hr8
        obtain ⟨z, hz⟩ : ∃ z, z = y ||| UInt8.ofNat (2 ^ r) := ⟨_, rfl⟩
        rw [← hz] at HT ho
        clear hz
        have iq : ((p : Int)).tdiv 8 = (d : Int) := by rw [hd]; exact (Int.ofNat_tdiv p 8).symm
        have ir : ((p : Int)).tmod 8 = (r : Int) := by rw [hr]; exact (Int.ofNat_tmod p 8).symm
        have hcy : wr.cell? ⟨g0, d, none⟩ = some (b8 y) := by
          have := HOk.out.cell (j := d) (by omega)
          rw [this, (List.getElem?_eq_some_iff.1 hy).2]
        have HCY := Lib.hid hcy
        have cfw := HBx.out.cell
        have id1 : (d : Int) < (N : Int) := by omega
        have id0 : (0 : Int) ≤ (d : Int) := by omega
        clear hd hr hy hcy
        gi_wp2_with fail
        have HC := Lib.hid (show (World.drewN wr 1).cell? ⟨bf, 0, none⟩ = some (.slice (some ⟨g0, 0, none⟩) N N) from cfw)
        refine wp_region_cIn (fun V => V.cell? ⟨bf, 0, none⟩ = some (.slice (some ⟨g0, 0, none⟩) N N)) (by kernel_rfl) (by kernel_rfl) HC.out ?_
        have hqq := And.intro (fun V : { V : World // V.cell? ⟨bf, 0, none⟩ = some (.slice (some ⟨g0, 0, none⟩) N N) } => V.2) (And.intro iq (And.intro ir (And.intro hdN (And.intro id1 (And.intro id0 ho)))))
        (refine wpAnyC_free 0 (oi := ⟨some 26, _, _, _, _, _⟩) (v := ?_) rfl (by kernel_rfl) (by kernel_rfl) (by kernel_rfl) HC.out rfl (fun x => ?_) ?_; rotate_left; (focus (simp [go_sem, hqq]; (try go_ints); first | done | (with_reducible rfl))); (simp only [Act.put, List.setIfInBounds_toArray, List.set_cons_succ, List.set_cons_zero]))
        (refine wpAnyC_free 1 (oi := ⟨some 27, _, _, _, _, _⟩) (v := ?_) rfl (by kernel_rfl) (by kernel_rfl) (by kernel_rfl) HC.out rfl (fun x => ?_) ?_; rotate_left; (focus (simp [go_sem]; (try go_ints); first | done | (with_reducible rfl))); (simp only [Act.put, List.setIfInBounds_toArray, List.set_cons_succ, List.set_cons_zero]))
        (refine wpAnyC_free 2 (oi := ⟨some 28, _, _, _, _, _⟩) (v := ?_) rfl (by kernel_rfl) (by kernel_rfl) (by kernel_rfl) HC.out rfl (fun x => ?_) ?_; rotate_left; (focus (simp [go_sem, hqq]; (try go_ints); first | done | (with_reducible rfl))); (simp only [Act.put, List.setIfInBounds_toArray, List.set_cons_succ, List.set_cons_zero]))
        (refine wpAnyC_free 3 (oi := ⟨some 29, _, _, _, _, _⟩) (v := ?_) rfl (by kernel_rfl) (by kernel_rfl) (by kernel_rfl) HC.out rfl (fun x => ?_) ?_; rotate_left; (focus (simp [go_sem, hqq]; (try go_ints); first | done | (with_reducible rfl))); (simp only [Act.put, List.setIfInBounds_toArray, List.set_cons_succ, List.set_cons_zero]))
        (refine wpAnyC_free 5 (oi := ⟨some 31, _, _, _, _, _⟩) (v := ?_) rfl (by kernel_rfl) (by kernel_rfl) (by kernel_rfl) HC.out rfl (fun x => ?_) ?_; rotate_left; (focus (simp [go_sem]; (try go_ints); first | done | (with_reducible rfl))); (simp only [Act.put, List.setIfInBounds_toArray, List.set_cons_succ, List.set_cons_zero]))
        (refine wpAnyC_free 6 (oi := ⟨some 32, _, _, _, _, _⟩) (v := ?_) rfl (by kernel_rfl) (by kernel_rfl) (by kernel_rfl) HC.out rfl (fun x => ?_) ?_; rotate_left; (focus (simp [go_sem, hqq]; (try go_ints); first | done | (with_reducible rfl))); (simp only [Act.put, List.setIfInBounds_toArray, List.set_cons_succ, List.set_cons_zero]))
        (refine wpAnyC_free 7 (oi := ⟨some 33, _, _, _, _, _⟩) (v := ?_) rfl (by kernel_rfl) (by kernel_rfl) (by kernel_rfl) HC.out rfl (fun x => ?_) ?_; rotate_left; (focus (simp [go_sem]; (try go_ints); first | done | (with_reducible rfl))); (simp only [Act.put, List.setIfInBounds_toArray, List.set_cons_succ, List.set_cons_zero]))
        refine wpAnyC_step 4 (o := ⟨some 30, _, _, _, _, _⟩) rfl (by kernel_rfl) rfl ?_
        refine wpList_value (o := ⟨some 30, _, _, _, _, _⟩) (v := b8 y) rfl (exec_load8 (.tmp 29) rfl rfl HCY.out) ?_
        (simp only [Act.put, List.setIfInBounds_toArray, List.set_cons_succ, List.set_cons_zero])
        refine wpList_nil ⟨rfl, HC.out, ?_⟩
        (refine wpAnyC_free 8 (oi := ⟨some 34, _, _, _, _, _⟩) (v := ?_) rfl (by kernel_rfl) (by kernel_rfl) (by kernel_rfl) HC.out rfl (fun x => ?_) ?_; rotate_left; (focus (simp [go_sem, hqq]; (try go_ints); first | done | (with_reducible rfl))); (simp only [Act.put, List.setIfInBounds_toArray, List.set_cons_succ, List.set_cons_zero]))
        (refine wpAnyC_free 9 (oi := ⟨some 35, _, _, _, _, _⟩) (v := ?_) rfl (by kernel_rfl) (by kernel_rfl) (by kernel_rfl) HC.out rfl (fun x => ?_) ?_; rotate_left; (focus (simp [go_sem, hqq]; (try go_ints); first | done | (with_reducible rfl))); (simp only [Act.put, List.setIfInBounds_toArray, List.set_cons_succ, List.set_cons_zero]))
        clear hqq ho iq ir cfw
        change wpAnyC _ _ _ _ _ _ _ _ (World.drewN wr 1)
        refine wpAnyC_step 10 (o := ⟨none, _, _, _, _, _⟩) rfl (by kernel_rfl) rfl ?_
        refine wpList_store8 rfl (.tmp 35) (.tmp 34) rfl g0 d z (b8 y) rfl rfl HCY.out (HOk.out.frozen hdN) ?_
        have HO6 := Lib.hid (show OwnB ((World.drewN wr 1).setCell ⟨g0, d, none⟩ (b8 z)) g0 (some ⟨g0, 0, none⟩) N N (TabP.orBits F (ps.take (k + 1))) by rw [HT.out]; exact OwnB.set (HOk.out.drewN 1) hdN z)
        have hg6 := grown_setCells g0 [b8 z] d (World.drewN wr 1)
        have hw6 : (World.drewN wr 1).setCells g0 d [b8 z] = (World.drewN wr 1).setCell ⟨g0, d, none⟩ (b8 z) := rfl
        rw [hw6] at hg6
        have HG6 := Lib.hid (show wr.grownBy ((World.drewN wr 1).setCell ⟨g0, d, none⟩ (b8 z)) (some g0) from ⟨hg6.os, hg6.tape, hg6.output, hg6.size, hg6.block⟩)
        have HK6 := Lib.hid (show KeepsOthers W ((World.drewN wr 1).setCell ⟨g0, d, none⟩ (b8 z)) from (HKO.out.trans (KeepsOthers.drew wr)).trans (KeepsOthers.setCell _ _ _))
        have HS6 := Lib.hid (show KeepSet K W ((World.drewN wr 1).setCell ⟨g0, d, none⟩ (b8 z)) from HKS.out.trans (KeepSet.setCell (World.drewN wr 1) ⟨g0, d, none⟩ (b8 z) fun h => by have := HK.out _ h; simp at this))
        have HBx6 := Lib.hid (show Boxed ((World.drewN wr 1).setCell ⟨g0, d, none⟩ (b8 z)) bf 49 (.slice (some ⟨g0, 0, none⟩) N N) from (HG6.out.block bf (lt_of_blk HBx.out) (fun e => by injection e with e; omega)).trans HBx.out)
        have HP6 := Lib.hid (show OwnN ((World.drewN wr 1).setCell ⟨g0, d, none⟩ (b8 z)) W.heap.size (some ad) n5 c5 ps from Own.grown HP.out HG6.out (.inr fun e => by have := Own.lt HP.out g0 e; omega))
        have HB6 := Lib.hid (show Below g0 W ((World.drewN wr 1).setCell ⟨g0, d, none⟩ (b8 z)) from HGk.out.trans (below_grown HG6.out (by have := HGk.out.size; omega) (fun g e => by injection e with e; omega)))
        clear hw6 hg6
        generalize (World.drewN wr 1).setCell ⟨g0, d, none⟩ (b8 z) = w6 at HO6 HG6 HK6 HS6 HBx6 HP6 HB6 ⊢
        have HC6 := Lib.hid HBx6.out.cell
        (simp only [Act.put])
        refine wpList_nil ⟨rfl, HC6.out, ?_⟩
        refine wpAnyC_done (by kernel_rfl) (fun _ => ?_) _
        gi_wp2_with fail
        go_roundw
        case rel => exact ⟨k + 1, hlt, by go_num, HP6.out, HBx6.out, HO6.out, HB6.out, HK6.out, HS6.out⟩
        case measure => simp [intOf]; omega
      · obtain rfl : k = n5 := by omega
        have HT := Lib.hid (show ps.take k = ps from List.take_of_length_le (by omega))
        have i1 : ¬ (k : Int) < (k : Int) := by omega
        gi_wp2_with fail
        exact ⟨HKO.out, HKS.out, HBx.out, by rw [HADD.out]; have := HOk.out; rwa [HT.out] at this, HG.out.trans HGk.out⟩
  case done =>
    rintro D W hD hsz2 ⟨hBf, hO, hG⟩ hd'
    have c0 := hBf.cell
    have HM := Lib.hid ((Marks.nil w2.heap.size W).cons hD hd' (fun m h => by cases h))
    have HO := Lib.hid hO
    have HG := Lib.hid hG
    have hL := HL.out
    clear hBf hO hG hd'
    go_wp2_with fail
    refine postM_ret1 rfl HM.out hsz2 (fun W' ha => ⟨_, _, _, rfl, ?_, ?_⟩)
    · have h1 : TabP.filter (xs.map f) many = TabP.filterF (List.replicate N 0) (xs.map f) := by unfold TabP.filter; rw [← HN.out]
      rw [h1]
      have h2 : OwnB W' g0 (some ⟨g0, 0, none⟩) N N (TabP.filterF (List.replicate N 0) (xs.map f)) := ha.own HO.out
      exact Own.lower h2 (Nat.le_of_eq HG0.out.symm)
    · have := ha.kept HG.out (by omega)
      rwa [HG0.out] at this
  case stop => exact fun D c pre W hD hs hpre hIx hd' => hIx.elim
end Go.Proofs.Ytkkeodfoiffofaa
