/- The walk of rolodexlaw9.awake. -/
import Derived.Test.YtkkeodfoiffofaaMemB
import Derived.Deep.CutBlock
namespace Go.Proofs.Ytkkeodfoiffofaa
open Go.RowKit
set_option linter.unusedVariables false
open MemP
attribute [local go_sem] Oper.semAt_some
def xb1 : It := ⟨[98], 1, false, [120]⟩
def xa2 : It := ⟨[97], 2, false, [121]⟩
def xa5 : It := ⟨[97], 5, true, []⟩
theorem bool_ne : 4 ≠ 70 ∧ 4 ≠ 72 ∧ 4 ≠ 73 := by decide
theorem load_boxb {W : World} {b : Nat} {v : Value} (h : W.cell? ⟨b, 0, none⟩ = some v) : (loadVar 4 ⟨b, 0, none⟩).run Try.prog W = .ok v W := by
  simp [loadVar, isAgg, Sem.run_bind, run_underlying Try.underlying4 W, h]
theorem putR1 : putR [] xb1 = (0, [(xb1, 1)]) := by decide +kernel
theorem putR2 : putR [(xb1, 1)] xa2 = (0, [(xa2, 1), (xb1, 1)]) := by decide +kernel
theorem putR3 : putR [(xa2, 1), (xb1, 1)] xa5 = (0, [(xa5, 1), (xa2, 1), (xb1, 1)]) := by decide +kernel
theorem tailA : tailI [xa5, xa2, xb1] ⟨[], m64 - 1, false, []⟩ = [xa5, xa2, xb1] := by decide +kernel
theorem tailB : tailI [xa5, xa2, xb1] ⟨[98], m64 - 1, false, []⟩ = [xb1] := by decide +kernel
theorem getA : getI [xa5, xa2, xb1] [97] 4 = some xa2 := by decide +kernel
theorem seqL {w w' : World} {B : Nat} {hd : Nd} {l : List (It × Nat)} (h : MemL w B hd l) (hn : l.length ≤ 1000000) (key : List UInt8) : Calls Try.prog 27 #[.pointer (some ⟨hd.b, 0, none⟩), sv key] w (SeqPost w (tailI (l.map (·.1)) ⟨key, m64 - 1, false, []⟩)) := by
  obtain ⟨ns, hM, hl⟩ := h
  rw [← items_of hl, ← tailN_map]
  exact mem_From B hd ns key w hM (by rw [len_of hl]; exact hn)
theorem allL {w : World} {B : Nat} {hd : Nd} {l : List (It × Nat)} (h : MemL w B hd l) (hn : l.length ≤ 1000000) : Calls Try.prog 19 #[.pointer (some ⟨hd.b, 0, none⟩)] w (GivesI w (tailI (l.map (·.1)) ⟨[], m64 - 1, false, []⟩)) := by
  obtain ⟨ns, hM, hl⟩ := h
  rw [← items_of hl, ← tailN_map]
  exact mem_All B hd ns w hM (by rw [len_of hl]; exact hn)
theorem getL {w : World} {B : Nat} {hd : Nd} {l : List (It × Nat)} (h : MemL w B hd l) (key : List UInt8) (q : Nat) : Calls Try.prog 23 #[.pointer (some ⟨hd.b, 0, none⟩), sv key, .int .u64 (q : Int)] w fun e w' => e = .returned (getV (getI (l.map (·.1)) key q)) ∧ Grew w w' := by
  obtain ⟨ns, hM, hl⟩ := h
  rw [← items_of hl, ← memGet_items]
  exact mem_get B hd ns key q w hM
theorem lenL {w : World} {B : Nat} {hd : Nd} {l : List (It × Nat)} (h : MemL w B hd l) : Calls Try.prog 21 #[.pointer (some ⟨hd.b, 0, none⟩)] w fun e w' => e = .returned (.int .i64 (l.length : Int)) ∧ w = w' := by
  obtain ⟨ns, hM, hl⟩ := h
  rw [← len_of hl]
  exact mem_len B hd ns w hM
theorem bytesL {w : World} {B : Nat} {hd : Nd} {l : List (It × Nat)} (h : MemL w B hd l) : Calls Try.prog 22 #[.pointer (some ⟨hd.b, 0, none⟩)] w fun e w' => e = .returned (.int .i64 (costs (l.map (·.1)) : Int)) ∧ w = w' := by
  obtain ⟨ns, hM, hl⟩ := h
  rw [← items_of hl]
  exact mem_bytes B hd ns w hM
def htsL (l : List (It × Nat)) : List Value := l.map fun p => .int .i64 (p.2 : Int)
def HtsPostL (w : World) (l : List (It × Nat)) (e : Ending) (w' : World) : Prop := ∃ A c, e = .returned (.slice A l.length c) ∧ Own w' w.heap.size 3 1 A l.length c (htsL l) ∧ Grew w w'
theorem heightsL {w : World} {B : Nat} {hd : Nd} {l : List (It × Nat)} (h : MemL w B hd l) (hn : l.length ≤ 1000000) : Calls Try.prog 16 #[.pointer (some ⟨hd.b, 0, none⟩)] w (HtsPostL w l) := by
  obtain ⟨ns, hM, hl⟩ := h
  refine (mem_heights B hd ns w hM (by rw [len_of hl]; exact hn)).mono ?_
  rintro e w' ⟨A, c, h1, h2, h3⟩
  have e1 : htsV ns = htsL l := by rw [← hl]; simp [htsV, htsL]
  rw [e1, len_of hl] at h2
  rw [len_of hl] at h1
  exact ⟨A, c, h1, h2, h3⟩
set_option maxRecDepth 100000 in
set_option maxHeartbeats 1000000 in
theorem awake9 (w : World) : Calls Try.prog 13 #[] w fun e w' => e = .returned (.bool true) ∧ Below w.heap.size w w' := by
  have v1 : iv xb1 = .agg #[.string ⟨#[98]⟩, .int .u64 1, .bool false, .string ⟨#[120]⟩] := rfl
  have v2 : iv xa2 = .agg #[.string ⟨#[97]⟩, .int .u64 2, .bool false, .string ⟨#[121]⟩] := rfl
  have v3 : iv xa5 = .agg #[.string ⟨#[97]⟩, .int .u64 5, .bool true, .string ⟨#[]⟩] := rfl
  have HV1 := Lib.hid v1
  have HV2 := Lib.hid v2
  have HV3 := Lib.hid v3
  clear v1 v2 v3
  have hfn : ∀ (f : Nat) (A : Array Value) (W : World), (binOp .eql 45 (.func (.func f) #[] A) .nilFunc).run Try.prog W = .ok (.bool false) W := fun f A W => by kernel_rfl
  obtain ⟨b0, hb0⟩ : ∃ b, b = w.heap.size := ⟨_, rfl⟩
  obtain ⟨w1, hw1⟩ : ∃ w1, w1 = w.alloc (.cells #[.bool false] 4) := ⟨_, rfl⟩
  have HG1 := Lib.hid (show Grew w w1 by rw [hw1]; exact grew_new w _)
  have HB0 := Lib.hid (show Boxed w1 b0 4 (.bool false) by rw [hw1, hb0]; exact Boxed.new w _ _)
  have HW1 := Lib.hid hw1
  have HBB := Lib.hid hb0
  clear hw1 hb0
  refine calls_marks Try.func13 rfl ?_
  simp only [Try.ntmps13, List.size_toArray, List.length_nil, Nat.reduceSub, Array.replicate_succ, Array.replicate_zero, List.push_toArray, List.append_toArray, List.nil_append, List.cons_append]
  go_upto_region 1 with fail
  rw [← HW1.out, ← HBB.out]
  go_upto_region 2 with (go_at_call 14; refine (memL_new w1).mono ?_; rintro e w2 ⟨hd, rfl, hM, hG⟩; have HM2 := Lib.hid hM; have HG2 := Lib.hid (HG1.out.trans hG); have HB02 := Lib.hid (hBx2 HB0.out hG); clear hM hG)
  obtain ⟨B, hB⟩ : ∃ b, b = w1.heap.size := ⟨_, rfl⟩
  rw [← hB] at HM2
  have hBw2 : B ≤ w2.heap.size := by
    obtain ⟨ns, h1, _⟩ := HM2.out
    have := h1.lt hd.b ⟨hd, by simp, .inl rfl⟩
    omega
  have HBw := Lib.hid (show w.heap.size ≤ B by rw [hB]; exact HG1.out.size)
  clear hB
  go_upto_region 4 with (go_at_call 27; refine (seqL (w' := w2) HM2.out (by simp) []).mono ?_; rintro e w3 ⟨Bs, n, c, A, rfl, _, _, _, hG⟩; have HM3 := Lib.hid (HM2.out.grew hG); have HG3 := Lib.hid (HG2.out.trans hG); have HB03 := Lib.hid (hBx2 HB02.out hG); have hB3 := Nat.le_trans hBw2 hG.size; clear hG)
  have HP1 := Lib.hid (memL_put B hd [] xb1 w3 HM3.out hB3 (by simp) (by simp [costs]))
  rw [putR1, HV1.out] at HP1
  dsimp only at HP1
  go_upto_region 5 with (go_at_call 15; ((with_reducible refine HP1.out.mono ?_); rintro e w4 ⟨rfl, hM, hK⟩; have HM4 := Lib.hid hM; have HG4 := Lib.hid (show Grew w w4 from Below.trans HG3.out (hK.below.mono HBw.out)); have HB04 := Lib.hid (hK.boxed HB03.out bool_ne); have hB4 := Nat.le_trans hB3 hK.below.size; clear hM hK))
  have HP2 := Lib.hid (memL_put B hd [(xb1, 1)] xa2 w4 HM4.out hB4 (by simp) (by simp [costs, cost, xb1]))
  rw [putR2, HV2.out] at HP2
  dsimp only at HP2
  go_upto_region 6 with (go_at_call 15; ((with_reducible refine HP2.out.mono ?_); rintro e w5 ⟨rfl, hM, hK⟩; have HM5 := Lib.hid hM; have HG5 := Lib.hid (show Grew w w5 from Below.trans HG4.out (hK.below.mono HBw.out)); have HB05 := Lib.hid (hK.boxed HB04.out bool_ne); have hB5 := Nat.le_trans hB4 hK.below.size; clear hM hK))
  have HP3 := Lib.hid (memL_put B hd [(xa2, 1), (xb1, 1)] xa5 w5 HM5.out hB5 (by simp) (by simp [costs, cost, xb1, xa2]))
  rw [putR3, HV3.out] at HP3
  dsimp only at HP3
  go_upto_region 7 with (go_at_call 15; ((with_reducible refine HP3.out.mono ?_); rintro e w6 ⟨rfl, hM, hK⟩; have HM6 := Lib.hid hM; have HG6 := Lib.hid (show Grew w w6 from Below.trans HG5.out (hK.below.mono HBw.out)); have HB06 := Lib.hid (hK.boxed HB05.out bool_ne); clear hM hK))
  clear HP1 HP2 HP3 HM2 HM3 HM4 HM5 HG2 HG3 HG4 HG5 HB0 HB02 HB03 HB04 HB05 hB3 hB4 hB5 hBw2
  have hL6 : ([(xa5, 1), (xa2, 1), (xb1, 1)] : List (It × Nat)).length ≤ 1000000 := by simp
  have HA := Lib.hid (allL HM6.out hL6)
  have HAx : Hid (Calls Try.prog 19 #[.pointer (some ⟨hd.b, 0, none⟩)] w6 (GivesI w6 [xa5, xa2, xb1])) := Lib.hid (by have := HA.out; rwa [show ([(xa5, 1), (xa2, 1), (xb1, 1)] : List (It × Nat)).map (·.1) = [xa5, xa2, xb1] from rfl, tailA] at this)
  clear HA
  go_upto_region 8 with (go_at_call 19; ((with_reducible refine HAx.out.mono ?_); rintro e w7 ⟨A1, n1, c1, rfl, hO, hG⟩; have HO := Lib.hid hO; have HM7 := Lib.hid (HM6.out.grew hG); have HG7 := Lib.hid (HG6.out.trans hG); have HB07 := Lib.hid (hBx2 HB06.out hG); clear hO hG))
  clear HM6 HG6 HB06 HAx
  have HGe : Hid (Calls Try.prog 23 #[.pointer (some ⟨hd.b, 0, none⟩), .string ⟨#[97]⟩, .int .u64 4] w7 fun e w' => e = .returned (.tuple #[iv xa2, .bool true]) ∧ Grew w7 w') := Lib.hid (by have := getL HM7.out [97] 4; rwa [show ([(xa5, 1), (xa2, 1), (xb1, 1)] : List (It × Nat)).map (·.1) = [xa5, xa2, xb1] from rfl, getA] at this)
  rw [HV2.out] at HGe
  go_upto_region 9 with (go_at_call 23; ((with_reducible refine HGe.out.mono ?_); rintro e w8 ⟨rfl, hG⟩; have HM8 := Lib.hid (HM7.out.grew hG); have HG8 := Lib.hid (HG7.out.trans hG); have HB08 := Lib.hid (hBx2 HB07.out hG); have HO8 := Lib.hid (HO.out.below_all hG); clear hG))
  clear HM7 HG7 HB07 HGe HO
  obtain ⟨w9, hw9⟩ : ∃ W, W = w8.alloc (.cells #[.string ⟨#[97]⟩, .int .u64 2, .bool false, .string ⟨#[121]⟩] 29) := ⟨_, rfl⟩
  have HX9 := Lib.hid (show IBox w9 w8.heap.size xa2 by rw [hw9]; exact IBox.new w8 xa2)
  have hG9 : Grew w8 w9 := by rw [hw9]; exact grew_new w8 _
  have HM9 := Lib.hid (HM8.out.grew hG9)
  have HG9 := Lib.hid (HG8.out.trans hG9)
  have HB09 := Lib.hid (hBx2 HB08.out hG9)
  have HO9 := Lib.hid (HO8.out.below_all hG9)
  have HHt := Lib.hid (heightsL HM9.out hL6)
  obtain ⟨xb, hxb⟩ : ∃ b, b = w8.heap.size := ⟨_, rfl⟩
  rw [← hxb] at HX9
  rw [← hw9, ← hxb]
  clear HM8 HG8 HB08 HO8 hG9 hw9 hxb
  go_upto_region 10 with (go_at_call 16; ((with_reducible refine HHt.out.mono ?_); rintro e w10 ⟨A2, c2, rfl, hO, hG⟩; have HH := Lib.hid hO; have HM10 := Lib.hid (HM9.out.grew hG); have HG10 := Lib.hid (HG9.out.trans hG); have HB010 := Lib.hid (hBx2 HB09.out hG); have HO10 := Lib.hid (HO9.out.below_all hG); have HX10 := Lib.hid (HX9.out.grew hG); clear hO hG))
  clear HM9 HG9 HB09 HO9 HX9 HHt
  obtain ⟨w11, hw11⟩ : ∃ W, W = w10.alloc (.cells #[.int .i64 0] 3) := ⟨_, rfl⟩
  have hG11 : Grew w10 w11 := by rw [hw11]; exact grew_new w10 _
  have HN11 := Lib.hid (show Boxed w11 w10.heap.size 3 (.int .i64 0) by rw [hw11]; exact Boxed.new w10 _ _)
  have HM11 := Lib.hid (HM10.out.grew hG11)
  have HG11 := Lib.hid (HG10.out.trans hG11)
  have HB011 := Lib.hid (hBx2 HB010.out hG11)
  have HO11 := Lib.hid (HO10.out.below_all hG11)
  have HX11 := Lib.hid (HX10.out.grew hG11)
  have HH11 := Lib.hid (HH.out.below_all hG11)
  have HF := Lib.hid (seqL (w' := w11) HM11.out hL6 [98])
  obtain ⟨bn, hbn⟩ : ∃ b, b = w10.heap.size := ⟨_, rfl⟩
  rw [← hbn] at HN11
  go_upto_region 11 with fail
  rw [← hw11, ← hbn]
  have HFx : Hid (Calls Try.prog 27 #[.pointer (some ⟨hd.b, 0, none⟩), .string ⟨#[98]⟩] w11 (SeqPost w11 [xb1])) := Lib.hid (by have := HF.out; rwa [show ([(xa5, 1), (xa2, 1), (xb1, 1)] : List (It × Nat)).map (·.1) = [xa5, xa2, xb1] from rfl, tailB] at this)
  clear HF
  have hbnlt := HN11.out.lt
  have hgw11 : bn < w11.heap.size := hbnlt
  have hb0lt : b0 < bn := by rw [hbn]; exact HB010.out.lt
  have HBN := Lib.hid hbn
  clear hw11 hbn
  go_upto_block 0 with (go_at_call 27; ((with_reducible refine HFx.out.mono ?_); rintro e w12 ⟨Bs, n, c, A, rfl, hBs, hO, hle, hG⟩))
  have HGV := Lib.hid (from1_gives Bs n c A [xb1] w12 hBs (hO.is (Nat.le_refl _)))
  have HGw := Lib.hid (show Grew w10 w12 from hG11.trans hG)
  have HBn := Lib.hid (hBx2 HN11.out hG)
  have HKD : Hid (∀ g, keepsfrom1 Bs A [xb1] g → g < w12.heap.size ∧ bn < g) := Lib.hid fun g hg => ⟨HGV.out.1 g hg, by
    rcases hg with hg | ⟨_, hg⟩
    · omega
    · have := (hO.lt g hg).1
      omega⟩
  clear hBs hO hle hG HFx HN11 hG11 HM11 HG11 HB011 HO11 HX11 HH11
  have hbw : bn < w12.heap.size := HBn.out.lt
  have hb0w : b0 < w12.heap.size := by omega
  go_wp2_with fail
  refine wp_rangeIz 39 10 (gf := 48) (lb := #[.pointer (some ⟨Bs, 0, none⟩)]) (xs := [xb1]) rfl (enters_of Try.func48 (by kernel_rfl) rfl) HGV.out.1 HGV.out.2
    (fun pre W => (∀ x ∈ pre, x.key = [98]) ∧ Boxed W bn 3 (.int .i64 (pre.length : Int)) ∧ Boxed W b0 4 (.bool false) ∧ Below bn w10 W) (fun _ pre _ => ¬ ∀ x ∈ pre, x.key = [98])
    (fun s W W' h _ ha => ⟨h.1, ha.boxed h.2.1, ha.boxed h.2.2.1, ha.kept h.2.2.2 (by omega)⟩) (fun _ _ _ _ h _ _ => h) ⟨by simp, HBn.out, hBx2 HB010.out HGw.out, by rw [HBN.out]; exact HGw.out⟩ ?assign ?body ?done ?stop
  case assign =>
    intro l x W K' hK
    gi_wp2
    exact hK
  case body =>
    rintro l pre x b W ⟨hk, hBn, hB0, hG⟩ hsz hIb hb hlen
    obtain ⟨q0, q1, q2, q3⟩ := range_cells hIb.range
    have cn := hBn.cell
    have c0 := hB0.cell
    have hp1 : pre.length < 1 := by simpa using hlen
    have HK := Lib.hid hk
    have HBn1 := Lib.hid hBn
    have HB01 := Lib.hid hB0
    have HGr := Lib.hid hG
    clear hIb hk hBn hB0 hG
    simp only [actI, List.setIfInBounds_toArray, List.set_cons_zero, List.set_cons_succ]
    have fn := HBn1.out.frozen
    have f0 := HB01.out.frozen
    by_cases hx : x.key = [98]
    · have hkb : (x.key == [98]) = true := by simpa using hx
      have HX := Lib.hid hx
      clear hx
      gi_wp2
      exact ⟨KeepsOthers.setCell _ _ _, KeepSet.setCell _ _ _ fun hk => by have := (HKD.out _ hk).2; exact Nat.lt_irrefl _ this, fun y hy => by
        rcases List.mem_append.1 hy with hy | hy
        · exact HK.out y hy
        · simp at hy; rw [hy]; exact HX.out, by simpa using HBn1.out.set (.int .i64 ((pre.length : Int) + 1)), (Below.heap_setCell _ _ _ _ (by simp; omega)).trans HB01.out, HGr.out.setCell (Nat.le_refl _) _⟩
    · have hkb : (x.key == [98]) = false := by simpa using hx
      have HX := Lib.hid hx
      clear hx
      gi_wp2
      exact ⟨KeepsOthers.setCell _ _ _, fun h => HX.out (h x (by simp))⟩
  case done =>
    rintro D W hD hsz ⟨hk, hBn, hB0, hG⟩ hd'
    have cn : W.cell? ⟨bn, 0, none⟩ = some (.int .i64 1) := hBn.cell
    have c0 := hB0.cell
    have f0 := hB0.frozen
    have hG10 : Grew w10 W := by unfold Grew; rw [← HBN.out]; exact hG
    have HMk := Lib.hid ((Marks.nil w12.heap.size W).cons hD hd' (fun m h => by cases h))
    obtain ⟨_, _, _, qx⟩ := range_cells (HX10.out.grew hG10).range
    have hl : n1 = 3 := by have := HO10.out.len; simp at this; omega
    obtain ⟨gA, oA, rfl, _, hrA⟩ := ((HO10.out.below_all hG10).is (Nat.le_refl _)).at (i := 0) (x := xa5) rfl
    obtain ⟨_, qa, _, _⟩ := range_cells hrA
    obtain ⟨aH, rfl, _, qh⟩ := (HH.out.below_all hG10).row (Nat.le_refl _) 0 (.int .i64 1) rfl
    have hsH := spot_none qh
    obtain ⟨gH, oH, sH⟩ := aH
    have hsH : sH = none := by
      cases sH with
      | none => rfl
      | some _ => simp [Addr.add] at hsH
    subst hsH
    have qh2 : W.cell? ⟨gH, oH, none⟩ = some (.int .i64 1) := by rw [add_off] at qh; exact qh
    clear qh
    have HMW := HM10.out.grew hG10
    have HBy : Hid (Calls Try.prog 22 #[.pointer (some ⟨hd.b, 0, none⟩)] W fun e w' => e = .returned (.int .i64 53) ∧ W = w') := Lib.hid (bytesL HMW)
    have HLn : Hid (Calls Try.prog 21 #[.pointer (some ⟨hd.b, 0, none⟩)] W fun e w' => e = .returned (.int .i64 3) ∧ W = w') := Lib.hid (lenL HMW)
    have HB0W := Lib.hid hB0
    have HGW := Lib.hid (HG10.out.trans hG10)
    simp only [Nat.zero_mul, Nat.add_zero] at qa
    have qx2 : W.cell? ⟨xb, 3, none⟩ = some (.string ⟨#[121]⟩) := qx
    have qa2 : W.cell? ⟨gA, oA + 1, none⟩ = some (.int .u64 5) := qa
    clear qx qa
    subst hl
    clear hk hBn hB0 hG hd' hrA HMW hG10
    go_wp2_with (first | (go_at_call 22; ((with_reducible refine HBy.out.mono ?_); rintro e w' ⟨rfl, rfl⟩)) | (go_at_call 21; ((with_reducible refine HLn.out.mono ?_); rintro e w' ⟨rfl, rfl⟩)))
    have HB1 := Lib.hid (HB0W.out.set (.bool true))
    have HG1' := Lib.hid (Below.setCell (p := ⟨b0, 0, none⟩) (show Below w.heap.size w W from HGW.out) (Nat.le_of_eq HBB.out.symm) (.bool true))

    refine postM_retC (v := .bool true) (D := w12.heap.size) (W := W.setCell ⟨b0, 0, none⟩ (.bool true)) (Marks.apart (E := 0) HMk.out (KeepsOthers.setCell _ _ _)) (by simpa using hsz) fun W' ha => ?_
    have hc := load_boxb (ha.boxed HB1.out).cell
    exact ⟨by simp [results, Try.results13, asAddr, hc], rfl, ha.kept HG1'.out (by have := HBB.out; omega)⟩
  case stop =>
    rintro D c pre W _ _ hp h _
    exact absurd (fun x hx => by have := hp.subset hx; simp at this; rw [this]; rfl) h
end Go.Proofs.Ytkkeodfoiffofaa
