/- The walk of rolodexlaw9.MemTable. -/
import Derived.Test.YtkkeodfoiffofaaMemTab
import Derived.Test.YtkkeodfoiffofaaMemKnownWalk
import Derived.Test.YtkkeodfoiffofaaTabE
import Derived.Test.YtkkeodfoiffofaaRefFrom
import Derived.Test.YtkkeodfoiffofaaRangeB
import Derived.Test.YtkkeodfoiffofaaItemEq
import Derived.Test.YtkkeodfoiffofaaOpenI
namespace Go.Proofs.Ytkkeodfoiffofaa
open Go.RowKit
set_option linter.unusedVariables false
open MemP
attribute [local go_sem] Oper.semAt_some
theorem exec_eqI {o : Oper} {a : Act} {w : World} {x : It} {rt : TypeId} (X Y : Operand) (ho : o.op = .binOp .eql 29 X Y rt) (hx : a.eval X = iv x) (hy : a.eval Y = iv x) : (execOp a.eval o).run Try.prog w = .ok (.value (.bool true)) w := by
  unfold execOp
  have hg : (eqGuard .eql 29 X Y (iv x) (iv x)).run Try.prog w = .ok () w := run_eqGuard_agg (w := w) _ _ _ _ _ _ Try.eqGuardType29
  have he : (binOp .eql 29 (iv x) (iv x)).run Try.prog w = .ok (.bool true) w := by rw [eql_item, decide_eq_true rfl]
  simp only [ho, hx, hy, Sem.run_bind, hg, he, Result.andThen_ok, Sem.run_pure]
set_option maxRecDepth 100000 in
set_option maxHeartbeats 4000000 in
theorem memTable_walk (A0 : Option Addr) (n0 c0 : Nat) (l0 : List It) (a1 : Int) (s2 : ByteArray) (a3 : Int) (w : World) (b0 : ItemsIn w A0 n0 c0 l0) (z0 : n0 * 48 ≤ 140737488351232) (w1 : (Lit.int .i64 a1).wf = true) (z2 : s2.data.toList.length ≤ 140737488351232) (w3 : (Lit.int .u64 a3).wf = true) :
    Calls Try.prog 12 #[.slice A0 n0 c0, .int .i64 a1, .string s2, .int .u64 a3] w fun e w' => e = .returned (.bool true) ∧ Below w.heap.size w w' := by
  have HAw := Lib.hid (awake9 w)
  have HI0 := Lib.hid b0.is
  have HQ0 := Lib.hid b0.seq
  have hl := b0.is.len
  have HW1 := Lib.hid w1
  obtain ⟨key, hkey⟩ : ∃ key : List UInt8, Value.string s2 = sv key := ⟨s2.data.toList, by simp [sv]⟩
  obtain ⟨q, hq⟩ : ∃ q : Nat, a3 = (q : Int) := ⟨a3.toNat, by have := wf_u64 w3; omega⟩
  subst hq
  rw [hkey]
  clear b0 w1 w3 z0 z2 hkey
  refine calls_marks Try.func12 rfl ?_
  simp only [Try.ntmps12, List.size_toArray, List.length_cons, List.length_nil, Nat.reduceAdd, Nat.reduceSub, Array.replicate_succ, Array.replicate_zero, List.push_toArray, List.append_toArray, List.nil_append, List.cons_append]
  go_upto_region 3 with (go_at_call 13; ((with_reducible refine HAw.out.mono ?_); rintro e w1 ⟨rfl, hG⟩; have HG1 := Lib.hid (show Grew w w1 from hG); clear hG))
  by_cases h0 : 100 < n0
  · have i0 : (100 : Int) < (n0 : Int) := by omega
    go_wp2_with fail
    exact postM_ret01 rfl rfl ⟨rfl, HG1.out⟩
  have i0 : ¬ (100 : Int) < (n0 : Int) := by omega
  by_cases h1 : a1 < 1
  · go_wp2_with fail
    exact postM_ret01 rfl rfl ⟨rfl, HG1.out⟩
  by_cases h2 : 1000 < a1
  · go_wp2_with fail
    exact postM_ret01 rfl rfl ⟨rfl, HG1.out⟩
  have HNa := Lib.hid (memL_new w1)
  go_upto_region 6 with (go_at_call 14; ((with_reducible refine HNa.out.mono ?_); rintro e w2 ⟨hd, rfl, hM, hG⟩; have HM2 := Lib.hid hM; have HG12 := Lib.hid hG; clear hM hG))
  obtain ⟨B, hB⟩ : ∃ b, b = w1.heap.size := ⟨_, rfl⟩
  rw [← hB] at HM2
  have HB := Lib.hid hB
  have HB2 := Lib.hid (show Below B w1 w2 ∧ B ≤ w2.heap.size by rw [HB.out]; exact ⟨HG12.out, HG12.out.size⟩)
  clear hB HNa HAw
  go_upto_block 0 with fail
  go_cut [] from 34 (fun wy => ∃ la, MemL wy B hd la ∧ la.length ≤ 100 ∧ FineL la ∧ Below B w1 wy)
  case first =>
    go_wp2_with fail
    go_loopw [10] (fun i wy => ∃ (k : Nat) (la : List (It × Nat)), k ≤ n0 ∧ i = .int .i64 (k : Int) ∧ MemL wy B hd la ∧ la.length ≤ k ∧ FineL la ∧ Below B w1 wy ∧ B ≤ wy.heap.size) (fun i _ => n0 - (intOf i).toNat)
    case atStart => exact ⟨0, [], Nat.zero_le _, rfl, HM2.out, Nat.zero_le _, (fun x h => by cases h), HB2.out⟩
    case round =>
      obtain ⟨k, la, hk, rfl, hM, hlk, hF, hBb, hBs⟩ := hrel
      have HM := Lib.hid hM
      have HF := Lib.hid hF
      have HBb := Lib.hid hBb
      have HBs := Lib.hid hBs
      have HLk := Lib.hid hlk
      clear hM hlk hF hBb hBs
      have i3 : (0 : Int) ≤ (k : Int) := by omega
      by_cases hlt : k < n0
      · obtain ⟨x, hx⟩ : ∃ y, l0[k]? = some y := ⟨_, List.getElem?_eq_getElem (by omega)⟩
        have HXQ := Lib.hid (HQ0.out x (List.mem_of_getElem? hx))
        obtain ⟨g1, o1, rfl, hb1, hr1⟩ := HI0.out.at hx
        obtain ⟨q0, q1, q2, q3⟩ := range_cells (range_below hr1 ((show Below w.heap.size w w1 from HG1.out).trans (HBb.out.mono (by rw [HB.out]; exact HG1.out.size))) hb1)
        have HP := putL (v := .agg #[.string ⟨x.key.toArray⟩, .int .u64 (x.seq : Int), .bool x.gone, .string ⟨x.val.toArray⟩]) HM.out HBs.out (by have := HLk.out; omega) (by
          have h1 := costs_le (l := la.map (·.1)) fun x hx => (HF.out x hx).1
          have h2 := HLk.out
          rw [List.length_map] at h1
          omega) (show putR la x = ((putR la x).1, (putR la x).2) from rfl) rfl
        have i5 : (k : Int) < (n0 : Int) := by omega
        clear hr1 hx hb1
        go_wp2_with (go_at_call 15; ((with_reducible refine HP.out.mono ?_); rintro e w4 ⟨rfl, hM, hK⟩; have HM4 := Lib.hid hM; have HK4 := Lib.hid hK; clear hM hK))
        go_roundw
        case rel => exact ⟨k + 1, _, hlt, by go_num, HM4.out, Nat.le_trans (fine_put HF.out HXQ.out).2 (Nat.succ_le_succ HLk.out), (fine_put HF.out HXQ.out).1, HBb.out.trans HK4.out.below, Nat.le_trans HBs.out HK4.out.below.size⟩
        case measure => simp [intOf]; omega
      · have i5 : ¬ (k : Int) < (n0 : Int) := by omega
        go_wp2_with fail
        go_meet
        case rel => exact ⟨la, HM.out, by have := HLk.out; omega, HF.out, HBb.out⟩
  case rest =>
  obtain ⟨la, hM, hln, hF, hBb⟩ := hcut
  obtain ⟨ls, hls⟩ : ∃ ls, ls = la.map (·.1) := ⟨_, rfl⟩
  have hS : ItP.Srt ls := by rw [hls]; exact hM.srt
  have hQ : ∀ x ∈ ls, x.seq < m64 := fun x hx => (hF x (by rw [← hls]; exact hx)).2
  have hlen : la.length = ls.length := by rw [hls, List.length_map]
  have HM := Lib.hid hM
  have HS := Lib.hid hS
  have HQ := Lib.hid hQ
  have HLn := Lib.hid (show ls.length ≤ 100 by omega)
  have HGw := Lib.hid (show Grew w wc from (show Below w.heap.size w w1 from HG1.out).trans (hBb.mono (by rw [HB.out]; exact HG1.out.size)))
  have HE : Hid (TabP.buildE ls a1 = 0) := Lib.hid (by rw [hls]; exact fine_E hF hM.srt (by omega) (by omega) (by omega))
  have HAl := Lib.hid (fun W (hG : Grew wc W) => show Calls Try.prog 19 #[.pointer (some ⟨hd.b, 0, none⟩)] W (GivesI W ls) from by
    have := allL (HM.out.grew hG) (by have := HLn.out; omega)
    rw [← hls, all_eq HQ.out] at this
    exact this)
  have HBd := Lib.hid (fun (A : Option Addr) (n c : Nat) (W : World) (h : Is W W.heap.size A n c ls) => build_is h HQ.out HW1.out HE.out)
  have HLm := Lib.hid (fun W (hG : Grew wc W) => show Calls Try.prog 21 #[.pointer (some ⟨hd.b, 0, none⟩)] W fun e w' => e = .returned (.int .i64 (ls.length : Int)) ∧ W = w' from by
    have := lenL (HM.out.grew hG)
    rw [hlen] at this
    exact this)
  obtain ⟨x0, ok, hx0⟩ : ∃ (x0 : It) (ok : Bool), getV (ItP.get ls key q) = .tuple #[iv x0, .bool ok] := ⟨_, _, rfl⟩
  have HGm : Hid (∀ W, Grew wc W → Calls Try.prog 23 #[.pointer (some ⟨hd.b, 0, none⟩), sv key, .int .u64 (q : Int)] W fun e w' => e = .returned (.tuple #[.agg #[.string ⟨x0.key.toArray⟩, .int .u64 (x0.seq : Int), .bool x0.gone, .string ⟨x0.val.toArray⟩], .bool ok]) ∧ Grew W w') := Lib.hid fun W hG => by
    have := getL (HM.out.grew hG) key q
    rw [← hls, get_eq HS.out, hx0] at this
    exact this
  have HX0 := Lib.hid hx0
  clear hM hF hBb hlen hS hQ hx0 hls HM2 HB2 HG12
  go_upto_region 11 with (first
    | (go_at_call 19; ((with_reducible refine (HAl.out _ (Grew.refl _)).mono ?_); rintro e w3 ⟨A3, n3, c3, rfl, hO, hG⟩; have HO3 := Lib.hid hO; have HG3 := Lib.hid (show Grew wc w3 from hG); clear hO hG))
    | (go_at_call 29; ((with_reducible refine (HBd.out _ _ _ _ (HO3.out.is (Nat.le_refl _))).mono ?_); rintro e w4 ⟨Ab, nb, cb, rfl, hO, hG⟩; have HO4 := Lib.hid hO; have HG4 := Lib.hid (Grew.trans HG3.out hG); clear hO hG)))
  have HOp := Lib.hid (open_buildB HE.out HQ.out HO4.out)
  go_upto_region 14 with (go_at_call 31; ((with_reducible refine HOp.out.mono ?_); rintro e w5 ⟨T1, A5, n5, c5, F5, nf5, cf5, rfl, hT, hT1, hT2, hG⟩; have HT1 := Lib.hid hT; have HG5 := Lib.hid (Grew.trans HG4.out hG); clear hT hT1 hT2 hG))
  have HGt : Hid (∀ W, Grew w5 W → Calls Try.prog 37 #[.pointer (some ⟨T1, 0, none⟩), sv key, .int .u64 (q : Int)] W fun e w' => e = .returned (.tuple #[.agg #[.string ⟨x0.key.toArray⟩, .int .u64 (x0.seq : Int), .bool x0.gone, .string ⟨x0.val.toArray⟩], .bool ok]) ∧ Grew W w') := Lib.hid fun W hG => by
    have := tab_get key q W (HT1.out.grew hG) HS.out
    rw [HX0.out] at this
    exact this
  clear HBd HOp HX0
  go_upto_region 17 with (go_at_call 23; ((with_reducible refine (HGm.out _ HG5.out).mono ?_); rintro e w6 ⟨rfl, hG⟩; have HG6 := Lib.hid (show Grew w5 w6 from hG); clear hG))
  obtain ⟨w7, hw7⟩ : ∃ W, W = w6.alloc (.cells #[.string ⟨x0.key.toArray⟩, .int .u64 (x0.seq : Int), .bool x0.gone, .string ⟨x0.val.toArray⟩] 29) := ⟨_, rfl⟩
  obtain ⟨x7, hx7⟩ : ∃ b, b = w6.heap.size := ⟨_, rfl⟩
  have HX7 := Lib.hid (show IBox w7 x7 x0 by rw [hw7, hx7]; exact heap_alloc_new w6 _)
  have HG7 := Lib.hid (show Grew w5 w7 by rw [hw7]; exact Grew.trans HG6.out (grew_new w6 _))
  rw [← hw7, ← hx7]
  clear hw7 hx7
  go_upto_region 18 with (go_at_call 37; ((with_reducible refine (HGt.out _ HG7.out).mono ?_); rintro e w8 ⟨rfl, hG⟩; have HG8 := Lib.hid (Grew.trans HG7.out hG); have HX7 := Lib.hid (HX7.out.grew hG); clear hG))
  obtain ⟨w9, hw9⟩ : ∃ W, W = w8.alloc (.cells #[.string ⟨x0.key.toArray⟩, .int .u64 (x0.seq : Int), .bool x0.gone, .string ⟨x0.val.toArray⟩] 29) := ⟨_, rfl⟩
  obtain ⟨x9, hx9⟩ : ∃ b, b = w8.heap.size := ⟨_, rfl⟩
  have HX9 := Lib.hid (show IBox w9 x9 x0 by rw [hw9, hx9]; exact heap_alloc_new w8 _)
  have HG9 := Lib.hid (show Grew w5 w9 by rw [hw9]; exact Grew.trans HG8.out (grew_new w8 _))
  have HX7 := Lib.hid (show IBox w9 x7 x0 by rw [hw9]; exact HX7.out.alloc _)
  rw [← hw9, ← hx9]
  clear hw9 hx9
  obtain ⟨wb, hwb⟩ : ∃ W, W = w9.alloc (.cells #[.slice none 0 0] 32) := ⟨_, rfl⟩
  obtain ⟨bx, hbx⟩ : ∃ b, b = w9.heap.size := ⟨_, rfl⟩
  have HBX := Lib.hid (show Boxed wb bx 32 (.slice none 0 0) by rw [hwb, hbx]; exact Boxed.new w9 _ _)
  have HG9b := Lib.hid (show Grew w9 wb by rw [hwb]; exact grew_new w9 _)
  have HXY := Lib.hid (show bx = w9.heap.size ∧ x7 < bx ∧ x9 < bx from ⟨hbx, by rw [hbx]; exact HX7.out.lt, by rw [hbx]; exact HX9.out.lt⟩)
  have HWb := Lib.hid (And.intro hwb hbx)
  clear hwb hbx
  go_upto_region 19 with fail
  rw [← HWb.out.1, ← HWb.out.2]
  clear HWb
  obtain ⟨lr, hlr⟩ : ∃ lr, lr = ls.drop (TabP.frm key ls) := ⟨_, rfl⟩
  have HLs := Lib.hid (show lr.length ≤ 100 by have := HLn.out; rw [hlr, List.length_drop]; omega)
  have HLR := Lib.hid (show lr = ItP.from_ ls key by rw [hlr]; exact from_eq HS.out HQ.out)
  have HGb := Lib.hid (Grew.trans HG9.out HG9b.out)
  have HFr := Lib.hid (fun W (hG : Grew w5 W) => show Calls Try.prog 40 #[.pointer (some ⟨T1, 0, none⟩), sv key] W fun e w' => ∃ B A' n' c', e = .returned (.func (.func 71) #[] #[.pointer (some ⟨B, 0, none⟩)]) ∧ Boxed w' B 32 (.slice A' n' c') ∧ Is w' w'.heap.size A' n' c' lr ∧ Grew W w' from by
    have := tab_from key W (HT1.out.grew hG) HS.out
    rw [← hlr] at this
    exact this)
  clear hlr
  go_wp2_with (go_at_call 40; ((with_reducible refine (HFr.out _ HGb.out).mono ?_); rintro e w12 ⟨B1, A6, n6, c6, rfl, hB, hI, hG⟩; have HBv := Lib.hid hB; have HIv := Lib.hid hI; have HGb12 := Lib.hid hG; clear hB hI hG))
  have HGV1 := Lib.hid (values1_gives B1 n6 c6 A6 lr w12 HBv.out.cell HIv.out)
  have HBX12 := Lib.hid (hBx2 HBX.out HGb12.out)
  have HG12b := Lib.hid (Grew.trans HG9b.out HGb12.out)
  have HX712 := Lib.hid (HX7.out.grew HG12b.out)
  have HX912 := Lib.hid (HX9.out.grew HG12b.out)
  have HKD1a : Hid (lr ≠ [] → ∀ g, keepsvalues1 B1 A6 lr g → g < w12.heap.size ∧ g ≠ bx) := Lib.hid fun hne g hg => ⟨HGV1.out.1 g hg, keeps_box HBX12.out HBv.out HIv.out hne g hg⟩
  have HXY12 := Lib.hid (show bx < w12.heap.size ∧ w5.heap.size ≤ bx from ⟨HBX12.out.lt, by rw [HXY.out.1]; exact HG9.out.size⟩)
  have HG512 := Lib.hid (Grew.trans HGb.out HGb12.out)
  have HMb := Lib.hid (HM.out.grew (Grew.trans HG5.out HG512.out))
  clear HFr HGt HGm HBX HX7 HX9
  refine wp_rangeIz 79 19 (gf := 71) (lb := #[.pointer (some ⟨B1, 0, none⟩)]) (K := keepsvalues1 B1 A6 lr) (xs := lr) rfl (enters_of Try.func71 (by kernel_rfl) rfl) HGV1.out.1 HGV1.out.2
    (fun pre W => (∃ A n c, Col bx w12 A n c pre W) ∧ MemL W B hd la) (fun _ _ _ => False)
    (fun s W W' ⟨⟨A, n, c, h⟩, hm⟩ _ ha => ⟨⟨A, n, c, h.apart ha HXY12.out.1⟩, hm.apart ha⟩) (fun _ _ _ _ h _ _ => h) ⟨⟨none, 0, 0, Col.nil HBX12.out⟩, HMb.out⟩ ?assign ?body ?done ?stop
  case assign =>
    intro l x W K' hK
    gi_wp2
    exact hK
  case body =>
    rintro l pre x b W ⟨⟨A, n, c, hC⟩, hm⟩ hsz hIb hb hlen
    have cx := hC.box.cell
    obtain ⟨q0, q1, q2, q3⟩ := range_cells hIb.range
    have hn := hC.own.len
    have hxl := HLs.out
    have hKD := HKD1a.out (by intro e; rw [e] at hlen; simp at hlen)
    have HC := Lib.hid hC
    have HKD1 := Lib.hid hKD
    have Hm := Lib.hid hm
    clear hC hIb hKD hm
    simp only [actI, List.setIfInBounds_toArray, List.set_cons_zero, List.set_cons_succ]
    gi_wp2_with (gi_at_builtin; refine wpListIn_appI rfl (.tmp 80) (.tmp 82) rfl w12.heap.size A n c pre rfl (HC.out.own.alloc _) (some ⟨W.heap.size, 0, none⟩) 1 1 (W.heap.size + 1) [x] rfl rfl (IRow.one W x _ _) (by omega) (by simp; omega) ?_; intro A3 c3 w3 hO3 hg3 hB3; have HCo := Lib.hid (HC.out.round hsz HXY12.out.1 hO3 hg3 HKD1.out); have HMo := Lib.hid (HC.out.mem HXY12.out.1 Hm.out hg3 (.slice A3 (n + 1) c3)); have r1 := HCo.out.1; have r2 := HCo.out.2.1; clear hO3 hg3 hB3)
    exact ⟨HCo.out.2.2.1, HCo.out.2.2.2.1, ⟨A3, _, c3, HCo.out.2.2.2.2⟩, HMo.out⟩
  case stop =>
    rintro D c pre W _ _ _ h _
    exact h.elim
  rintro D1 W1 hD hsz ⟨⟨Am, nm, cm, hC⟩, hm⟩ hd'
  have HMk := Lib.hid ((Marks.nil w12.heap.size W1).cons hD hd' (fun m h => by cases h))
  have HG5W := Lib.hid (show Grew w5 W1 from Below.trans (show Below w5.heap.size w5 w12 from HG512.out) (hC.below.mono HXY12.out.2))
  have HBXm := Lib.hid hC.box
  have HX7m := Lib.hid (hC.ibox HX712.out (by have := HXY.out; omega))
  have HX9m := Lib.hid (hC.ibox HX912.out (by have := HXY.out; omega))
  have HOm := Lib.hid hC.own
  have HMm := Lib.hid hm
  have HSz := Lib.hid hsz
  have hn5 := HT1.out.is.len
  subst hn5
  have HLt := Lib.hid (fun V (hG : Grew W1 V) => show Calls Try.prog 33 #[.pointer (some ⟨T1, 0, none⟩)] V fun e w' => e = .returned (.int .i64 (ls.length : Int)) ∧ Grew V w' from (tab_len V (HT1.out.grew (Grew.trans HG5W.out hG))).mono fun e w' h => ⟨h.1, h.2 ▸ Grew.refl _⟩)
  have HLu := Lib.hid (fun V (hG : Grew W1 V) => show Calls Try.prog 21 #[.pointer (some ⟨hd.b, 0, none⟩)] V fun e w' => e = .returned (.int .i64 (ls.length : Int)) ∧ Grew V w' from (HLm.out V (Grew.trans (Grew.trans HG5.out HG5W.out) hG)).mono fun e w' h => ⟨h.1, h.2 ▸ Grew.refl _⟩)
  have HAu := Lib.hid (fun V (hG : Grew W1 V) => HAl.out V (Grew.trans (Grew.trans HG5.out HG5W.out) hG))
  clear hC hm hd' hsz HKD1a HGV1 HX712 HX912 HBX12 HBv HIv HLm HAl
  go_upto_region 22 with fail
  have hqq := fun V : { V : World // Grew W1 V } => show V.1.cell? ⟨bx, 0, none⟩ = some (.slice Am nm cm) from (hBx2 HBXm.out V.2).cell
  have HC := Lib.hid (Grew.drewN W1 1)
  refine wp_region_c (fun V => Grew W1 V) (by kernel_rfl) HC.out ?_
  (refine wpAnyC_free 0 (oi := ⟨some 84, _, _, _, _, _⟩) (v := ?_) rfl (by kernel_rfl) (by kernel_rfl) (by kernel_rfl) HC.out rfl (fun x => ?_) ?_; rotate_left; (focus (simp [go_sem]; (try go_ints); first | done | (with_reducible rfl))); (simp only [Act.put, List.setIfInBounds_toArray, List.set_cons_succ, List.set_cons_zero]))
  (refine wpAnyC_free 1 (oi := ⟨some 85, _, _, _, _, _⟩) (v := ?_) rfl (by kernel_rfl) (by kernel_rfl) (by kernel_rfl) HC.out rfl (fun x => ?_) ?_; rotate_left; (focus (simp [go_sem]; (try go_ints); first | done | (with_reducible rfl))); (simp only [Act.put, List.setIfInBounds_toArray, List.set_cons_succ, List.set_cons_zero]))
  (refine wpAnyC_free 2 (oi := ⟨some 86, _, _, _, _, _⟩) (v := ?_) rfl (by kernel_rfl) (by kernel_rfl) (by kernel_rfl) HC.out rfl (fun x => ?_) ?_; rotate_left; (focus (simp [go_sem]; (try go_ints); first | done | (with_reducible rfl))); (simp only [Act.put, List.setIfInBounds_toArray, List.set_cons_succ, List.set_cons_zero]))
  (refine wpAnyC_free 3 (oi := ⟨some 87, _, _, _, _, _⟩) (v := ?_) rfl (by kernel_rfl) (by kernel_rfl) (by kernel_rfl) HC.out rfl (fun x => ?_) ?_; rotate_left; (focus (simp [go_sem]; (try go_ints); first | done | (with_reducible rfl))); (simp only [Act.put, List.setIfInBounds_toArray, List.set_cons_succ, List.set_cons_zero]))
  refine wpAnyC_free 4 (oi := ⟨some 88, _, _, _, _, _⟩) (iv x0) rfl (by kernel_rfl) (by kernel_rfl) (by kernel_rfl) HC.out rfl (fun V => exec_loadI (.tmp 14) rfl rfl (HX7m.out.grew V.2).range) ?_
  (simp only [Act.put, List.setIfInBounds_toArray, List.set_cons_succ, List.set_cons_zero])
  refine wpAnyC_free 5 (oi := ⟨some 89, _, _, _, _, _⟩) (iv x0) rfl (by kernel_rfl) (by kernel_rfl) (by kernel_rfl) HC.out rfl (fun V => exec_loadI (.tmp 16) rfl rfl (HX9m.out.grew V.2).range) ?_
  (simp only [Act.put, List.setIfInBounds_toArray, List.set_cons_succ, List.set_cons_zero])
  refine wpAnyC_free 6 (oi := ⟨some 90, _, _, _, _, _⟩) (.bool true) rfl (by kernel_rfl) (by kernel_rfl) (by kernel_rfl) HC.out rfl (fun V => exec_eqI (.tmp 88) (.tmp 89) rfl rfl rfl) ?_
  (simp only [Act.put, List.setIfInBounds_toArray, List.set_cons_succ, List.set_cons_zero])
  (refine wpAnyC_free 7 (oi := ⟨some 91, _, _, _, _, _⟩) (v := ?_) rfl (by kernel_rfl) (by kernel_rfl) (by kernel_rfl) HC.out rfl (fun x => ?_) ?_; rotate_left; (focus (simp [go_sem]; (try go_ints); first | done | (with_reducible rfl))); (simp only [Act.put, List.setIfInBounds_toArray, List.set_cons_succ, List.set_cons_zero]))
  (refine wpAnyC_free 8 (oi := ⟨some 92, _, _, _, _, _⟩) (v := ?_) rfl (by kernel_rfl) (by kernel_rfl) (by kernel_rfl) HC.out rfl (fun x => ?_) ?_; rotate_left; (focus (simp [go_sem]; (try go_ints); first | done | (with_reducible rfl))); (simp only [Act.put, List.setIfInBounds_toArray, List.set_cons_succ, List.set_cons_zero]))
  (refine wpAnyC_free 9 (oi := ⟨some 93, _, _, _, _, _⟩) (v := ?_) rfl (by kernel_rfl) (by kernel_rfl) (by kernel_rfl) HC.out rfl (fun x => ?_) ?_; rotate_left; (focus (simp [go_sem]; (try go_ints); first | done | (with_reducible rfl))); (simp only [Act.put, List.setIfInBounds_toArray, List.set_cons_succ, List.set_cons_zero]))
  (refine wpAnyC_free 11 (oi := ⟨some 95, _, _, _, _, _⟩) (v := ?_) rfl (by kernel_rfl) (by kernel_rfl) (by kernel_rfl) HC.out rfl (fun x => ?_) ?_; rotate_left; (focus (simp [go_sem]; (try go_ints); first | done | (with_reducible rfl))); (simp only [Act.put, List.setIfInBounds_toArray, List.set_cons_succ, List.set_cons_zero]))
  change wpAnyC _ _ _ _ _ _ _ _ (World.drewN W1 1)
  refine wpAnyC_step 10 (o := ⟨some 94, _, _, _, _, _⟩) rfl (by kernel_rfl) rfl ?_
  refine wpList_callR rfl _ _ (fun v w' => v = .int .i64 (ls.length : Int) ∧ Grew W1 w') (by simp [go_sem]) ((HLt.out _ HC.out).mono fun e w' ⟨h1, h2⟩ => ⟨_, h1, rfl, Grew.trans HC.out h2⟩) ?_
  rintro v wa ⟨rfl, hG⟩
  have HC := Lib.hid hG
  clear hG
  (simp only [Act.put, List.setIfInBounds_toArray, List.set_cons_succ, List.set_cons_zero])
  refine wpList_nil ⟨rfl, HC.out, ?_⟩
  refine wpAnyC_step 12 (o := ⟨some 96, _, _, _, _, _⟩) rfl (by kernel_rfl) rfl ?_
  refine wpList_callR rfl _ _ (fun v w' => v = .int .i64 (ls.length : Int) ∧ Grew W1 w') (by simp [go_sem]) ((HLu.out _ HC.out).mono fun e w' ⟨h1, h2⟩ => ⟨_, h1, rfl, Grew.trans HC.out h2⟩) ?_
  rintro v wb ⟨rfl, hG⟩
  have HC := Lib.hid hG
  clear hG
  (simp only [Act.put, List.setIfInBounds_toArray, List.set_cons_succ, List.set_cons_zero])
  refine wpList_nil ⟨rfl, HC.out, ?_⟩
  (refine wpAnyC_free 13 (oi := ⟨some 97, _, _, _, _, _⟩) (v := ?_) rfl (by kernel_rfl) (by kernel_rfl) (by kernel_rfl) HC.out rfl (fun x => ?_) ?_; rotate_left; (focus (simp [go_sem]; (try go_ints); first | done | (with_reducible rfl))); (simp only [Act.put, List.setIfInBounds_toArray, List.set_cons_succ, List.set_cons_zero]))
  (refine wpAnyC_free 14 (oi := ⟨some 98, _, _, _, _, _⟩) (v := ?_) rfl (by kernel_rfl) (by kernel_rfl) (by kernel_rfl) HC.out rfl (fun x => ?_) ?_; rotate_left; (focus (simp [go_sem]; (try go_ints); first | done | (with_reducible rfl))); (simp only [Act.put, List.setIfInBounds_toArray, List.set_cons_succ, List.set_cons_zero]))
  (refine wpAnyC_free 15 (oi := ⟨some 99, _, _, _, _, _⟩) (v := ?_) rfl (by kernel_rfl) (by kernel_rfl) (by kernel_rfl) HC.out rfl (fun x => ?_) ?_; rotate_left; (focus (simp [go_sem]; (try go_ints); first | done | (with_reducible rfl))); (simp only [Act.put, List.setIfInBounds_toArray, List.set_cons_succ, List.set_cons_zero]))
  (refine wpAnyC_free 16 (oi := ⟨some 100, _, _, _, _, _⟩) (v := ?_) rfl (by kernel_rfl) (by kernel_rfl) (by kernel_rfl) HC.out rfl (fun x => ?_) ?_; rotate_left; (focus (simp [go_sem, hqq]; (try go_ints); first | done | (with_reducible rfl))); (simp only [Act.put, List.setIfInBounds_toArray, List.set_cons_succ, List.set_cons_zero]))
  (refine wpAnyC_free 17 (oi := ⟨some 101, _, _, _, _, _⟩) (v := ?_) rfl (by kernel_rfl) (by kernel_rfl) (by kernel_rfl) HC.out rfl (fun x => ?_) ?_; rotate_left; (focus (simp [go_sem]; (try go_ints); first | done | (with_reducible rfl))); (simp only [Act.put, List.setIfInBounds_toArray, List.set_cons_succ, List.set_cons_zero]))
  (refine wpAnyC_free 19 (oi := ⟨some 103, _, _, _, _, _⟩) (v := ?_) rfl (by kernel_rfl) (by kernel_rfl) (by kernel_rfl) HC.out rfl (fun x => ?_) ?_; rotate_left; (focus (simp [go_sem]; (try go_ints); first | done | (with_reducible rfl))); (simp only [Act.put, List.setIfInBounds_toArray, List.set_cons_succ, List.set_cons_zero]))
  refine wpAnyC_step 18 (o := ⟨some 102, _, _, _, _, _⟩) rfl (by kernel_rfl) rfl ?_
  refine wpList_callR rfl _ _ (fun v w' => ∃ A n c, v = .slice A n c ∧ Is w' w'.heap.size A n c ls ∧ Grew W1 w') (by simp [go_sem]) ((HAu.out _ HC.out).mono fun e w' ⟨A, n, c, h1, h2, h3⟩ => ⟨_, h1, A, n, c, rfl, h2.is (Nat.le_refl _), Grew.trans HC.out h3⟩) ?_
  rintro v wd ⟨Aa, na, ca, rfl, hI, hG⟩
  have HC := Lib.hid hG
  clear hG
  have HIa := Lib.hid hI
  clear hI
  (simp only [Act.put, List.setIfInBounds_toArray, List.set_cons_succ, List.set_cons_zero])
  refine wpList_nil ⟨rfl, HC.out, ?_⟩
  refine wpAnyC_step 20 (o := ⟨some 104, _, _, _, _, _⟩) rfl (by kernel_rfl) rfl ?_
  refine wpList_callR rfl _ _ (fun v w' => ∃ A n c, v = .slice A n c ∧ Is w' w'.heap.size A n c (ItP.from_ ls key) ∧ Grew W1 w') (by simp [go_sem]) ((ref_from Aa na ca ls key _ HIa.out (by have h1 := HIa.out.len; have h2 := HLn.out; omega)).mono fun e w' ⟨A, n, c, h1, h2, h3⟩ => ⟨_, h1, A, n, c, rfl, h2.is (Nat.le_refl _), Grew.trans HC.out h3⟩) ?_
  rintro v we ⟨Af, nf, cf, rfl, hI, hG⟩
  have HC := Lib.hid hG
  clear hG
  have HIf := Lib.hid hI
  clear hI
  (simp only [Act.put, List.setIfInBounds_toArray, List.set_cons_succ, List.set_cons_zero])
  refine wpList_nil ⟨rfl, HC.out, ?_⟩
  have HSm : Hid (Calls Try.prog 20 #[.slice Am nm cm, .slice Af nf cf] we fun e w' => e = .returned (.bool true) ∧ Grew we w') := Lib.hid (by
    have := ref_same Am Af nm cm nf cf lr (ItP.from_ ls key) we (OwnI.is (OwnI.below_all HOm.out HC.out) (Nat.le_refl _)) HIf.out
    rw [decide_eq_true HLR.out] at this
    exact this)
  refine wpAnyC_step 21 (o := ⟨some 105, _, _, _, _, _⟩) rfl (by kernel_rfl) rfl ?_
  refine wpList_callR rfl _ _ (fun v w' => v = .bool true ∧ Grew W1 w') (by simp [go_sem]) (HSm.out.mono fun e w' ⟨h1, h2⟩ => ⟨_, h1, rfl, Grew.trans HC.out h2⟩) ?_
  rintro v wf ⟨rfl, hG⟩
  have HC := Lib.hid hG
  clear hG
  (simp only [Act.put, List.setIfInBounds_toArray, List.set_cons_succ, List.set_cons_zero])
  refine wpList_nil ⟨rfl, HC.out, ?_⟩
  (refine wpAnyC_free 22 (oi := ⟨some 106, _, _, _, _, _⟩) (v := ?_) rfl (by kernel_rfl) (by kernel_rfl) (by kernel_rfl) HC.out rfl (fun x => ?_) ?_; rotate_left; (focus (simp [go_sem]; (try go_ints); first | done | (with_reducible rfl))); (simp only [Act.put, List.setIfInBounds_toArray, List.set_cons_succ, List.set_cons_zero]))
  (refine wpAnyC_free 23 (oi := ⟨some 8, _, _, _, _, _⟩) (v := ?_) rfl (by kernel_rfl) (by kernel_rfl) (by kernel_rfl) HC.out rfl (fun x => ?_) ?_; rotate_left; (focus (simp [go_sem]; (try go_ints); first | done | (with_reducible rfl))); (simp only [Act.put, List.setIfInBounds_toArray, List.set_cons_succ, List.set_cons_zero]))
  refine wpAnyC_done (by kernel_rfl) (fun _ => ?_) _
  clear hqq
  go_wp2_with fail
  exact postM_ret1 rfl (Marks.apart (E := 0) HMk.out (KeepsOthers.grew HC.out)) (by have h1 := HC.out.size; have := HSz.out; omega) (fun W' ha => ⟨rfl, ha.kept (show Below w.heap.size w wf from Grew.trans HGw.out (Grew.trans HG5.out (Grew.trans HG5W.out HC.out))) (Nat.le_trans HGw.out.size (Nat.le_trans HG5.out.size HG512.out.size))⟩)
end Go.Proofs.Ytkkeodfoiffofaa
