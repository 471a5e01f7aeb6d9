/- What the document tells of the sample, chapter 8. -/
import Derived.Test.YtkkeodfoiffofaaTabD
import Derived.Test.YtkkeodfoiffofaaTabE
import Derived.Test.YtkkeodfoiffofaaTabA
namespace Go.Proofs.Ytkkeodfoiffofaa
open Go.RowKit
set_option linter.unusedVariables false
attribute [local go_sem] Oper.semAt_some
theorem load_boxb8 {W : World} {b : Nat} {v : Value} (h : W.cell? ⟨b, 0, none⟩ = some v) : (loadVar 4 ⟨b, 0, none⟩).run Try.prog W = .ok v W := by
  simp [loadVar, isAgg, Sem.run_bind, run_underlying Try.underlying4 W, h]
theorem boxed_grew {w1 w2 : World} {b : Nat} {t : TypeId} {v : Value} (h : Boxed w1 b t v) (hg : Grew w1 w2) : Boxed w2 b t v := (hg.block b h.lt).trans h
def smp8 : List It := [⟨[97], 5, false, [120]⟩, ⟨[97], 3, true, []⟩, ⟨[98], 1, false, [121]⟩]
set_option maxHeartbeats 1000000 in
theorem sample8 (w : World) : Calls Try.prog 30 #[] w fun e w' => ∃ A, e = .returned (.slice A 3 3) ∧ OwnI w' w.heap.size A 3 3 smp8 ∧ Grew w w' := by
  have HO : Hid (OwnI (w.alloc (.cells (itvs smp8).toArray 29)) w.heap.size (some ⟨w.heap.size, 0, none⟩) 3 3 smp8) := Lib.hid
    (Own.made w (itvs smp8).toArray _ (0, 0) 4 3 3 (itvs smp8) (Nat.le_refl _) rfl (Nat.le_refl _) (by unfold maxLen; omega) (by decide) (.inr rfl) (fun j u hu => by simpa using hu))
  go_enter Try.func30, Try.ntmps30
  go_wp2_with fail
  go_ret
  exact ⟨_, rfl, HO.out, grew_new w _⟩
theorem smp8_E : TabP.buildE smp8 2 = 0 := by decide +kernel
theorem smp8_q : ∀ x ∈ smp8, x.seq < m64 := by decide +kernel
theorem smp8_srt : ItP.Srt smp8 := ItP.srt_iff.1 (by decide +kernel)
theorem smp8_open : TabP.openP (TabP.build smp8 2) = some (smp8, 2) := TabP.open_build smp8_E smp8_q
theorem smp8_frm : TabP.frm [97] smp8 = 0 ∧ TabP.frm [] smp8 = 0 := by decide +kernel
theorem smp8_g9 : ItP.get smp8 [97] 9 = some ⟨[97], 5, false, [120]⟩ := by decide +kernel
theorem smp8_g4 : ItP.get smp8 [97] 4 = some ⟨[97], 3, true, []⟩ := by decide +kernel
theorem smp8_g2 : ItP.get smp8 [97] 2 = none := by decide +kernel
theorem smp8_key : ∀ y ∈ smp8, y.key ≠ [] := by decide
theorem boxed_not_is {W : World} {b B n c : Nat} {z : Int} {A : Option Addr} {l : List It} (hb : Boxed W b 3 (.int .i64 z)) (hI : Is W B A n c l) (hl : l ≠ []) : blk A ≠ some b := by
  rcases l with _ | ⟨x, r⟩
  · exact absurd rfl hl
  · obtain ⟨g, o, rfl, _, hr⟩ := hI.at (i := 0) (x := x) rfl
    intro e
    simp [blk] at e
    subst e
    have h0 := (range_cells hr).1
    rw [Nat.zero_mul, Nat.add_zero, cell_blk hb] at h0
    rcases o with _ | o
    · cases h0
    · simp at h0
theorem boxed_not_box {W : World} {b B : Nat} {z : Int} {v : Value} (hb : Boxed W b 3 (.int .i64 z)) (hB : Boxed W B 32 v) : B ≠ b := fun e => by
  subst e
  have hB' : W.heap[B]? = some (.cells #[v] 32) := hB
  rw [show W.heap[B]? = _ from hb] at hB'
  injection hB' with hB
  injection hB with _ hB _
  exact absurd hB (by decide)
theorem size_bool : (Try.prog.info? 4).map (·.size) = some 1 := by kernel_rfl
theorem run_storeB {w : World} {g k : Nat} {x : Bool} {old : Value} (hc : w.cell? ⟨g, k, none⟩ = some old) (hf : w.frozen? ⟨g, k, none⟩ = false) :
    (storeVar 4 ⟨g, k, none⟩ (.bool x)).run Try.prog w = .ok () (w.setCell ⟨g, k, none⟩ (.bool x)) := by
  have hs := run_storeCells_cells (P := Try.prog) g k [.bool x] 0 w (fun j hj => by
    have : j = 0 := by simp at hj; omega
    subst this
    simp [hc]) (fun j hj => by
    have : j = 0 := by simp at hj; omega
    subst this
    simpa using hf) (fun v hv => by simp at hv; rw [hv]; rfl)
  have hcs : (Value.bool x).cells = #[.bool x] := rfl
  cases hq : Try.prog.info? 4 with
  | none => have := size_bool; simp [hq] at this
  | some i =>
    have hsz : i.size = 1 := by have := size_bool; simpa [hq] using this
    simp only [Nat.add_zero] at hs
    simp [storeVar, sizeOf, typeInfo, hq, hcs, hsz, hs, World.setCells]
theorem wpList_storeB {ops : Array Oper} {rest : List Oper} {o : Oper} {a : Act} {w : World} {Q : Exit → Act → World → Prop} (hgd : o.guard = none) (X Y : Operand) (ho : o.op = .store 4 X Y)
    (g k : Nat) (x : Bool) (old : Value) (hx : a.eval X = .pointer (some ⟨g, k, none⟩)) (hy : a.eval Y = .bool x) (hc : w.cell? ⟨g, k, none⟩ = some old) (hf : w.frozen? ⟨g, k, none⟩ = false)
    (h : wpList Try.prog ops Q rest (a.put o.dst undef) (w.setCell ⟨g, k, none⟩ (.bool x))) : wpList Try.prog ops Q (o :: rest) a w :=
  wpList_plain hgd fun _ hK => by
    unfold Oper.wp execOp
    simp only [ho, hx, hy, Instr.storeAt, Instr.sureAddr, Sem.run_bind, Sem.run_pure, Result.andThen_ok, run_storeB hc hf]
    exact hK _ _ h
/-- W grew, and a box may have been written last -/
def Cl8 (W : World) (b0 : Nat) (V : World) : Prop := Grew W V ∨ ∃ V0, Grew W V0 ∧ V = V0.setCell ⟨b0, 0, none⟩ (.bool true)
theorem Cl8.block {W V : World} {b0 b : Nat} (h : Cl8 W b0 V) (hb : b < W.heap.size) (hne : b ≠ b0) : V.heap[b]? = W.heap[b]? := by
  rcases h with h | ⟨V0, h, rfl⟩
  · exact h.block b hb
  · exact (Below.heap_setCell _ _ _ _ (fun e => hne e)).trans (h.block b hb)
theorem boxb_not_ibox {W : World} {b g : Nat} {v : Bool} {x : It} (hb : Boxed W b 4 (.bool v)) (hx : IBox W g x) : b ≠ g := fun e => by
  subst e
  have h1 : W.heap[b]? = some (.cells #[.string ⟨x.key.toArray⟩, .int .u64 (x.seq : Int), .bool x.gone, .string ⟨x.val.toArray⟩] 29 (0, 0)) := hx
  rw [show W.heap[b]? = _ from hb] at h1
  injection h1 with h1
  injection h1 with h1 _ _
  simp at h1
theorem exec_eqI {o : Oper} {a : Act} {w : World} {x : It} {rt : TypeId} (X Y : Operand) (ho : o.op = .binOp .eql 29 X Y rt) (hx : a.eval X = iv x) (hy : a.eval Y = iv x) : (execOp a.eval o).run Try.prog w = .ok (.value (.bool true)) w := by
  unfold execOp
  have hg : (eqGuard .eql 29 X Y (iv x) (iv x)).run Try.prog w = .ok () w := run_eqGuard_agg (w := w) _ _ _ _ _ _ Try.eqGuardType29
  have he : (binOp .eql 29 (iv x) (iv x)).run Try.prog w = .ok (.bool true) w := by rw [eql_item, decide_eq_true rfl]
  simp only [ho, hx, hy, Sem.run_bind, hg, he, Result.andThen_ok, Sem.run_pure]
set_option maxRecDepth 100000 in
set_option maxHeartbeats 4000000 in
theorem awake8 (w : World) : Calls Try.prog 28 #[] w fun e w' => e = .returned (.bool true) ∧ Below w.heap.size w w' := by
  obtain ⟨w1, hw1⟩ : ∃ W, W = w.alloc (.cells #[.bool false] 4) := ⟨_, rfl⟩
  obtain ⟨b0, hb0⟩ : ∃ b, b = w.heap.size := ⟨_, rfl⟩
  have HB0 := Lib.hid (show Boxed w1 b0 4 (.bool false) by rw [hw1, hb0]; exact Boxed.new w _ _)
  have HG1 := Lib.hid (show Grew w w1 by rw [hw1]; exact grew_new w _)
  have HSa := Lib.hid (fun W => sample8 W)
  have HW1 := Lib.hid (And.intro hw1 hb0)
  have HBB := Lib.hid hb0
  clear hw1 hb0
  have hfn : ∀ (f : Nat) (A : Array Value) (W : World), (binOp .eql 45 (.func (.func f) #[] A) .nilFunc).run Try.prog W = .ok (.bool false) W := fun f A W => by kernel_rfl
  refine calls_marks Try.func28 rfl ?_
  simp only [Try.ntmps28, List.size_toArray, List.length_nil, Nat.reduceSub, Array.replicate_succ, Array.replicate_zero, List.push_toArray, List.append_toArray, List.nil_append, List.cons_append]
  go_upto_region 1 with fail
  rw [← HW1.out.1, ← HW1.out.2]
  clear HW1
  have HBu := Lib.hid (fun (A : Option Addr) (W : World) (hO : Is W W.heap.size A 3 3 smp8) => show Calls Try.prog 29 #[.slice A 3 3, .int .i64 2] W fun e w' => ∃ A n c, e = .returned (.tuple #[.slice A n c, .int .i64 0]) ∧ OwnB w' W.heap.size A n c (TabP.build smp8 2) ∧ Grew W w' from by
    refine (tab_build A 3 3 smp8 2 W hO smp8_q (by decide)).mono ?_
    rintro e w' ⟨A, n, c, h1, h2, h3⟩
    have e1 : TabP.buildB smp8 2 = TabP.build smp8 2 := by unfold TabP.buildB; rw [smp8_E, if_pos rfl]; rfl
    rw [e1] at h2
    rw [smp8_E] at h1
    exact ⟨A, n, c, h1, h2, h3⟩)
  have hbl : 8 ≤ (TabP.build smp8 2).length ∧ (TabP.build smp8 2).length ≤ 100000000 := by
    rw [TabP.build_len]
    have := TabP.body_len (l := smp8) (by decide +kernel) (by decide) 2
    omega
  obtain ⟨bs, hbs⟩ : ∃ bs, bs = TabP.build smp8 2 := ⟨_, rfl⟩
  have HOp := Lib.hid (fun (A : Option Addr) (n c base : Nat) (W : World) (hO : OwnB W base A n c bs) => show Calls Try.prog 31 #[.slice A n c] W fun e w' => ∃ T A n c F nf cf, e = .returned (.tuple #[.pointer (some ⟨T, 0, none⟩), .int .i64 0]) ∧ TabW T A n c smp8 2 F nf cf (TabP.filter smp8 3) w' ∧ W.heap.size ≤ T ∧ T < w'.heap.size ∧ Grew W w' from by
    have h := tab_open A n c bs W hO.len hO.le.1 hO.le.2 hO.row (by have := hO.len; rw [hbs] at this; omega)
    rw [hbs, smp8_open] at h
    exact h)
  rw [← hbs] at HBu hbl
  clear hbs
  go_upto_region 2 with (first
    | (go_at_call 30; ((with_reducible refine (HSa.out _).mono ?_); rintro e w2 ⟨A1, rfl, hO, hG⟩; have HO2 := Lib.hid hO; have HG2 := Lib.hid hG; clear hO hG))
    | (go_at_call 29; ((with_reducible refine (HBu.out _ _ (HO2.out.is (Nat.le_refl _))).mono ?_); rintro e w3 ⟨A3, n3, c3, rfl, hO, hG⟩; have HO3 := Lib.hid hO; have HG3 := Lib.hid (Grew.trans HG2.out hG); clear hO hG)))
  have hn3 := HO3.out.len
  have i3 : ¬ (n3 : Int) = 0 := by omega
  go_upto_region 5 with (go_at_call 31; ((with_reducible refine (HOp.out _ _ _ _ _ HO3.out).mono ?_); rintro e w4 ⟨T, A4, n4, c4, F, nf, cf, rfl, hT, hT1, hT2, hG⟩; have HT := Lib.hid hT; have HG4 := Lib.hid (Grew.trans HG3.out hG); have HTl := Lib.hid hT2; (obtain rfl : n4 = 3 := hT.is.len.symm); clear hT hT1 hT2 hG))
  have HFr := Lib.hid (fun (W : World) (key : List UInt8) (hG : Grew w4 W) => tab_from key W (HT.out.grew hG) smp8_srt)
  have HGt := Lib.hid (fun (W : World) (key : List UInt8) (q : Nat) (hG : Grew w4 W) => tab_get key q W (HT.out.grew hG) smp8_srt)
  have HG9 : Hid (∀ W, Grew w4 W → Calls Try.prog 37 #[.pointer (some ⟨T, 0, none⟩), .string ⟨#[97]⟩, .int .u64 9] W fun e w' => e = .returned (.tuple #[.agg #[.string ⟨#[97]⟩, .int .u64 5, .bool false, .string ⟨#[120]⟩], .bool true]) ∧ Grew W w') := Lib.hid fun W hG => by have := HGt.out W [97] 9 hG; rw [smp8_g9] at this; exact this
  have HG4' : Hid (∀ W, Grew w4 W → Calls Try.prog 37 #[.pointer (some ⟨T, 0, none⟩), .string ⟨#[97]⟩, .int .u64 4] W fun e w' => e = .returned (.tuple #[.agg #[.string ⟨#[97]⟩, .int .u64 3, .bool true, .string ⟨#[]⟩], .bool true]) ∧ Grew W w') := Lib.hid fun W hG => by have := HGt.out W [97] 4 hG; rw [smp8_g4] at this; exact this
  have HG2' : Hid (∀ W, Grew w4 W → Calls Try.prog 37 #[.pointer (some ⟨T, 0, none⟩), .string ⟨#[97]⟩, .int .u64 2] W fun e w' => e = .returned (.tuple #[.agg #[.string ⟨#[]⟩, .int .u64 0, .bool false, .string ⟨#[]⟩], .bool false]) ∧ Grew W w') := Lib.hid fun W hG => by have := HGt.out W [97] 2 hG; rw [smp8_g2] at this; exact this
  have HF0 : Hid (∀ W, Grew w4 W → Calls Try.prog 40 #[.pointer (some ⟨T, 0, none⟩), .string ⟨#[]⟩] W fun e w' => ∃ B, e = .returned (.func (.func 71) #[] #[.pointer (some ⟨B, 0, none⟩)]) ∧ Grew W w') := Lib.hid fun W hG => (HFr.out W [] hG).mono fun e w' ⟨B, A', n', c', h1, h2, h3, h4⟩ => ⟨B, h1, h4⟩
  have HFa : Hid (∀ W, Grew w4 W → Calls Try.prog 40 #[.pointer (some ⟨T, 0, none⟩), .string ⟨#[97]⟩] W fun e w' => ∃ B A' n' c', e = .returned (.func (.func 71) #[] #[.pointer (some ⟨B, 0, none⟩)]) ∧ Boxed w' B 32 (.slice A' n' c') ∧ Is w' w'.heap.size A' n' c' smp8 ∧ Grew W w') := Lib.hid fun W hG => by have := HFr.out W [97] hG; rw [smp8_frm.1] at this; exact this
  have HGr := Lib.hid (Grew.refl w4)
  clear HGt HFr HSa HBu HOp
  go_upto_region 7 with (go_at_call 40; ((with_reducible refine (HF0.out _ HGr.out).mono ?_); rintro e w5 ⟨B5, rfl, hG⟩; have HGr := Lib.hid (Grew.trans HGr.out hG); clear hG))
  go_upto_region 8 with (go_at_call 37; ((with_reducible refine (HG9.out _ HGr.out).mono ?_); rintro e w6 ⟨rfl, hG⟩; have HGr := Lib.hid (Grew.trans HGr.out hG); clear hG))
  obtain ⟨w7, hw7⟩ : ∃ W, W = w6.alloc (.cells #[.string ⟨#[97]⟩, .int .u64 5, .bool false, .string ⟨#[120]⟩] 29) := ⟨_, rfl⟩
  obtain ⟨x5, hx5⟩ : ∃ b, b = w6.heap.size := ⟨_, rfl⟩
  have Hx5 := Lib.hid (show IBox w7 x5 ⟨[97], 5, false, [120]⟩ by rw [hw7, hx5]; exact heap_alloc_new w6 _)
  have HGr := Lib.hid (show Grew w4 w7 by rw [hw7]; exact Grew.trans HGr.out (grew_new w6 _))
  have hlx5 : x5 < w7.heap.size := by rw [hw7, hx5]; simp
  rw [← hw7, ← hx5]
  clear hw7 hx5
  go_upto_region 9 with (go_at_call 37; ((with_reducible refine (HG4'.out _ HGr.out).mono ?_); rintro e w8 ⟨rfl, hG⟩; have HGr := Lib.hid (Grew.trans HGr.out hG); have Hx5 := Lib.hid (Hx5.out.grew hG); have hs8 := hG.size; clear hG))
  obtain ⟨w9, hw9⟩ : ∃ W, W = w8.alloc (.cells #[.string ⟨#[97]⟩, .int .u64 3, .bool true, .string ⟨#[]⟩] 29) := ⟨_, rfl⟩
  obtain ⟨x3, hx3⟩ : ∃ b, b = w8.heap.size := ⟨_, rfl⟩
  have Hx3 := Lib.hid (show IBox w9 x3 ⟨[97], 3, true, []⟩ by rw [hw9, hx3]; exact heap_alloc_new w8 _)
  have Hx5 := Lib.hid (show IBox w9 x5 ⟨[97], 5, false, [120]⟩ by rw [hw9]; exact Hx5.out.alloc _)
  have HGr := Lib.hid (show Grew w4 w9 by rw [hw9]; exact Grew.trans HGr.out (grew_new w8 _))
  have hlx3 : x3 < w9.heap.size := by rw [hw9, hx3]; simp
  rw [← hw9, ← hx3]
  clear hw9 hx3
  go_upto_region 10 with (go_at_call 37; ((with_reducible refine (HG2'.out _ HGr.out).mono ?_); rintro e w10 ⟨rfl, hG⟩; have HGr := Lib.hid (Grew.trans HGr.out hG); have Hx5 := Lib.hid (Hx5.out.grew hG); have Hx3 := Lib.hid (Hx3.out.grew hG); clear hG))
  have hs10 := HGr.out.size
  obtain ⟨w11, hw11⟩ : ∃ W, W = w10.alloc (.cells #[.string ⟨#[]⟩, .int .u64 0, .bool false, .string ⟨#[]⟩] 29) := ⟨_, rfl⟩
  have HG11 := Lib.hid (show Grew w10 w11 by rw [hw11]; exact grew_new w10 _)
  rw [← hw11]
  clear hw11
  go_upto_region 11 with fail
  obtain ⟨w12, hw12⟩ : ∃ W, W = w11.alloc (.cells #[.int .i64 0] 3) := ⟨_, rfl⟩
  obtain ⟨b2, hb2⟩ : ∃ b, b = w11.heap.size := ⟨_, rfl⟩
  have HB2 := Lib.hid (show Boxed w12 b2 3 (.int .i64 0) by rw [hw12, hb2]; exact Boxed.new w11 _ _)
  have HG12 := Lib.hid (show Grew w10 w12 by rw [hw12]; exact Grew.trans HG11.out (grew_new w11 _))
  have hb2l : w10.heap.size ≤ b2 := by rw [hb2]; exact HG11.out.size
  rw [← hw12, ← hb2]
  clear hw12 hb2 HG11
  have HGr := Lib.hid (Grew.trans HGr.out HG12.out)
  go_wp2_with (go_at_call 40; ((with_reducible refine (HFa.out _ HGr.out).mono ?_); rintro e w13 ⟨B, A6, n6, c6, rfl, hB, hI, hG⟩; have HBv := Lib.hid hB; have HIv := Lib.hid hI; have HG13 := Lib.hid hG; clear hB hI hG))
  have HB213 := Lib.hid (boxed_grew HB2.out HG13.out)
  have HKD : Hid (∀ g, keepsvalues1 B A6 smp8 g → g ≠ b2) := Lib.hid fun g hg => by
    rcases hg with rfl | ⟨_, hg⟩
    · exact boxed_not_box HB213.out HBv.out
    · intro e
      rw [e] at hg
      exact boxed_not_is HB213.out HIv.out (by decide) hg
  have HGV := Lib.hid (values1_gives B n6 c6 A6 smp8 w13 HBv.out.cell HIv.out)
  have HL2 := Lib.hid (show w4.heap.size ≤ b2 ∧ b2 < w13.heap.size ∧ x5 < b2 ∧ x3 < b2 ∧ b0 < b2 from by
    have h2 := Hx5.out.lt
    have h3 := Hx3.out.lt
    have h4 := HB213.out.lt
    have h6 := HB0.out.lt
    have h7 := HG4.out.size
    exact ⟨by omega, h4, by omega, by omega, by omega⟩)
  have HGr13 := Lib.hid (Grew.trans HGr.out HG13.out)
  have HB013 := Lib.hid (show Boxed w13 b0 4 (.bool false) from boxed_grew HB0.out (Grew.trans HG4.out HGr13.out))
  have Hx513 := Lib.hid (Hx5.out.grew (Grew.trans HG12.out HG13.out))
  have Hx313 := Lib.hid (Hx3.out.grew (Grew.trans HG12.out HG13.out))
  refine wp_rangeIz 60 12 (gf := 71) (lb := #[.pointer (some ⟨B, 0, none⟩)]) (K := keepsvalues1 B A6 smp8) (xs := smp8) rfl (enters_of Try.func71 (by kernel_rfl) rfl) HGV.out.1 HGV.out.2
    (fun pre W => (∀ x ∈ pre, x.key ≠ []) ∧ Boxed W b2 3 (.int .i64 (pre.length : Int)) ∧ Boxed W b0 4 (.bool false) ∧ Below b2 w13 W) (fun _ pre _ => ¬ ∀ x ∈ pre, x.key ≠ [])
    (fun s W W' h _ ha => ⟨h.1, ha.boxed h.2.1, ha.boxed h.2.2.1, ha.kept h.2.2.2 (by have := HL2.out; omega)⟩) (fun _ _ _ _ h _ _ => h) ⟨by simp, HB213.out, HB013.out, Below.refl _ _⟩ ?assign ?body ?done ?stop
  case assign =>
    intro l x W K' hK
    gi_wp2
    exact hK
  case body =>
    rintro l pre x b W ⟨hk, hBn, hB0, hG⟩ hsz hIb hb hlen
    obtain ⟨q0, q1, q2, q3⟩ := range_cells hIb.range
    have cn := hBn.cell
    have c0 := hB0.cell
    have hp1 : pre.length < 3 := hlen
    have HK := Lib.hid hk
    have HBn1 := Lib.hid hBn
    have HB01 := Lib.hid hB0
    have HGb := Lib.hid hG
    clear hIb hk hBn hB0 hG
    simp only [actI, List.setIfInBounds_toArray, List.set_cons_zero, List.set_cons_succ]
    have fn := HBn1.out.frozen
    have f0 := HB01.out.frozen
    by_cases hx : x.key = []
    · have HX := Lib.hid hx
      rw [hx] at q0
      clear hx
      gi_wp2
      exact ⟨KeepsOthers.setCell _ _ _, fun h => h x (by simp) HX.out⟩
    · have hkb : (x.key == []) = false := by simpa using hx
      have HX := Lib.hid hx
      gi_wp2
      exact ⟨KeepsOthers.setCell _ _ _, KeepSet.setCell _ _ _ fun hk => HKD.out _ hk rfl, fun y hy => by
        rcases List.mem_append.1 hy with hy | hy
        · exact HK.out y hy
        · simp at hy; rw [hy]; exact HX.out, by simpa using HBn1.out.set (.int .i64 ((pre.length : Int) + 1)), (Below.heap_setCell _ _ _ _ (by have := HL2.out; simp; omega)).trans HB01.out, HGb.out.setCell (Nat.le_refl _) _⟩
  case done =>
    rintro D W hD hsz ⟨hk, hBn, hB0, hG⟩ hd'
    have HB2W := Lib.hid (show Boxed W b2 3 (.int .i64 3) from hBn)
    have HB0W := Lib.hid hB0
    have HGW := Lib.hid (show Grew w4 W from Grew.trans HGr13.out (Below.refl _ _) |> fun h => Below.trans h (hG.mono HL2.out.1))
    have Hx5W := Lib.hid (Hx513.out.below hG HL2.out.2.2.1)
    have Hx3W := Lib.hid (Hx313.out.below hG HL2.out.2.2.2.1)
    have HM := Lib.hid ((Marks.nil w13.heap.size W).cons hD hd' (fun m h => by cases h))
    have HSZ := Lib.hid hsz
    clear hk hBn hB0 hG hd' hD hsz
    have HTW := Lib.hid (HT.out.grew HGW.out)
    have HBd := Lib.hid (show Calls Try.prog 32 #[.pointer (some ⟨T, 0, none⟩)] W fun e w' => e = .returned (.tuple #[.string ⟨#[97]⟩, .string ⟨#[98]⟩]) ∧ Grew W w' from tab_bounds W HTW.out)
    go_upto_region 17 with (go_at_call 32; ((with_reducible refine HBd.out.mono ?_); rintro e w14 ⟨rfl, hG⟩; have HG14 := Lib.hid hG; clear hG))
    have HLn := Lib.hid (fun V (hG : Grew W V) => show Calls Try.prog 33 #[.pointer (some ⟨T, 0, none⟩)] V fun e w' => e = .returned (.int .i64 3) ∧ Grew V w' from (tab_len V (HTW.out.grew hG)).mono fun e w' h => ⟨h.1, h.2 ▸ Grew.refl _⟩)
    have HNE := Lib.hid (show b0 ≠ x3 ∧ b0 ≠ x5 ∧ b0 ≠ b2 from ⟨boxb_not_ibox HB0W.out Hx3W.out, boxb_not_ibox HB0W.out Hx5W.out, by have := HL2.out; omega⟩)
    have HBl := Lib.hid (fun V (hG : Grew W V) => show Calls Try.prog 34 #[.pointer (some ⟨T, 0, none⟩)] V fun e w' => e = .returned (.int .i64 2) ∧ Grew V w' from tab_blocks V (HTW.out.grew hG) (by omega) (by omega))
    have hnf : nf = 4 := by rw [← HTW.out.len, TabP.filter_len]; rfl
    have hHas : ∀ x ∈ smp8, ∀ V, Grew W V → Calls Try.prog 38 #[.pointer (some ⟨T, 0, none⟩), sv x.key] V fun e w' => e = .returned (.bool true) ∧ Grew V w' := fun x hx V hG => tab_has x.key V (HTW.out.grew hG) (by
      have : ∀ y ∈ smp8, y.key.length ≤ 1000000 := by decide
      exact this x hx) (fun p hp => TabP.bit_filter (l := smp8) hx (by
      rw [TabP.filter_len]
      rw [hnf] at hp
      exact hp)) (by omega)
    have HHa := Lib.hid (fun V (hG : Grew W V) => show Calls Try.prog 38 #[.pointer (some ⟨T, 0, none⟩), .string ⟨#[97]⟩] V fun e w' => e = .returned (.bool true) ∧ Grew V w' from hHas ⟨[97], 5, false, [120]⟩ (by decide) V hG)
    have HHb := Lib.hid (fun V (hG : Grew W V) => show Calls Try.prog 38 #[.pointer (some ⟨T, 0, none⟩), .string ⟨#[98]⟩] V fun e w' => e = .returned (.bool true) ∧ Grew V w' from hHas ⟨[98], 1, false, [121]⟩ (by decide) V hG)
    have hqq := And.intro (fun V : { V : World // Cl8 W b0 V } => show V.1.cell? ⟨x3, 2, none⟩ = some (.bool true) from ((range_cells (Hx3W.out.keep (V.2.block Hx3W.out.lt (by have := HNE.out; omega))).range).2.2.1)) (fun V : { V : World // Cl8 W b0 V } => show V.1.cell? ⟨b2, 0, none⟩ = some (.int .i64 3) from Boxed.cell (show Boxed V.1 b2 3 (.int .i64 3) from (V.2.block HB2W.out.lt (by have := HNE.out; omega)).trans HB2W.out))
    clear hnf hHas
    have HGc := Lib.hid (Grew.trans HG14.out (Grew.drewN w14 1))
    have HC : Hid (Cl8 W b0 (World.drewN w14 1)) := Lib.hid (.inl HGc.out)
    refine wp_region_c (fun V => Cl8 W b0 V) (by kernel_rfl) HC.out ?_
    change wpAnyC _ _ _ _ _ _ _ _ (World.drewN w14 1)
    (refine wpAnyC_free 0 (oi := ⟨some 71, _, _, _, _, _⟩) (v := ?_) rfl (by kernel_rfl) (by kernel_rfl) (by kernel_rfl) HC.out rfl (fun x => ?_) ?_; rotate_left; (focus (simp [go_sem]; (try go_ints); first | done | (with_reducible rfl))); (simp only [Act.put, List.setIfInBounds_toArray, List.set_cons_succ, List.set_cons_zero]))
    (refine wpAnyC_free 1 (oi := ⟨some 72, _, _, _, _, _⟩) (v := ?_) rfl (by kernel_rfl) (by kernel_rfl) (by kernel_rfl) HC.out rfl (fun x => ?_) ?_; rotate_left; (focus (simp [go_sem]; (try go_ints); first | done | (with_reducible rfl))); (simp only [Act.put, List.setIfInBounds_toArray, List.set_cons_succ, List.set_cons_zero]))
    refine wpAnyC_free 2 (oi := ⟨some 73, _, _, _, _, _⟩) (iv ⟨[97], 5, false, [120]⟩) rfl (by kernel_rfl) (by kernel_rfl) (by kernel_rfl) HC.out rfl (fun V => exec_loadI (.tmp 5) rfl rfl (Hx5W.out.keep (V.2.block Hx5W.out.lt (by have := HNE.out; omega))).range) ?_
    (simp only [Act.put, List.setIfInBounds_toArray, List.set_cons_succ, List.set_cons_zero])
    refine wpAnyC_step 3 (o := ⟨some 74, _, _, _, _, _⟩) rfl (by kernel_rfl) rfl ?_
    refine wpList_callR rfl 30 #[] (fun v w' => ∃ A, v = .slice A 3 3 ∧ Is w' w'.heap.size A 3 3 smp8 ∧ Grew W w') (by simp [go_sem]) ((sample8 _).mono fun e w' ⟨A, e1, h1, h2⟩ => ⟨_, e1, A, rfl, h1.is (Nat.le_refl _), Grew.trans HGc.out h2⟩) ?_
    rintro v wa ⟨As, rfl, hI, hG⟩
    have HIs := Lib.hid hI
    have HGc := Lib.hid hG
    have HC : Hid (Cl8 W b0 wa) := Lib.hid (.inl HGc.out)
    clear hI hG
    obtain ⟨gs, os, rfl, _, hrs⟩ := HIs.out.at (i := 0) (x := ⟨[97], 5, false, [120]⟩) rfl
    (simp only [Act.put, List.setIfInBounds_toArray, List.set_cons_succ, List.set_cons_zero])
    refine wpList_nil ⟨rfl, HC.out, ?_⟩
    (refine wpAnyC_free 4 (oi := ⟨some 75, _, _, _, _, _⟩) (v := ?_) rfl (by kernel_rfl) (by kernel_rfl) (by kernel_rfl) HC.out rfl (fun x => ?_) ?_; rotate_left; (focus (simp [go_sem]; (try go_ints); first | done | (with_reducible rfl))); (simp only [Act.put, List.setIfInBounds_toArray, List.set_cons_succ, List.set_cons_zero]))
    refine wpAnyC_step 5 (o := ⟨some 76, _, _, _, _, _⟩) rfl (by kernel_rfl) rfl ?_
    refine wpList_value (o := ⟨some 76, _, _, _, _, _⟩) rfl (exec_loadI (.tmp 75) rfl rfl hrs) ?_
    (simp only [Act.put, List.setIfInBounds_toArray, List.set_cons_succ, List.set_cons_zero])
    refine wpList_nil ⟨rfl, HC.out, ?_⟩
    refine wpAnyC_free 6 (oi := ⟨some 77, _, _, _, _, _⟩) (.bool true) rfl (by kernel_rfl) (by kernel_rfl) (by kernel_rfl) HC.out rfl (fun V => exec_eqI (.tmp 73) (.tmp 76) rfl rfl rfl) ?_
    (simp only [Act.put, List.setIfInBounds_toArray, List.set_cons_succ, List.set_cons_zero])
    (refine wpAnyC_free 7 (oi := ⟨some 78, _, _, _, _, _⟩) (v := ?_) rfl (by kernel_rfl) (by kernel_rfl) (by kernel_rfl) HC.out rfl (fun x => ?_) ?_; rotate_left; (focus (simp [go_sem]; (try go_ints); first | done | (with_reducible rfl))); (simp only [Act.put, List.setIfInBounds_toArray, List.set_cons_succ, List.set_cons_zero]))
    (refine wpAnyC_free 8 (oi := ⟨some 79, _, _, _, _, _⟩) (v := ?_) rfl (by kernel_rfl) (by kernel_rfl) (by kernel_rfl) HC.out rfl (fun x => ?_) ?_; rotate_left; (focus (simp [go_sem]; (try go_ints); first | done | (with_reducible rfl))); (simp only [Act.put, List.setIfInBounds_toArray, List.set_cons_succ, List.set_cons_zero]))
    (refine wpAnyC_free 9 (oi := ⟨some 80, _, _, _, _, _⟩) (v := ?_) rfl (by kernel_rfl) (by kernel_rfl) (by kernel_rfl) HC.out rfl (fun x => ?_) ?_; rotate_left; (focus (simp [go_sem]; (try go_ints); first | done | (with_reducible rfl))); (simp only [Act.put, List.setIfInBounds_toArray, List.set_cons_succ, List.set_cons_zero]))
    (refine wpAnyC_free 10 (oi := ⟨some 81, _, _, _, _, _⟩) (v := ?_) rfl (by kernel_rfl) (by kernel_rfl) (by kernel_rfl) HC.out rfl (fun x => ?_) ?_; rotate_left; (focus (simp [go_sem]; (try go_ints); first | done | (with_reducible rfl))); (simp only [Act.put, List.setIfInBounds_toArray, List.set_cons_succ, List.set_cons_zero]))
    (refine wpAnyC_free 11 (oi := ⟨some 82, _, _, _, _, _⟩) (v := ?_) rfl (by kernel_rfl) (by kernel_rfl) (by kernel_rfl) HC.out rfl (fun x => ?_) ?_; rotate_left; (focus (simp [go_sem]; (try go_ints); first | done | (with_reducible rfl))); (simp only [Act.put, List.setIfInBounds_toArray, List.set_cons_succ, List.set_cons_zero]))
    (refine wpAnyC_free 12 (oi := ⟨some 83, _, _, _, _, _⟩) (v := ?_) rfl (by kernel_rfl) (by kernel_rfl) (by kernel_rfl) HC.out rfl (fun x => ?_) ?_; rotate_left; (focus (simp [go_sem]; (try go_ints); first | done | (with_reducible rfl))); (simp only [Act.put, List.setIfInBounds_toArray, List.set_cons_succ, List.set_cons_zero]))
    (refine wpAnyC_free 13 (oi := ⟨some 84, _, _, _, _, _⟩) (v := ?_) rfl (by kernel_rfl) (by kernel_rfl) (by kernel_rfl) HC.out rfl (fun x => ?_) ?_; rotate_left; (focus (simp [go_sem, hqq]; (try go_ints); first | done | (with_reducible rfl))); (simp only [Act.put, List.setIfInBounds_toArray, List.set_cons_succ, List.set_cons_zero]))
    (refine wpAnyC_free 14 (oi := ⟨some 85, _, _, _, _, _⟩) (v := ?_) rfl (by kernel_rfl) (by kernel_rfl) (by kernel_rfl) HC.out rfl (fun x => ?_) ?_; rotate_left; (focus (simp [go_sem]; (try go_ints); first | done | (with_reducible rfl))); (simp only [Act.put, List.setIfInBounds_toArray, List.set_cons_succ, List.set_cons_zero]))
    (refine wpAnyC_free 15 (oi := ⟨some 86, _, _, _, _, _⟩) (v := ?_) rfl (by kernel_rfl) (by kernel_rfl) (by kernel_rfl) HC.out rfl (fun x => ?_) ?_; rotate_left; (focus (simp [go_sem]; (try go_ints); first | done | (with_reducible rfl))); (simp only [Act.put, List.setIfInBounds_toArray, List.set_cons_succ, List.set_cons_zero]))
    (refine wpAnyC_free 16 (oi := ⟨some 87, _, _, _, _, _⟩) (v := ?_) rfl (by kernel_rfl) (by kernel_rfl) (by kernel_rfl) HC.out rfl (fun x => ?_) ?_; rotate_left; (focus (simp [go_sem]; (try go_ints); first | done | (with_reducible rfl))); (simp only [Act.put, List.setIfInBounds_toArray, List.set_cons_succ, List.set_cons_zero]))
    (refine wpAnyC_free 17 (oi := ⟨some 88, _, _, _, _, _⟩) (v := ?_) rfl (by kernel_rfl) (by kernel_rfl) (by kernel_rfl) HC.out rfl (fun x => ?_) ?_; rotate_left; (focus (simp [go_sem]; (try go_ints); first | done | (with_reducible rfl))); (simp only [Act.put, List.setIfInBounds_toArray, List.set_cons_succ, List.set_cons_zero]))
    (refine wpAnyC_free 18 (oi := ⟨some 89, _, _, _, _, _⟩) (v := ?_) rfl (by kernel_rfl) (by kernel_rfl) (by kernel_rfl) HC.out rfl (fun x => ?_) ?_; rotate_left; (focus (simp [go_sem]; (try go_ints); first | done | (with_reducible rfl))); (simp only [Act.put, List.setIfInBounds_toArray, List.set_cons_succ, List.set_cons_zero]))
    (refine wpAnyC_free 19 (oi := ⟨some 90, _, _, _, _, _⟩) (v := ?_) rfl (by kernel_rfl) (by kernel_rfl) (by kernel_rfl) HC.out rfl (fun x => ?_) ?_; rotate_left; (focus (simp [go_sem]; (try go_ints); first | done | (with_reducible rfl))); (simp only [Act.put, List.setIfInBounds_toArray, List.set_cons_succ, List.set_cons_zero]))
    (refine wpAnyC_free 20 (oi := ⟨some 91, _, _, _, _, _⟩) (v := ?_) rfl (by kernel_rfl) (by kernel_rfl) (by kernel_rfl) HC.out rfl (fun x => ?_) ?_; rotate_left; (focus (simp [go_sem, hqq]; (try go_ints); first | done | (with_reducible rfl))); (simp only [Act.put, List.setIfInBounds_toArray, List.set_cons_succ, List.set_cons_zero]))
    (refine wpAnyC_free 21 (oi := ⟨some 92, _, _, _, _, _⟩) (v := ?_) rfl (by kernel_rfl) (by kernel_rfl) (by kernel_rfl) HC.out rfl (fun x => ?_) ?_; rotate_left; (focus (simp [go_sem]; (try go_ints); first | done | (with_reducible rfl))); (simp only [Act.put, List.setIfInBounds_toArray, List.set_cons_succ, List.set_cons_zero]))
    (refine wpAnyC_free 22 (oi := ⟨some 93, _, _, _, _, _⟩) (v := ?_) rfl (by kernel_rfl) (by kernel_rfl) (by kernel_rfl) HC.out rfl (fun x => ?_) ?_; rotate_left; (focus (simp [go_sem]; (try go_ints); first | done | (with_reducible rfl))); (simp only [Act.put, List.setIfInBounds_toArray, List.set_cons_succ, List.set_cons_zero]))
    (refine wpAnyC_free 23 (oi := ⟨some 94, _, _, _, _, _⟩) (v := ?_) rfl (by kernel_rfl) (by kernel_rfl) (by kernel_rfl) HC.out rfl (fun x => ?_) ?_; rotate_left; (focus (simp [go_sem]; (try go_ints); first | done | (with_reducible rfl))); (simp only [Act.put, List.setIfInBounds_toArray, List.set_cons_succ, List.set_cons_zero]))
    (refine wpAnyC_free 24 (oi := ⟨some 95, _, _, _, _, _⟩) (v := ?_) rfl (by kernel_rfl) (by kernel_rfl) (by kernel_rfl) HC.out rfl (fun x => ?_) ?_; rotate_left; (focus (simp [go_sem]; (try go_ints); first | done | (with_reducible rfl))); (simp only [Act.put, List.setIfInBounds_toArray, List.set_cons_succ, List.set_cons_zero]))
    refine wpAnyC_step 25 (o := ⟨some 96, _, _, _, _, _⟩) rfl (by kernel_rfl) rfl ?_
    refine wpList_callR rfl _ _ (fun v w' => v = .int .i64 3 ∧ Grew W w') (by simp [go_sem]) ((HLn.out _ HGc.out).mono fun e w' ⟨h1, h2⟩ => ⟨_, h1, rfl, Grew.trans HGc.out h2⟩) ?_
    rintro v wb ⟨rfl, hG⟩
    have HGc := Lib.hid hG
    have HC : Hid (Cl8 W b0 wb) := Lib.hid (.inl HGc.out)
    clear hG
    (simp only [Act.put, List.setIfInBounds_toArray, List.set_cons_succ, List.set_cons_zero])
    refine wpList_nil ⟨rfl, HC.out, ?_⟩
    (refine wpAnyC_free 26 (oi := ⟨some 97, _, _, _, _, _⟩) (v := ?_) rfl (by kernel_rfl) (by kernel_rfl) (by kernel_rfl) HC.out rfl (fun x => ?_) ?_; rotate_left; (focus (simp [go_sem]; (try go_ints); first | done | (with_reducible rfl))); (simp only [Act.put, List.setIfInBounds_toArray, List.set_cons_succ, List.set_cons_zero]))
    (refine wpAnyC_free 27 (oi := ⟨some 98, _, _, _, _, _⟩) (v := ?_) rfl (by kernel_rfl) (by kernel_rfl) (by kernel_rfl) HC.out rfl (fun x => ?_) ?_; rotate_left; (focus (simp [go_sem]; (try go_ints); first | done | (with_reducible rfl))); (simp only [Act.put, List.setIfInBounds_toArray, List.set_cons_succ, List.set_cons_zero]))
    (refine wpAnyC_free 28 (oi := ⟨some 99, _, _, _, _, _⟩) (v := ?_) rfl (by kernel_rfl) (by kernel_rfl) (by kernel_rfl) HC.out rfl (fun x => ?_) ?_; rotate_left; (focus (simp [go_sem]; (try go_ints); first | done | (with_reducible rfl))); (simp only [Act.put, List.setIfInBounds_toArray, List.set_cons_succ, List.set_cons_zero]))
    (refine wpAnyC_free 29 (oi := ⟨some 100, _, _, _, _, _⟩) (v := ?_) rfl (by kernel_rfl) (by kernel_rfl) (by kernel_rfl) HC.out rfl (fun x => ?_) ?_; rotate_left; (focus (simp [go_sem]; (try go_ints); first | done | (with_reducible rfl))); (simp only [Act.put, List.setIfInBounds_toArray, List.set_cons_succ, List.set_cons_zero]))
    refine wpAnyC_step 30 (o := ⟨some 101, _, _, _, _, _⟩) rfl (by kernel_rfl) rfl ?_
    refine wpList_callR rfl _ _ (fun v w' => v = .int .i64 2 ∧ Grew W w') (by simp [go_sem]) ((HBl.out _ HGc.out).mono fun e w' ⟨h1, h2⟩ => ⟨_, h1, rfl, Grew.trans HGc.out h2⟩) ?_
    rintro v wc ⟨rfl, hG⟩
    have HGc := Lib.hid hG
    have HC : Hid (Cl8 W b0 wc) := Lib.hid (.inl HGc.out)
    clear hG
    (simp only [Act.put, List.setIfInBounds_toArray, List.set_cons_succ, List.set_cons_zero])
    refine wpList_nil ⟨rfl, HC.out, ?_⟩
    (refine wpAnyC_free 31 (oi := ⟨some 102, _, _, _, _, _⟩) (v := ?_) rfl (by kernel_rfl) (by kernel_rfl) (by kernel_rfl) HC.out rfl (fun x => ?_) ?_; rotate_left; (focus (simp [go_sem]; (try go_ints); first | done | (with_reducible rfl))); (simp only [Act.put, List.setIfInBounds_toArray, List.set_cons_succ, List.set_cons_zero]))
    (refine wpAnyC_free 32 (oi := ⟨some 103, _, _, _, _, _⟩) (v := ?_) rfl (by kernel_rfl) (by kernel_rfl) (by kernel_rfl) HC.out rfl (fun x => ?_) ?_; rotate_left; (focus (simp [go_sem]; (try go_ints); first | done | (with_reducible rfl))); (simp only [Act.put, List.setIfInBounds_toArray, List.set_cons_succ, List.set_cons_zero]))
    (refine wpAnyC_free 33 (oi := ⟨some 104, _, _, _, _, _⟩) (v := ?_) rfl (by kernel_rfl) (by kernel_rfl) (by kernel_rfl) HC.out rfl (fun x => ?_) ?_; rotate_left; (focus (simp [go_sem]; (try go_ints); first | done | (with_reducible rfl))); (simp only [Act.put, List.setIfInBounds_toArray, List.set_cons_succ, List.set_cons_zero]))
    (refine wpAnyC_free 34 (oi := ⟨some 105, _, _, _, _, _⟩) (v := ?_) rfl (by kernel_rfl) (by kernel_rfl) (by kernel_rfl) HC.out rfl (fun x => ?_) ?_; rotate_left; (focus (simp [go_sem]; (try go_ints); first | done | (with_reducible rfl))); (simp only [Act.put, List.setIfInBounds_toArray, List.set_cons_succ, List.set_cons_zero]))
    (refine wpAnyC_free 35 (oi := ⟨some 106, _, _, _, _, _⟩) (v := ?_) rfl (by kernel_rfl) (by kernel_rfl) (by kernel_rfl) HC.out rfl (fun x => ?_) ?_; rotate_left; (focus (simp [go_sem]; (try go_ints); first | done | (with_reducible rfl))); (simp only [Act.put, List.setIfInBounds_toArray, List.set_cons_succ, List.set_cons_zero]))
    (refine wpAnyC_free 36 (oi := ⟨some 107, _, _, _, _, _⟩) (v := ?_) rfl (by kernel_rfl) (by kernel_rfl) (by kernel_rfl) HC.out rfl (fun x => ?_) ?_; rotate_left; (focus (simp [go_sem]; (try go_ints); first | done | (with_reducible rfl))); (simp only [Act.put, List.setIfInBounds_toArray, List.set_cons_succ, List.set_cons_zero]))
    (refine wpAnyC_free 37 (oi := ⟨some 108, _, _, _, _, _⟩) (v := ?_) rfl (by kernel_rfl) (by kernel_rfl) (by kernel_rfl) HC.out rfl (fun x => ?_) ?_; rotate_left; (focus (simp [go_sem]; (try go_ints); first | done | (with_reducible rfl))); (simp only [Act.put, List.setIfInBounds_toArray, List.set_cons_succ, List.set_cons_zero]))
    (refine wpAnyC_free 38 (oi := ⟨some 109, _, _, _, _, _⟩) (v := ?_) rfl (by kernel_rfl) (by kernel_rfl) (by kernel_rfl) HC.out rfl (fun x => ?_) ?_; rotate_left; (focus (simp [go_sem]; (try go_ints); first | done | (with_reducible rfl))); (simp only [Act.put, List.setIfInBounds_toArray, List.set_cons_succ, List.set_cons_zero]))
    (refine wpAnyC_free 39 (oi := ⟨some 110, _, _, _, _, _⟩) (v := ?_) rfl (by kernel_rfl) (by kernel_rfl) (by kernel_rfl) HC.out rfl (fun x => ?_) ?_; rotate_left; (focus (simp [go_sem]; (try go_ints); first | done | (with_reducible rfl))); (simp only [Act.put, List.setIfInBounds_toArray, List.set_cons_succ, List.set_cons_zero]))
    (refine wpAnyC_free 40 (oi := ⟨some 111, _, _, _, _, _⟩) (v := ?_) rfl (by kernel_rfl) (by kernel_rfl) (by kernel_rfl) HC.out rfl (fun x => ?_) ?_; rotate_left; (focus (simp [go_sem]; (try go_ints); first | done | (with_reducible rfl))); (simp only [Act.put, List.setIfInBounds_toArray, List.set_cons_succ, List.set_cons_zero]))
    (refine wpAnyC_free 41 (oi := ⟨some 112, _, _, _, _, _⟩) (v := ?_) rfl (by kernel_rfl) (by kernel_rfl) (by kernel_rfl) HC.out rfl (fun x => ?_) ?_; rotate_left; (focus (simp [go_sem]; (try go_ints); first | done | (with_reducible rfl))); (simp only [Act.put, List.setIfInBounds_toArray, List.set_cons_succ, List.set_cons_zero]))
    (refine wpAnyC_free 42 (oi := ⟨some 113, _, _, _, _, _⟩) (v := ?_) rfl (by kernel_rfl) (by kernel_rfl) (by kernel_rfl) HC.out rfl (fun x => ?_) ?_; rotate_left; (focus (simp [go_sem]; (try go_ints); first | done | (with_reducible rfl))); (simp only [Act.put, List.setIfInBounds_toArray, List.set_cons_succ, List.set_cons_zero]))
    refine wpAnyC_step 43 (o := ⟨some 114, _, _, _, _, _⟩) rfl (by kernel_rfl) rfl ?_
    refine wpList_callR rfl _ _ (fun v w' => v = .bool true ∧ Grew W w') (by simp [go_sem]) ((HHa.out _ HGc.out).mono fun e w' ⟨h1, h2⟩ => ⟨_, h1, rfl, Grew.trans HGc.out h2⟩) ?_
    rintro v wd ⟨rfl, hG⟩
    have HGc := Lib.hid hG
    have HC : Hid (Cl8 W b0 wd) := Lib.hid (.inl HGc.out)
    clear hG
    (simp only [Act.put, List.setIfInBounds_toArray, List.set_cons_succ, List.set_cons_zero])
    refine wpList_nil ⟨rfl, HC.out, ?_⟩
    (refine wpAnyC_free 44 (oi := ⟨some 115, _, _, _, _, _⟩) (v := ?_) rfl (by kernel_rfl) (by kernel_rfl) (by kernel_rfl) HC.out rfl (fun x => ?_) ?_; rotate_left; (focus (simp [go_sem]; (try go_ints); first | done | (with_reducible rfl))); (simp only [Act.put, List.setIfInBounds_toArray, List.set_cons_succ, List.set_cons_zero]))
    (refine wpAnyC_free 45 (oi := ⟨some 116, _, _, _, _, _⟩) (v := ?_) rfl (by kernel_rfl) (by kernel_rfl) (by kernel_rfl) HC.out rfl (fun x => ?_) ?_; rotate_left; (focus (simp [go_sem]; (try go_ints); first | done | (with_reducible rfl))); (simp only [Act.put, List.setIfInBounds_toArray, List.set_cons_succ, List.set_cons_zero]))
    (refine wpAnyC_free 46 (oi := ⟨some 117, _, _, _, _, _⟩) (v := ?_) rfl (by kernel_rfl) (by kernel_rfl) (by kernel_rfl) HC.out rfl (fun x => ?_) ?_; rotate_left; (focus (simp [go_sem]; (try go_ints); first | done | (with_reducible rfl))); (simp only [Act.put, List.setIfInBounds_toArray, List.set_cons_succ, List.set_cons_zero]))
    refine wpAnyC_step 47 (o := ⟨some 118, _, _, _, _, _⟩) rfl (by kernel_rfl) rfl ?_
    refine wpList_callR rfl _ _ (fun v w' => v = .bool true ∧ Grew W w') (by simp [go_sem]) ((HHb.out _ HGc.out).mono fun e w' ⟨h1, h2⟩ => ⟨_, h1, rfl, Grew.trans HGc.out h2⟩) ?_
    rintro v we ⟨rfl, hG⟩
    have HGc := Lib.hid hG
    have HC : Hid (Cl8 W b0 we) := Lib.hid (.inl HGc.out)
    clear hG
    (simp only [Act.put, List.setIfInBounds_toArray, List.set_cons_succ, List.set_cons_zero])
    refine wpList_nil ⟨rfl, HC.out, ?_⟩
    (refine wpAnyC_free 48 (oi := ⟨some 119, _, _, _, _, _⟩) (v := ?_) rfl (by kernel_rfl) (by kernel_rfl) (by kernel_rfl) HC.out rfl (fun x => ?_) ?_; rotate_left; (focus (simp [go_sem]; (try go_ints); first | done | (with_reducible rfl))); (simp only [Act.put, List.setIfInBounds_toArray, List.set_cons_succ, List.set_cons_zero]))
    have HB0e := Lib.hid (boxed_grew HB0W.out HGc.out)
    refine wpAnyC_step 49 (o := ⟨none, _, _, _, _, _⟩) rfl (by kernel_rfl) rfl ?_
    refine wpList_storeB rfl (.tmp 0) (.tmp 119) rfl b0 0 true (.bool false) rfl rfl HB0e.out.cell HB0e.out.frozen ?_
    (simp only [Act.put])
    refine wpList_nil ⟨rfl, .inr ⟨we, HGc.out, rfl⟩, ?_⟩
    refine wpAnyC_done (by kernel_rfl) (fun _ => ?_) _
    clear hqq
    have HB1 := Lib.hid (HB0e.out.set (.bool true))
    have HGt := Lib.hid (Below.setCell (p := ⟨b0, 0, none⟩) (show Below w.heap.size w we from Grew.trans (Grew.trans (Grew.trans HG1.out HG4.out) HGW.out) HGc.out) (by rw [← HBB.out]; exact Nat.le_refl _) (.bool true))
    go_wp2_with fail
    refine postM_retC (v := .bool true) (D := w13.heap.size) (W := we.setCell ⟨b0, 0, none⟩ (.bool true)) (Marks.apart (E := 0) HM.out ((KeepsOthers.grew HGc.out).trans (KeepsOthers.setCell _ _ _))) (by have h1 := HSZ.out; have h2 := HGc.out.size; simp; omega) fun W' ha => ?_
    have hc := load_boxb8 (ha.boxed HB1.out).cell
    exact ⟨by simp [results, Try.results28, asAddr, hc], rfl, ha.kept HGt.out (Nat.le_trans HG1.out.size (Nat.le_trans HG4.out.size HGr13.out.size))⟩
  case stop =>
    rintro D c pre W _ _ hp h _
    refine absurd (fun x hx => ?_) h
    exact smp8_key x (hp.subset hx)
end Go.Proofs.Ytkkeodfoiffofaa
