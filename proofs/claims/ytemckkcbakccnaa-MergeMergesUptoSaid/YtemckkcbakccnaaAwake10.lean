/- What the document tells of the sample, chapter 10. -/
import Derived.Test.YtemckkcbakccnaaMrgMerge
import Derived.Test.YtemckkcbakccnaaMrgThin
import Derived.Test.YtemckkcbakccnaaMrgSeen
import Derived.Test.YtemckkcbakccnaaValIter
namespace Go.Proofs.Ytemckkcbakccnaa
open Go.RowKit
set_option linter.unusedVariables false
attribute [local go_sem] Oper.semAt_some
open SrtP
theorem load_boxb {W : World} {b : Nat} {v : Value} (h : W.cell? ⟨b, 0, none⟩ = some v) : (loadVar 4 ⟨b, 0, none⟩).run Try.prog W = .ok v W := by
  simp [loadVar, isAgg, Sem.run_bind, run_underlying Try.underlying4 W, h]
def smp : List It := [⟨[97], 5, true, []⟩, ⟨[97], 3, false, [120]⟩, ⟨[97], 1, false, [121]⟩, ⟨[98], 2, false, [122]⟩]
theorem LRowI.build (w : World) (e : TypeId) (fr : Nat × Nat) (C : Array Value) (ll : List (List It)) (hC : ∀ (i : Nat) (l : List It), ll[i]? = some l → ∃ A c, C[i]? = some (.slice A l.length c) ∧ Is w w.heap.size A l.length c l) :
    LRowI (w.alloc (.cells C e fr)) (w.alloc (.cells C e fr)).heap.size (some ⟨w.heap.size, 0, none⟩) ll := by
  intro i l hil
  obtain ⟨A, c, h1, h2⟩ := hC i l hil
  refine ⟨_, A, c, rfl, by simp, ?_, (h2.below (grew_new w _)).more (by simp)⟩
  rw [add_off, cell_blk (heap_alloc_new w _), Nat.zero_add]
  exact h1
set_option maxHeartbeats 1000000 in
theorem sample_is (w : World) : Calls Try.prog 12 #[] w fun e w' => ∃ A, e = .returned (.slice A 4 4) ∧ OwnI w' w.heap.size A 4 4 smp ∧ Grew w w' := by
  have HO : Hid (OwnI (w.alloc (.cells (itvs smp).toArray 29)) w.heap.size (some ⟨w.heap.size, 0, none⟩) 4 4 smp) := Lib.hid
    (Own.made w (itvs smp).toArray _ (0, 0) 4 4 4 (itvs smp) (Nat.le_refl _) rfl (Nat.le_refl _) (by unfold maxLen; omega) (by decide) (.inr rfl) (fun j u hu => by simpa using hu))
  go_enter Try.func12, Try.ntmps12
  go_wp2_with fail
  go_ret
  exact ⟨_, rfl, HO.out, grew_new w _⟩
theorem run_buildL2 (u v : Value) (hu : ∃ A n c, u = .slice A n c) (hv : ∃ A n c, v = .slice A n c) (w : World) : (Instr.buildSlice 30 2 #[(0, u), (1, v)]).run Try.prog w = .ok (.slice (some ⟨w.heap.size, 0, none⟩) 2 2) (w.alloc (.cells #[u, v] 23)) := by
  obtain ⟨_, _, _, rfl⟩ := hu
  obtain ⟨_, _, _, rfl⟩ := hv
  kernel_rfl
theorem exec_buildL2 {o : Oper} {ev : Operand → Value} (x y : Operand) {A1 A2 : Option Addr} {n1 c1 n2 c2 : Nat} (ho : o.op = .buildSlice 30 2 #[(0, x), (1, y)]) (hx : ev x = .slice A1 n1 c1) (hy : ev y = .slice A2 n2 c2) (w : World) :
    (execOp ev o).run Try.prog w = .ok (.value (.slice (some ⟨w.heap.size, 0, none⟩) 2 2)) (w.alloc (.cells #[.slice A1 n1 c1, .slice A2 n2 c2] 23)) := by
  unfold execOp
  simp only [ho, List.map_toArray, List.map_cons, List.map_nil, hx, hy, Sem.run_bind, run_buildL2 _ _ ⟨_, _, _, rfl⟩ ⟨_, _, _, rfl⟩, Result.andThen_ok, Sem.run_pure]
theorem walk_all : MrgP.mergeL [smp] = smp := by decide +kernel
theorem merge_two : MrgP.mergeL [smp.take 2, smp.drop 1] = smp ∧ MrgP.mergeE [smp.take 2, smp.drop 1] = 0 := by decide +kernel
theorem seen_four : (MrgP.seen smp 4).length = 2 := by decide +kernel
theorem seen_nine : (MrgP.seen smp 9).length = 1 := by decide +kernel
theorem thin_all1 : (MrgP.thin smp [] false).length = 2 := by decide +kernel
theorem thin_all2 : (MrgP.thin smp [] true).length = 1 := by decide +kernel
theorem thin_all3 : (MrgP.thin smp [3] true).length = 3 := by decide +kernel
set_option maxRecDepth 100000 in
set_option maxHeartbeats 2000000 in
theorem awake10 (w : World) : Calls Try.prog 9 #[] w fun e w' => e = .returned (.bool true) ∧ Below w.heap.size w w' := by
  obtain ⟨w1, hw1⟩ : ∃ W, W = w.alloc (.cells #[.bool false] 4) := ⟨_, rfl⟩
  obtain ⟨b0, hb0⟩ : ∃ b, b = w.heap.size := ⟨_, rfl⟩
  have HB0 := Lib.hid (show Boxed w1 b0 4 (.bool false) by rw [hw1, hb0]; exact Boxed.new w _ _)
  have HG1 := Lib.hid (show Grew w w1 by rw [hw1]; exact grew_new w _)
  have HSa := Lib.hid (fun W => sample_is W)
  have HW1 := Lib.hid (And.intro hw1 hb0)
  have HBB := Lib.hid hb0
  clear hw1 hb0
  have hfn : ∀ (f : Nat) (A : Array Value) (W : World), (binOp .eql 36 (.func (.func f) #[] A) .nilFunc).run Try.prog W = .ok (.bool false) W := fun f A W => by kernel_rfl
  refine calls_marks Try.func9 rfl ?_
  simp only [Try.ntmps9, List.size_toArray, List.length_nil, Nat.reduceSub, Array.replicate_succ, Array.replicate_zero, List.push_toArray, List.append_toArray, List.nil_append, List.cons_append]
  go_upto_region 1 with fail
  rw [← HW1.out.1, ← HW1.out.2]
  clear HW1
  go_upto_region 4 with (first
    | (go_at_call 12; ((with_reducible refine (HSa.out _).mono ?_); rintro e w2 ⟨A1, rfl, hO, hG⟩; have HO2 := Lib.hid hO; have HG2 := Lib.hid hG; clear hO hG))
    | (go_at_call 15; ((refine (mrg_walk (some ⟨w2.heap.size, 0, none⟩) 1 1 [smp] (w2.alloc (.cells #[.slice A1 4 4] 23)) (LRowI.build w2 _ _ _ [smp] (fun i l h => by
        rcases i with _ | i
        · cases h
          exact ⟨A1, 4, rfl, HO2.out.is (Nat.le_refl _)⟩
        · simp at h)) rfl (by omega) (by decide)).mono ?_); rintro e w4 ⟨bs, A4, n4, c4, rfl, hbs, hBx, hO, hB⟩; have HBS := Lib.hid hbs; have HBX := Lib.hid hBx; have HO4 := Lib.hid hO; have HG4 := Lib.hid (show Grew w1 w4 from HG2.out.trans ((grew_new w2 _).trans hB)); clear hbs hBx hO hB)))
  -- REST
  obtain ⟨w5, hw5⟩ : ∃ W, W = w4.alloc (.cells #[.int .i64 0] 3) := ⟨_, rfl⟩
  obtain ⟨b2, hb2⟩ : ∃ b, b = w4.heap.size := ⟨_, rfl⟩
  have HG45 := Lib.hid (show Grew w4 w5 by rw [hw5]; exact grew_new w4 _)
  have HB2 := Lib.hid (show Boxed w5 b2 3 (.int .i64 0) by rw [hw5, hb2]; exact Boxed.new w4 _ _)
  have HG5 := Lib.hid (HG4.out.trans HG45.out)
  have HB05 := Lib.hid (hBx2 HB0.out HG5.out)
  have hO5 := HO4.out.below_all HG45.out
  rw [walk_all] at hO5
  have HGV := Lib.hid (values1_gives bs n4 c4 A4 smp w5 (hBx2 HBX.out HG45.out).cell (hO5.is (Nat.le_refl _)))
  have HKD : Hid (∀ g, keepsvalues1 bs A4 smp g → g ≠ b2) := Lib.hid fun g hg e => by
    have h1 := HBX.out.lt
    rcases hg with hg | ⟨_, hg⟩
    · omega
    · have := (Own.lt HO4.out g hg).2
      omega
  have HL2 := Lib.hid (show w1.heap.size ≤ b2 ∧ b2 < w5.heap.size by rw [hb2]; exact ⟨HG4.out.size, by rw [hw5]; simp⟩)
  have HL0 := Lib.hid (show b0 < b2 by rw [hb2]; exact (hBx2 HB0.out HG4.out).lt)
  go_upto_region 5 with fail
  rw [← hw5, ← hb2]
  clear hw5 hb2 hO5 HO4 HBX HBS HG45 HO2 HG2 HG4 HB0
  have HS4 : Hid (∀ (W : World) (A : Option Addr), Is W W.heap.size A 4 4 smp → Calls Try.prog 11 #[.slice A 4 4, .int .u64 4] W fun e w' => ∃ A' c', e = .returned (.slice A' 2 c') ∧ Grew W w') := Lib.hid fun W A h => (mrg_seen A 4 4 smp 4 W h (by decide) (by omega)).mono fun e w' ⟨A', n', c', h1, h2, h3⟩ => ⟨A', c', by have := h2.len; rw [seen_four] at this; rw [h1, this], h3⟩
  have HS9 : Hid (∀ (W : World) (A : Option Addr), Is W W.heap.size A 4 4 smp → Calls Try.prog 11 #[.slice A 4 4, .int .u64 9] W fun e w' => ∃ A' c', e = .returned (.slice A' 1 c') ∧ Grew W w') := Lib.hid fun W A h => (mrg_seen A 4 4 smp 9 W h (by decide) (by omega)).mono fun e w' ⟨A', n', c', h1, h2, h3⟩ => ⟨A', c', by have := h2.len; rw [seen_nine] at this; rw [h1, this], h3⟩
  have HT1 : Hid (∀ (W : World) (A : Option Addr), Is W W.heap.size A 4 4 smp → Calls Try.prog 13 #[.slice A 4 4, .slice none 0 0, .bool false] W fun e w' => ∃ A' c', e = .returned (.slice A' 2 c') ∧ Grew W w') := Lib.hid fun W A h => (mrg_thin A none 4 4 0 0 smp [] false W h (Ns.nil _ _) (by omega) (by omega)).mono fun e w' ⟨A', n', c', h1, h2, h3⟩ => ⟨A', c', by have := h2.len; rw [thin_all1] at this; rw [h1, this], h3⟩
  have HT2 : Hid (∀ (W : World) (A : Option Addr), Is W W.heap.size A 4 4 smp → Calls Try.prog 13 #[.slice A 4 4, .slice none 0 0, .bool true] W fun e w' => ∃ A' c', e = .returned (.slice A' 1 c') ∧ Grew W w') := Lib.hid fun W A h => (mrg_thin A none 4 4 0 0 smp [] true W h (Ns.nil _ _) (by omega) (by omega)).mono fun e w' ⟨A', n', c', h1, h2, h3⟩ => ⟨A', c', by have := h2.len; rw [thin_all2] at this; rw [h1, this], h3⟩
  have HT3 : Hid (∀ (W : World) (A : Option Addr), OwnI W W.heap.size A 4 4 smp ∨ True → True) := Lib.hid fun _ _ _ => trivial
  have HT3 : Hid (∀ {base : Nat} (W : World) (A : Option Addr), OwnI W base A 4 4 smp → Calls Try.prog 13 #[.slice A 4 4, .slice (some ⟨W.heap.size, 0, none⟩) 1 1, .bool true] (W.alloc (.cells #[.int .u64 3] 27)) fun e w' => ∃ A' c', e = .returned (.slice A' 3 c') ∧ Grew W w') := Lib.hid fun W A h => (mrg_thin A (some ⟨W.heap.size, 0, none⟩) 4 4 1 1 smp [3] true (W.alloc (.cells #[.int .u64 3] 27)) ((h.alloc _).is (Nat.le_refl _)) ⟨rfl, Nat.le_refl _, by unfold maxLen; omega, by have := URow.one W 3 27 (0, 0); exact this.more (by simp)⟩ (by omega) (by omega)).mono fun e w' ⟨A', n', c', h1, h2, h3⟩ => ⟨A', c', by have := h2.len; rw [thin_all3] at this; rw [h1, this], (grew_new W _).trans h3⟩
  go_wp2_with fail
  refine wp_rangeIz 12 3 (gf := 42) (lb := #[.pointer (some ⟨bs, 0, none⟩)]) (K := keepsvalues1 bs A4 smp) (xs := smp) rfl (enters_of Try.func42 (by kernel_rfl) rfl) HGV.out.1 HGV.out.2
    (fun pre W => (∀ x ∈ pre, x.key ≠ []) ∧ Boxed W b2 3 (.int .i64 (pre.length : Int)) ∧ Boxed W b0 4 (.bool false) ∧ Grew w1 W) (fun _ pre _ => ¬ ∀ x ∈ pre, x.key ≠ [])
    (fun s W W' h _ ha => ⟨h.1, ha.boxed h.2.1, ha.boxed h.2.2.1, ha.kept h.2.2.2 HG5.out.size⟩) (fun _ _ _ _ h _ _ => h) ⟨by simp, HB2.out, HB05.out, HG5.out⟩ ?assign ?body ?done ?stop
  case assign =>
    intro l x W K' hK
    gi_wp2
    exact hK
  case body =>
    rintro l pre x b W ⟨hk, hBn, hB0, hG⟩ hsz hIb hb hlen
    obtain ⟨q0, q1, q2, q3⟩ := range_cells hIb.range
    have cn := hBn.cell
    have c0 := hB0.cell
    have hp1 : pre.length < 4 := hlen
    have HK := Lib.hid hk
    have HBn1 := Lib.hid hBn
    have HB01 := Lib.hid hB0
    have HGr := Lib.hid hG
    clear hIb hk hBn hB0 hG
    simp only [actI, List.setIfInBounds_toArray, List.set_cons_zero, List.set_cons_succ]
    have fn := HBn1.out.frozen
    have f0 := HB01.out.frozen
    by_cases hx : x.key = []
    · have HX := Lib.hid hx
      rw [hx] at q0
      clear hx
      gi_wp2
      exact ⟨KeepsOthers.setCell _ _ _, fun h => h x (by simp) HX.out⟩
    · have hkb : (x.key == []) = false := by simpa using hx
      have HX := Lib.hid hx
      gi_wp2
      exact ⟨KeepsOthers.setCell _ _ _, KeepSet.setCell _ _ _ fun hk => HKD.out _ hk rfl, fun y hy => by
        rcases List.mem_append.1 hy with hy | hy
        · exact HK.out y hy
        · simp at hy; rw [hy]; exact HX.out, by simpa using HBn1.out.set (.int .i64 ((pre.length : Int) + 1)), (Below.heap_setCell _ _ _ _ (by have := HL0.out; simp; omega)).trans HB01.out, HGr.out.setCell HL2.out.1 _⟩
  case done =>
    rintro D W hD hsz ⟨hk, hBn, hB0, hG⟩ hd'
    have HB2W := Lib.hid (show Boxed W b2 3 (.int .i64 4) from hBn)
    have HB0W := Lib.hid hB0
    have HGW := Lib.hid hG
    have HM := Lib.hid ((Marks.nil w5.heap.size W).cons hD hd' (fun m h => by cases h))
    have HSZ := Lib.hid hsz
    clear hk hBn hB0 hG hd' hD hsz
    go_upto_region 10 with fail
    refine wp_region_c (fun V => Grew W V) (by kernel_rfl) (Grew.drewN W 1) ?_
    have HC := Lib.hid (Grew.drewN W 1)
    change wpAnyC _ _ _ _ _ _ _ _ (World.drewN W 1)
    refine wpAnyC_step 0 (o := ⟨some 19, _, _, _, _, _⟩) rfl (by kernel_rfl) rfl ?_
    refine wpList_callR rfl 12 #[] (fun v w' => ∃ A, v = .slice A 4 4 ∧ OwnI w' W.heap.size A 4 4 smp ∧ Grew (World.drewN W 1) w') (by simp [go_sem]) ((sample_is _).mono fun e w' ⟨A, e1, h1, h2⟩ => ⟨_, e1, A, rfl, Own.lower h1 HC.out.size, h2⟩) ?_
    rintro v wa ⟨A19, rfl, hO, hG⟩
    have HO19 := Lib.hid hO
    have HG19 := Lib.hid hG
    have HC := Lib.hid (show Grew W wa from Grew.trans HC.out hG)
    clear hO hG
    (simp only [Act.put, List.setIfInBounds_toArray, List.set_cons_succ, List.set_cons_zero])
    refine wpList_nil ⟨rfl, HC.out, ?_⟩
    refine wpAnyC_free 1 (oi := ⟨some 20, _, _, _, _, _⟩) (.slice A19 2 4) rfl (by kernel_rfl) (by kernel_rfl) (by kernel_rfl) HC.out rfl (fun V => exec_toI (A := A19) (n := 4) (c := 4) (hi := 2) (.tmp 19) (.const (.int .i64 2)) rfl rfl rfl (by omega) (by omega) (by unfold maxLen; omega) V.1) ?_
    (simp only [Act.put, List.setIfInBounds_toArray, List.set_cons_succ, List.set_cons_zero])
    refine wpAnyC_step 2 (o := ⟨some 21, _, _, _, _, _⟩) rfl (by kernel_rfl) rfl ?_
    refine wpList_callR rfl 12 #[] (fun v w' => ∃ A, v = .slice A 4 4 ∧ OwnI w' W.heap.size A 4 4 smp ∧ Grew wa w') (by simp [go_sem]) ((sample_is _).mono fun e w' ⟨A, e1, h1, h2⟩ => ⟨_, e1, A, rfl, Own.lower h1 HC.out.size, h2⟩) ?_
    rintro v wb ⟨A21, rfl, hO, hG⟩
    have HO21 := Lib.hid hO
    have HG21 := Lib.hid hG
    have HC := Lib.hid (show Grew W wb from Grew.trans HC.out hG)
    clear hO hG
    (simp only [Act.put, List.setIfInBounds_toArray, List.set_cons_succ, List.set_cons_zero])
    refine wpList_nil ⟨rfl, HC.out, ?_⟩
    have HP19 := Lib.hid (HO19.out.below_all HG21.out)
    have HP21 := Lib.hid HO21.out
    refine wpAnyC_free 3 (oi := ⟨some 22, _, _, _, _, _⟩) (.slice (cutI A21 1 4) 3 3) rfl (by kernel_rfl) (by kernel_rfl) (by kernel_rfl) HC.out rfl (fun V => exec_fromI (A := A21) (n := 4) (c := 4) (lo := 1) (.tmp 21) (.const (.int .i64 1)) rfl rfl rfl (by omega) (by omega) (by unfold maxLen; omega) V.1) ?_
    (simp only [Act.put, List.setIfInBounds_toArray, List.set_cons_succ, List.set_cons_zero])
    refine wpAnyC_step 4 (o := ⟨some 23, _, _, _, _, _⟩) rfl (by kernel_rfl) rfl ?_
    refine wpList_value (o := ⟨some 23, _, _, _, _, _⟩) rfl (exec_buildL2 (.tmp 20) (.tmp 22) rfl rfl rfl wb) ?_
    obtain ⟨wc, hwc⟩ : ∃ V, V = wb.alloc (.cells #[.slice A19 2 4, .slice (cutI A21 1 4) 3 3] 23) := ⟨_, rfl⟩
    obtain ⟨bl, hbl⟩ : ∃ b, b = wb.heap.size := ⟨_, rfl⟩
    have HLR := Lib.hid (show LRowI wc wc.heap.size (some ⟨bl, 0, none⟩) [smp.take 2, smp.drop 1] by
      rw [hwc, hbl]
      refine LRowI.build wb _ _ _ _ (fun i l h => ?_)
      rcases i with _ | _ | i
      · cases h
        exact ⟨A19, 4, rfl, (HP19.out.is (Nat.le_refl _)).to 2 (by omega)⟩
      · cases h
        exact ⟨cutI A21 1 4, 3, rfl, (HP21.out.is (Nat.le_refl _)).from_ 1 (by omega)⟩
      · simp at h)
    have HC := Lib.hid (show Grew W wc by rw [hwc]; exact Grew.trans HC.out (grew_new wb _))
    rw [← hwc, ← hbl]
    clear hwc hbl
    (simp only [Act.put, List.setIfInBounds_toArray, List.set_cons_succ, List.set_cons_zero])
    refine wpList_nil ⟨rfl, HC.out, ?_⟩
    refine wpAnyC_step 5 (o := ⟨some 24, _, _, _, _, _⟩) rfl (by kernel_rfl) rfl ?_
    refine wpList_callR rfl 10 #[.slice (some ⟨bl, 0, none⟩) 2 2] (fun v w' => ∃ A c, v = .tuple #[.slice A 4 c, .int .i64 0] ∧ OwnI w' W.heap.size A 4 c smp ∧ Grew wc w') (by simp [go_sem]) ((mrg_merge _ 2 2 _ wc HLR.out rfl (by omega) (by decide)).mono fun e w' ⟨A, n, c, e1, h1, h2⟩ => ?_) ?_
    · rw [merge_two.1] at h1
      rw [merge_two.2] at e1
      obtain rfl : n = 4 := by have := h1.len; exact this.symm
      exact ⟨_, e1, A, c, rfl, Own.lower h1 HC.out.size, h2⟩
    rintro v wd ⟨AM, cM, rfl, hO, hG⟩
    have HOM := Lib.hid hO
    have HC := Lib.hid (show Grew W wd from Grew.trans HC.out hG)
    clear hO hG
    (simp only [Act.put, List.setIfInBounds_toArray, List.set_cons_succ, List.set_cons_zero])
    refine wpList_nil ⟨rfl, HC.out, ?_⟩
    (refine wpAnyC_free 6 (oi := ⟨some 18, _, _, _, _, _⟩) (v := ?_) rfl (by kernel_rfl) (by kernel_rfl) (by kernel_rfl) HC.out rfl (fun x => ?_) ?_; rotate_left; (focus (simp [go_sem]; (try go_ints); first | done | (with_reducible rfl))); (simp only [Act.put, List.setIfInBounds_toArray, List.set_cons_succ, List.set_cons_zero]))
    (refine wpAnyC_free 7 (oi := ⟨some 25, _, _, _, _, _⟩) (v := ?_) rfl (by kernel_rfl) (by kernel_rfl) (by kernel_rfl) HC.out rfl (fun x => ?_) ?_; rotate_left; (focus (simp [go_sem]; (try go_ints); first | done | (with_reducible rfl))); (simp only [Act.put, List.setIfInBounds_toArray, List.set_cons_succ, List.set_cons_zero]))
    (refine wpAnyC_free 8 (oi := ⟨some 26, _, _, _, _, _⟩) (v := ?_) rfl (by kernel_rfl) (by kernel_rfl) (by kernel_rfl) HC.out rfl (fun x => ?_) ?_; rotate_left; (focus (simp [go_sem]; (try go_ints); first | done | (with_reducible rfl))); (simp only [Act.put, List.setIfInBounds_toArray, List.set_cons_succ, List.set_cons_zero]))
    (refine wpAnyC_free 9 (oi := ⟨some 4, _, _, _, _, _⟩) (v := ?_) rfl (by kernel_rfl) (by kernel_rfl) (by kernel_rfl) HC.out rfl (fun x => ?_) ?_; rotate_left; (focus (simp [go_sem]; (try go_ints); first | done | (with_reducible rfl))); (simp only [Act.put, List.setIfInBounds_toArray, List.set_cons_succ, List.set_cons_zero]))
    (refine wpAnyC_free 10 (oi := ⟨some 5, _, _, _, _, _⟩) (v := ?_) rfl (by kernel_rfl) (by kernel_rfl) (by kernel_rfl) HC.out rfl (fun x => ?_) ?_; rotate_left; (focus (simp [go_sem]; (try go_ints); first | done | (with_reducible rfl))); (simp only [Act.put, List.setIfInBounds_toArray, List.set_cons_succ, List.set_cons_zero]))
    refine wpAnyC_done (by kernel_rfl) (fun _ => ?_) _
    have HGr := Lib.hid (Grew.refl wd)
    have cn := (hBx2 HB2W.out HC.out).cell
    have HB0d := Lib.hid (hBx2 HB0W.out HC.out)
    go_wp2_with (first
      | (go_at_call 12; ((with_reducible refine (HSa.out _).mono ?_); rintro e wS ⟨AS, rfl, hO, hG⟩; have HOS := Lib.hid hO; have HGr := Lib.hid (Grew.trans HGr.out hG); clear hO hG))
      | (go_at_call 16; ((refine (ref_same AM AS 4 cM 4 4 smp smp wS ((HOM.out.below_all HGr.out).is (Nat.le_refl _)) (HOS.out.is (Nat.le_refl _))).mono ?_); rintro e wT ⟨he, hG⟩; (obtain rfl := he.trans (by rw [decide_eq_true rfl] : _ = Ending.returned (.bool true))); have HGr := Lib.hid (Grew.trans HGr.out hG); clear hG he))
      | (go_at_call 11; ((first | (with_reducible refine (HS4.out _ _ (HOS.out.is (Nat.le_refl _))).mono ?_) | (with_reducible refine (HS9.out _ _ (HOS.out.is (Nat.le_refl _))).mono ?_)); rintro e wT ⟨AT, cT, rfl, hG⟩; have HGr := Lib.hid (Grew.trans HGr.out hG); clear hG))
      | (go_at_call 13; ((first | (with_reducible refine (HT1.out _ _ (HOS.out.is (Nat.le_refl _))).mono ?_) | (with_reducible refine (HT2.out _ _ (HOS.out.is (Nat.le_refl _))).mono ?_)); rintro e wT ⟨AT, cT, rfl, hG⟩; have HGr := Lib.hid (Grew.trans HGr.out hG); clear hG))
      | (go_at_call 13; ((with_reducible refine (HT3.out wS _ HOS.out).mono ?_); rintro e wT ⟨AT, cT, rfl, hG⟩; have HGr := Lib.hid (Grew.trans HGr.out hG); have HB0t := Lib.hid (hBx2 HB0d.out HGr.out); have c0 := HB0t.out.cell; have f0 := HB0t.out.frozen; clear hG)))
    have HB1 := Lib.hid (HB0t.out.set (.bool true))
    have HGt := Lib.hid (Below.setCell (p := ⟨b0, 0, none⟩) (show Below w.heap.size w wT from HG1.out.trans ((HGW.out.trans HC.out).trans HGr.out)) (by rw [← HBB.out]; exact Nat.le_refl _) (.bool true))
    refine postM_retC (v := .bool true) (D := w5.heap.size) (W := wT.setCell ⟨b0, 0, none⟩ (.bool true)) (Marks.apart (E := 0) HM.out ((KeepsOthers.grew (HC.out.trans HGr.out)).trans (KeepsOthers.setCell _ _ _))) (by have h1 := HSZ.out; have h2 := HC.out.size; have h3 := HGr.out.size; simp; omega) fun W' ha => ?_
    have hc := load_boxb (ha.boxed HB1.out).cell
    exact ⟨by simp [results, Try.results9, asAddr, hc], rfl, ha.kept HGt.out (Nat.le_trans HG1.out.size HG5.out.size)⟩
  case stop =>
    rintro D c pre W _ _ hp h _
    refine absurd (fun x hx => ?_) h
    have hx2 := hp.subset hx
    revert hx2
    have : ∀ y ∈ smp, y.key ≠ [] := by decide
    exact this x
end Go.Proofs.Ytemckkcbakccnaa
