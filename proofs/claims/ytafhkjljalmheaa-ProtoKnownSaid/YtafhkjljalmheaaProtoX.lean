/- The writer's events: one that may be, and nine that are too many. -/
import Derived.Test.YtafhkjljalmheaaProtoV2
namespace Go.Proofs.Ytafhkjljalmheaa
open Go.RowKit
set_option linter.unusedVariables false
theorem exec_str8 {o : Oper} {ev : Operand → Value} (X : Operand) (ho : o.op = .convert 25 9 X) {A : Option Addr} {n c B : Nat} {l : List UInt8} (hX : ev X = .slice A n c) (hn : l.length = n) (W : World) (hr : Row W B A (l.map b8)) : (execOp ev o).run Try.prog W = .ok (.value (.string ⟨l.toArray⟩)) W := by
  have := Row.toBytes (P := Try.prog) (c := c) 25 9 5 Try.underlying25 Try.underlying5 Try.underlying9 hn hr
  unfold execOp
  simp only [ho, hX, Sem.run_bind, this, Result.andThen_ok, Sem.run_pure]
theorem exec_loadSl {o : Oper} {a : Act} {w : World} {g k n c : Nat} {A : Option Addr} (X : Operand) (ho : o.op = .load 25 X) (hx : a.eval X = .pointer (some ⟨g, k, none⟩)) (h : w.cell? ⟨g, k, none⟩ = some (.slice A n c)) : (execOp a.eval o).run Try.prog w = .ok (.value (.slice A n c)) w := by
  unfold execOp
  simp [ho, hx, Instr.loadAt, Instr.sureAddr, loadVar, isAgg, Sem.run_bind, run_underlying Try.underlying25 w, h]
theorem size_sl8 : (Try.prog.info? 25).map (·.size) = some 1 := by kernel_rfl
theorem run_storeSl8 {w : World} {g k n c : Nat} {A : Option Addr} {old : Value} (hc : w.cell? ⟨g, k, none⟩ = some old) (hf : w.frozen? ⟨g, k, none⟩ = false) :
    (storeVar 25 ⟨g, k, none⟩ (.slice A n c)).run Try.prog w = .ok () (w.setCell ⟨g, k, none⟩ (.slice A n c)) := by
  have hs := run_storeCells_cells (P := Try.prog) g k [.slice A n c] 0 w (fun j hj => by
    have : j = 0 := by simp at hj; omega
    subst this
    simp [hc]) (fun j hj => by
    have : j = 0 := by simp at hj; omega
    subst this
    simpa using hf) (fun v hv => by simp at hv; rw [hv]; rfl)
  have hcs : (Value.slice A n c).cells = #[.slice A n c] := rfl
  cases hq : Try.prog.info? 25 with
  | none => have := size_sl8; simp [hq] at this
  | some i =>
    have hsz : i.size = 1 := by have := size_sl8; simpa [hq] using this
    simp only [Nat.add_zero] at hs
    simp [storeVar, sizeOf, typeInfo, hq, hcs, hsz, hs, World.setCells]
theorem wpList_storeSl8 {ops : Array Oper} {rest : List Oper} {o : Oper} {a : Act} {w : World} {Q : Exit → Act → World → Prop} (hgd : o.guard = none) (X Y : Operand) (ho : o.op = .store 25 X Y)
    (g k n c : Nat) (A : Option Addr) (old : Value) (hx : a.eval X = .pointer (some ⟨g, k, none⟩)) (hy : a.eval Y = .slice A n c) (hc : w.cell? ⟨g, k, none⟩ = some old) (hf : w.frozen? ⟨g, k, none⟩ = false)
    (h : wpList Try.prog ops Q rest (a.put o.dst undef) (w.setCell ⟨g, k, none⟩ (.slice A n c))) : wpList Try.prog ops Q (o :: rest) a w :=
  wpList_plain hgd fun _ hK => by
    unfold Oper.wp execOp
    simp only [ho, hx, hy, Instr.storeAt, Instr.sureAddr, Sem.run_bind, Sem.run_pure, Result.andThen_ok, run_storeSl8 hc hf]
    exact hK _ _ h
/-- the event lies here -/
def EvAt (w : World) (g : Nat) : Prop := g < w.heap.size ∧ w.cell? ⟨g, 0, none⟩ = some (.int .i64 0) ∧ w.cell? ⟨g, 1, none⟩ = some (.int .u64 1) ∧ w.cell? ⟨g, 2, none⟩ = some (.int .i64 1) ∧ w.cell? ⟨g, 3, none⟩ = some (.string ⟨#[99]⟩) ∧ w.cell? ⟨g, 4, none⟩ = some (.string ⟨#[102]⟩) ∧ w.cell? ⟨g, 5, none⟩ = some (.string ⟨#[]⟩) ∧ w.cell? ⟨g, 6, none⟩ = some (.slice none 0 0)
theorem EvAt.keep {w w' : World} {g : Nat} (h : EvAt w g) (hs : w.heap.size ≤ w'.heap.size) (hk : w'.heap[g]? = w.heap[g]?) : EvAt w' g := by
  obtain ⟨h0, h⟩ := h
  have k : ∀ i, w'.cell? ⟨g, i, none⟩ = w.cell? ⟨g, i, none⟩ := fun i => World.cell?_of_block hk
  exact ⟨by omega, by simpa only [k] using h⟩
theorem EvAt.grew {w w' : World} {g : Nat} (h : EvAt w g) (hg : Grew w w') : EvAt w' g := h.keep hg.size (hg.block g h.1)
theorem EvAt.other {w w' : World} {g x : Nat} (h : EvAt w g) (hg : w.grownBy w' (some x)) (hne : g ≠ x) : EvAt w' g := h.keep hg.size (hg.block g h.1 (fun e => hne (by injection e)))
set_option maxHeartbeats 4000000 in
theorem wr_events1 (g gx c : Nat) (l : List UInt8) (w : World) (h : Wr w g l false) (hx : EvAt w gx) (hne : gx ≠ g) (hl : l.length ≤ 1000) :
    Calls Try.prog 42 #[.pointer (some ⟨g, 0, none⟩), .slice (some ⟨gx, 0, none⟩) 1 c] w fun e w' => (∃ u, e = .returned u) ∧ Wr w' g (l ++ BinP.enc 1 ++ BinP.text eb) false ∧ w.grownBy w' (some g) := by
  obtain ⟨A, n, cp, h1, h2, h3⟩ := id h
  have c0 : w.cell? ⟨g, 0, none⟩ = some (.slice A n cp) := by rw [cell_blk h1]; rfl
  have c1 : w.cell? ⟨g, 1, none⟩ = some (.bool false) := by rw [cell_blk h1]; rfl
  have f0 : w.frozen? ⟨g, 0, none⟩ = false := Lib.frozen_of_heap h1 0
  have f1 : w.frozen? ⟨g, 1, none⟩ = false := Lib.frozen_of_heap h1 1
  go_enter Try.func42, Try.ntmps42
  go_upto_region 1 with fail
  obtain ⟨w1, hw1⟩ : ∃ W, W = w.setCell ⟨g, 1, none⟩ (.bool false) := ⟨_, rfl⟩
  have hg1 := grown_set w g 1 (.bool false)
  have hW1 := h.setBad false
  rw [← hw1] at hg1 hW1 ⊢
  have HG1 := Lib.hid hg1
  have HX1 := Lib.hid (hx.other hg1 hne)
  have HW1 := Lib.hid hW1
  clear hw1 hg1 hW1 c0 c1 f0 f1 h1 h2 h3 hx h A n cp
  obtain ⟨A, n, cp, h1, h2, h3⟩ := HW1.out
  have c0 : w1.cell? ⟨g, 0, none⟩ = some (.slice A n cp) := by rw [cell_blk h1]; rfl
  have HU := Lib.hid (bin_uint A n cp 1 l w1.heap.size w1 h2.1 h2.2.2.2 (Nat.le_refl _) (by have := h2.1; omega) (by decide))
  clear h1 h2 h3
  go_upto_region 2 with (go_at_call 18; refine HU.out.mono ?_; rintro e w2 ⟨A2, n2, c2, rfl, hO, hG⟩; have HO2 := Lib.hid hO; have HG2 := Lib.hid (show Grew w1 w2 from hG); have hst := HW1.out.at2 hG; obtain ⟨⟨u2, d2⟩, f2⟩ := hst; clear hO hG)
  clear c0
  obtain ⟨w3, hw3⟩ : ∃ W, W = w2.setCell ⟨g, 0, none⟩ (.slice A2 n2 c2) := ⟨_, rfl⟩
  have HW3 := Lib.hid (show Wr w3 g _ false by rw [hw3]; exact HW1.out.setBytes HG2.out HO2.out)
  have hg3 : w1.grownBy w3 (some g) := by rw [hw3]; exact grown_trans' (grown_of_grew2 HG2.out g) (grown_set _ g 0 _)
  have HG3 := Lib.hid (grown_trans' HG1.out hg3)
  have HX3 := Lib.hid (HX1.out.other hg3 hne)
  rw [← hw3]
  clear hw3 hg3 d2 f2
  obtain ⟨x0, x1, x2, x3, x4, x5, x6⟩ := HX3.out.2
  go_wp2_with fail
  refine wp_loop_rounds 2 ?_
  rw [rounds_succ]
  obtain ⟨w4, hw4⟩ : ∃ W, W = w3.alloc (.cells #[.int .i64 0, .int .u64 1, .int .i64 1, .string ⟨#[99]⟩, .string ⟨#[102]⟩, .string ⟨#[]⟩, .slice none 0 0] 78) := ⟨_, rfl⟩
  obtain ⟨b5, hb5⟩ : ∃ b, b = w3.heap.size := ⟨_, rfl⟩
  have HG4 := Lib.hid (show Grew w3 w4 by rw [hw4]; exact grew_alloc w3 _)
  have HA4 := Lib.hid (show ArrV w4 b5 evL by rw [hw4, hb5]; exact ArrV.made w3 _ _)
  go_upto_region 5 with fail
  rw [← hw4, ← hb5]
  clear hw4 hb5 x0 x1 x2 x3 x4 x5 x6
  obtain ⟨x0, x1, x2, x3, x4, x5, x6⟩ := ev_cells HA4.out
  have HV := Lib.hid (enc_event1 w4)
  go_upto_region 6 with (go_at_call 48; refine HV.out.mono ?_; rintro e w5 ⟨A6, n6, c6, rfl, hO, hG⟩; have HO5 := Lib.hid hO.sl; have HL5 := Lib.hid (OwnB.lt hO); have HG5 := Lib.hid hG; clear hO hG)
  clear HV x0 x1 x2 x3 x4 x5 x6
  have HW5 := Lib.hid (HW3.out.grew (HG4.out.trans HG5.out))
  obtain ⟨A5, n5, c5, h1, h2, h3⟩ := HW5.out
  have c1 : w5.cell? ⟨g, 1, none⟩ = some (.bool false) := by rw [cell_blk h1]; rfl
  have f1 : w5.frozen? ⟨g, 1, none⟩ = false := Lib.frozen_of_heap h1 1
  clear h1 h2 h3
  obtain ⟨w6, hw6⟩ : ∃ W, W = w5.setCell ⟨g, 1, none⟩ (.bool false) := ⟨_, rfl⟩
  have HW6 := Lib.hid (show Wr w6 g (l ++ BinP.enc 1) false by rw [hw6]; exact HW5.out.setBad false)
  have hg6 : w5.grownBy w6 (some g) := by rw [hw6]; exact grown_set w5 g 1 _
  have HG6 := Lib.hid (grown_trans' HG3.out (grown_trans' (grown_of_grew2 (HG4.out.trans HG5.out) g) hg6))
  have hne6 : ∀ ad, A6 = some ad → ad.block ≠ g := fun ad e => by have a1 := (HL5.out ad.block (by rw [e]; rfl)).1; have a2 := HW3.out.lt; have a3 := HG4.out.size; omega
  have HS6 := Lib.hid (show Sl w6 w6.heap.size A6 n6 c6 eb from sl_other HO5.out hg6 hne6)
  have HN6 := Lib.hid hne6
  go_upto_region 7 with fail
  rw [← hw6]
  clear hw6 hg6 hne6 c1 f1
  obtain ⟨A5, n5, c5, h1, h2, h3⟩ := HW6.out
  have c1 : w6.cell? ⟨g, 1, none⟩ = some (.bool false) := by rw [cell_blk h1]; rfl
  have c0 : w6.cell? ⟨g, 0, none⟩ = some (.slice A5 n5 c5) := by rw [cell_blk h1]; rfl
  have HTX := Lib.hid (bin_text A5 n5 c5 (l ++ BinP.enc 1) eb w6.heap.size w6 h2.1 h2.2.2.2 (Nat.le_refl _) (by have a1 := h2.1; have a2 : eb.length = 9 := (by decide); have a3 : (BinP.enc 1).length = 1 := (by decide +kernel); rw [List.length_append] at a1; omega))
  clear h1 h2 h3
  go_upto_region 8 with fail
  have d0 : (World.drewN w6 1).cell? ⟨g, 0, none⟩ = some (.slice A5 n5 c5) := c0
  have HWd := Lib.hid (show Wr (World.drewN w6 1) g (l ++ BinP.enc 1) false from HW6.out)
  have HTd := Lib.hid (fun (hn : (l ++ BinP.enc 1).length = n5) (hr : Row w6 w6.heap.size A5 ((l ++ BinP.enc 1).map b8)) (hm : n5 + eb.length + 10 ≤ 140737488355328) => bin_text A5 n5 c5 (l ++ BinP.enc 1) eb (World.drewN w6 1).heap.size (World.drewN w6 1) hn hr (Nat.le_refl _) hm)
  have HC := Lib.hid (show w6.grownBy (World.drewN w6 1) (some g) from grown_drewN (grown0 w6 (some g)) 1)
  refine wp_region_c (fun V => w6.grownBy V (some g)) (by kernel_rfl) HC.out ?_
  (refine wpAnyC_free 0 (oi := ⟨some 57, _, _, _, _, _⟩) (v := ?_) rfl (by kernel_rfl) (by kernel_rfl) (by kernel_rfl) HC.out rfl (fun x => ?_) ?_; rotate_left; (focus (simp [go_sem]; (try go_ints); first | done | (with_reducible rfl))); (simp only [Act.put, List.setIfInBounds_toArray, List.set_cons_succ, List.set_cons_zero]))
  (refine wpAnyC_free 1 (oi := ⟨some 58, _, _, _, _, _⟩) (v := ?_) rfl (by kernel_rfl) (by kernel_rfl) (by kernel_rfl) HC.out rfl (fun x => ?_) ?_; rotate_left; (focus (simp [go_sem]; (try go_ints); first | done | (with_reducible rfl))); (simp only [Act.put, List.setIfInBounds_toArray, List.set_cons_succ, List.set_cons_zero]))
  (refine wpAnyC_free 2 (oi := ⟨some 59, _, _, _, _, _⟩) (v := ?_) rfl (by kernel_rfl) (by kernel_rfl) (by kernel_rfl) HC.out rfl (fun x => ?_) ?_; rotate_left; (focus (simp [go_sem]; (try go_ints); first | done | (with_reducible rfl))); (simp only [Act.put, List.setIfInBounds_toArray, List.set_cons_succ, List.set_cons_zero]))
  (refine wpAnyC_free 3 (oi := ⟨some 60, _, _, _, _, _⟩) (v := ?_) rfl (by kernel_rfl) (by kernel_rfl) (by kernel_rfl) HC.out rfl (fun x => ?_) ?_; rotate_left; (focus (simp [go_sem]; (try go_ints); first | done | (with_reducible rfl))); (simp only [Act.put, List.setIfInBounds_toArray, List.set_cons_succ, List.set_cons_zero]))
  (refine wpAnyC_free 5 (oi := ⟨some 62, _, _, _, _, _⟩) (v := ?_) rfl (by kernel_rfl) (by kernel_rfl) (by kernel_rfl) HC.out rfl (fun x => ?_) ?_; rotate_left; (focus (simp [go_sem]; (try go_ints); first | done | (with_reducible rfl))); (simp only [Act.put, List.setIfInBounds_toArray, List.set_cons_succ, List.set_cons_zero]))
  refine wpAnyC_free 6 (oi := ⟨some 63, _, _, _, _, _⟩) (.string ⟨eb.toArray⟩) rfl (by kernel_rfl) (by kernel_rfl) (by kernel_rfl) HC.out rfl (fun V => exec_str8 (.tmp 62) rfl rfl HS6.out.1 V.1 (HS6.out.2.2.2.but V.2 HN6.out)) ?_
  (simp only [Act.put, List.setIfInBounds_toArray, List.set_cons_succ, List.set_cons_zero])
  change wpAnyC _ _ _ _ _ _ _ _ (World.drewN w6 1)
  obtain ⟨wd, hwd⟩ : ∃ W, W = World.drewN w6 1 := ⟨_, rfl⟩
  obtain ⟨A5', n5', c5', h1, h2, h3⟩ := HW6.out
  have hh : (Value.slice A5' n5' c5') = .slice A5 n5 c5 := by rw [cell_blk h1] at c0; simpa using c0
  simp only [Value.slice.injEq] at hh
  obtain ⟨rfl, rfl, rfl⟩ := hh
  have HT2 := Lib.hid (HTd.out h2.1 h2.2.2.2 (by have a1 := h2.1; have a2 : eb.length = 9 := (by decide); have a3 : (BinP.enc 1).length = 1 := (by decide +kernel); rw [List.length_append] at a1; omega))
  clear h1 h2 h3 HTd HTX c0 c1
  rw [← hwd] at HC HWd HT2 d0 ⊢
  clear hwd
  refine wpAnyC_step 4 (o := ⟨some 61, _, _, _, _, _⟩) rfl (by kernel_rfl) rfl ?_
  refine wpList_value (o := ⟨some 61, _, _, _, _, _⟩) (v := .slice A5' n5' c5') (w' := wd) rfl (exec_loadSl (.tmp 60) rfl rfl d0) ?_
  (simp only [Act.put, List.setIfInBounds_toArray, List.set_cons_succ, List.set_cons_zero])
  refine wpList_nil ⟨rfl, HC.out, ?_⟩
  refine wpAnyC_step 7 (o := ⟨some 64, _, _, _, _, _⟩) rfl (by kernel_rfl) rfl ?_
  refine wpList_callR rfl _ _ (fun v w' => ∃ A n c, v = .slice A n c ∧ OwnB w' wd.heap.size A n c (l ++ BinP.enc 1 ++ BinP.text eb) ∧ Grew wd w') (by simp [go_sem]) (HT2.out.mono fun e w' ⟨A, n, cp, he, h1, h2⟩ => ⟨_, he, A, n, cp, rfl, h1, h2⟩) ?_
  rintro v w7 ⟨A7, n7, c7, rfl, hO, hG⟩
  have HC := Lib.hid (grown_trans' HC.out (grown_of_grew2 hG g))
  have HW8 := Lib.hid (HWd.out.setBytes hG hO)
  obtain ⟨⟨u2, k2⟩, f2⟩ := HWd.out.at2 hG
  clear hO hG HT2 HWd d0
  (simp only [Act.put, List.setIfInBounds_toArray, List.set_cons_succ, List.set_cons_zero])
  refine wpList_nil ⟨rfl, HC.out, ?_⟩
  (refine wpAnyC_free 8 (oi := ⟨some 65, _, _, _, _, _⟩) (v := ?_) rfl (by kernel_rfl) (by kernel_rfl) (by kernel_rfl) HC.out rfl (fun x => ?_) ?_; rotate_left; (focus (simp [go_sem]; (try go_ints); first | done | (with_reducible rfl))); (simp only [Act.put, List.setIfInBounds_toArray, List.set_cons_succ, List.set_cons_zero]))
  (refine wpAnyC_free 9 (oi := ⟨some 66, _, _, _, _, _⟩) (v := ?_) rfl (by kernel_rfl) (by kernel_rfl) (by kernel_rfl) HC.out rfl (fun x => ?_) ?_; rotate_left; (focus (simp [go_sem]; (try go_ints); first | done | (with_reducible rfl))); (simp only [Act.put, List.setIfInBounds_toArray, List.set_cons_succ, List.set_cons_zero]))
  refine wpAnyC_step 10 (o := ⟨none, _, _, _, _, _⟩) rfl (by kernel_rfl) rfl ?_
  refine wpList_storeSl8 rfl (.tmp 66) (.tmp 64) rfl g 0 n7 c7 A7 u2 rfl rfl k2 f2 ?_
  obtain ⟨w8, hw8⟩ : ∃ W, W = w7.setCell ⟨g, 0, none⟩ (.slice A7 n7 c7) := ⟨_, rfl⟩
  have HC := Lib.hid (show w6.grownBy w8 (some g) by rw [hw8]; exact grown_trans' HC.out (grown_set w7 g 0 _))
  rw [← hw8] at HW8 ⊢
  clear hw8 k2 f2
  refine wpList_nil ⟨rfl, HC.out, ?_⟩
  refine wpAnyC_done (by kernel_rfl) (fun _ => ?_) _
  simp only [Act.put]
  go_wp2_with fail
  rw [rounds_succ]
  go_wp2_with fail
  go_end0
  exact ⟨⟨_, rfl⟩, HW8.out, grown_trans' HG6.out HC.out⟩
end Go.Proofs.Ytafhkjljalmheaa
