/- The reader of messages: made; its events. -/
import Derived.Test.YtafhkjljalmheaaProtoX
import Derived.Test.YtafhkjljalmheaaProtoR
namespace Go.Proofs.Ytafhkjljalmheaa
open Go.RowKit
set_option linter.unusedVariables false
/-- a reader of messages: its own block, the one of bin beneath -/
def PRd (w : World) (gr g : Nat) (base : Nat × Nat) (st : BinP.St) (bad : Bool) : Prop :=
  w.heap[gr]? = some (.cells #[.pointer (some ⟨g, 0, none⟩), .bool bad] 90 (0, 0)) ∧ RdS w base g st ∧ base.2 ≤ gr
section
variable {w w' : World} {gr g : Nat} {base : Nat × Nat} {st st' : BinP.St} {bad : Bool}
theorem PRd.ne (h : PRd w gr g base st bad) : g ≠ gr ∧ gr < w.heap.size ∧ base.1 ≤ g ∧ base.1 ≤ gr := by
  have h1 := h.2.1.base_le.1
  have h2 := h.2.2
  exact ⟨by omega, lt_of_blk h.1, h1.1, by omega⟩
theorem PRd.cells (h : PRd w gr g base st bad) : w.cell? ⟨gr, 0, none⟩ = some (.pointer (some ⟨g, 0, none⟩)) ∧ w.cell? ⟨gr, 1, none⟩ = some (.bool bad) ∧ w.frozen? ⟨gr, 1, none⟩ = false :=
  ⟨by rw [cell_blk h.1]; rfl, by rw [cell_blk h.1]; rfl, Lib.frozen_of_heap h.1 1⟩
theorem PRd.step (h : PRd w gr g base st bad) (hR : RdS w' base g st') (hg : w.grownBy w' (some g)) : PRd w' gr g base st' bad :=
  ⟨(hg.block gr h.ne.2.1 (fun e => h.ne.1 (by injection e with e; exact e.symm))).trans h.1, hR, h.2.2⟩
theorem PRd.grew (h : PRd w gr g base st bad) (hg : Grew w w') : PRd w' gr g base st bad :=
  ⟨(hg.block gr h.ne.2.1).trans h.1, h.2.1.below hg, h.2.2⟩
theorem PRd.setBad (h : PRd w gr g base st bad) (b : Bool) : PRd (w.setCell ⟨gr, 1, none⟩ (.bool b)) gr g base st b :=
  ⟨heap_setCell_at w gr 1 _ _ (0, 0) _ h.1, h.2.1.other (grown_set w gr 1 _) (.inr h.2.2), h.2.2⟩
theorem PRd.drewN (h : PRd w gr g base st bad) (n : Nat) : PRd (w.drewN n) gr g base st bad :=
  ⟨h.1, h.2.1.below (Grew.drewN w n), h.2.2⟩
end
theorem p_read (A : Option Addr) (n c : Nat) (l : List UInt8) (w : World) (h : Sl w w.heap.size A n c l) (hl : l.length ≤ 100000) :
    Calls Try.prog 37 #[.slice A n c] w fun e w' => ∃ gr g base, e = .returned (.pointer (some ⟨gr, 0, none⟩)) ∧ PRd w' gr g base (some l) false ∧ w.heap.size ≤ base.1 ∧ Grew w w' := by
  have HR := Lib.hid (bin_read A n c l w.heap.size w h.1 h.2.2.2 (Nat.le_refl _) (by have h2 := h.1; omega))
  clear h
  go_enter Try.func37, Try.ntmps37
  go_wp2_with (go_at_call 11; refine HR.out.mono ?_; rintro e w2 ⟨g, rfl, hR, hB⟩; have HR2 := Lib.hid hR; have HG2 := Lib.hid (show Grew w w2 from hB); clear hR hB)
  go_ret
  have hg := grew_alloc w2 (.cells #[.pointer (some ⟨g, 0, none⟩), .bool false] 90)
  exact ⟨w2.heap.size, g, (w.heap.size, w2.heap.size), rfl, ⟨heap_alloc_new w2 _, HR2.out.below hg, Nat.le_refl _⟩, Nat.le_refl _, HG2.out.trans hg⟩
theorem dec_event' (A : Option Addr) (n c : Nat) (w : World) (h : Sl w w.heap.size A n c eb) :
    Calls Try.prog 49 #[.slice A n c] w fun e w' => e = .returned (.tuple #[.agg #[.int .i64 0, .int .u64 1, .int .i64 1, .string ⟨#[99]⟩, .string ⟨#[102]⟩, .string ⟨#[]⟩, .slice none 0 0], .int .i64 0]) ∧ Grew w w' := dec_event A n c w h
theorem info_event : (Try.prog.info? 78).map (fun i => (i.zero, i.size, i.bytes)) = some (some (.agg zeL.toArray), 7, 96) := by kernel_rfl
/-- append of one event to none -/
theorem wpList_appE {ops : Array Oper} {rest : List Oper} {o : Oper} {a : Act} {w : World} {Q : Exit → Act → World → Prop} (hw : Region.wanted o (yielded ops a.tmps) = true) (s x : Operand)
    (ho : o.op = .call { callee := .builtin .append, args := #[s, x], argTypes := #[62, 62] }) (hs : a.eval s = .slice none 0 0)
    (A1 : Option Addr) (c1 B1 : Nat) (hx : a.eval x = .slice A1 1 c1) (hr : Row w B1 A1 evL)
    (h : ∀ gx cap' w', EvAt w' gx → Grew w w' → wpList Try.prog ops Q rest (a.put o.dst (.slice (some ⟨gx, 0, none⟩) 1 cap')) w') :
    wpList Try.prog ops Q (o :: rest) a w := by
  obtain ⟨i0, hi, hz0, hz1, hz2⟩ := info_parts info_event
  refine wpList_append_gen w hw s x 62 62 ho w.heap.size 78 i0 (.agg zeL.toArray) 7 96 Try.underlying62 (.inl ⟨_, Try.underlying62⟩) hi hz0 hz1 hz2 rfl none 0 0 [] hs (Own.nil _ _ _ _) 1 evL (by rw [hx]; exact Src.slice rfl hr) evL_one ?_ ?_ (Nat.le_refl _) ?_
  · unfold maxLen; omega
  · exact .inr (growslice_fits (by omega) (by omega))
  · intro A' cap' w' hO hg hor
    rcases hor with ⟨h0, _⟩ | ⟨rfl, hB⟩
    · omega
    · refine h _ cap' w' ?_ hB
      have hrow := Own.row hO (Nat.le_refl _)
      rw [List.nil_append] at hrow
      have key : ∀ (j : Nat) (u : Value), evL[j]? = some u → w.heap.size < w'.heap.size ∧ w'.cell? ⟨w.heap.size, j, none⟩ = some u := fun j u hu => by
        obtain ⟨ad, e1, hb, hc⟩ := hrow j u hu
        cases e1
        rw [add_off, Nat.zero_add] at hc
        exact ⟨hb, hc⟩
      exact ⟨(key 0 _ rfl).1, (key 0 _ rfl).2, (key 1 _ rfl).2, (key 2 _ rfl).2, (key 3 _ rfl).2, (key 4 _ rfl).2, (key 5 _ rfl).2, (key 6 _ rfl).2⟩
set_option maxHeartbeats 2000000 in
set_option maxRecDepth 10000 in
theorem p_events (gr g : Nat) (base : Nat × Nat) (w0 w : World) (h : PRd w gr g base (some [1, 9, 0, 1, 1, 1, 99, 1, 102, 0, 0]) false) (h0 : Grew w0 w) (hlo : w0.heap.size ≤ base.1) :
    Calls Try.prog 44 #[.pointer (some ⟨gr, 0, none⟩)] w fun e w' => ∃ gx c, e = .returned (.slice (some ⟨gx, 0, none⟩) 1 c) ∧ EvAt w' gx ∧ PRd w' gr g base (some []) false ∧ Grew w0 w' := by
  have HP := Lib.hid h
  have H0 := Lib.hid h0
  have HLo := Lib.hid (show w0.heap.size ≤ g ∧ w0.heap.size ≤ gr by have := h.ne; omega)
  obtain ⟨c0, c1, f1⟩ := h.cells
  clear h h0 hlo
  have HQ := Lib.hid (rdi HP.out.2.1 (a := 8) (v := 1) (st' := some [9, 0, 1, 1, 1, 99, 1, 102, 0, 0]) (i := 1) (by decide +kernel) rfl rfl)
  go_enter Try.func44, Try.ntmps44
  go_upto_region 3 with (go_at_call 13; refine HQ.out.mono ?_; rintro e w1 ⟨rfl, hR, hg⟩; have HP1 := Lib.hid (HP.out.step hR hg); have H1 := Lib.hid (new_bad w g hg H0.out HLo.out.1); clear hR hg)
  clear c0 c1 f1 HQ
  obtain ⟨c0, c1, f1⟩ := HP1.out.cells
  refine wp_loop_rounds 2 ?_
  rw [rounds_succ]
  have HQ := Lib.hid (rdt HP1.out.2.1 (a := 65536) (s := eb) (st' := some []) (b := ⟨eb.toArray⟩) (by decide +kernel) rfl rfl)
  go_upto_region 5 with (first
    | (go_at_call 12; refine HQ.out.mono ?_; rintro e w2 ⟨rfl, hR, hg⟩; have HP2 := Lib.hid (HP1.out.step hR hg); have H2 := Lib.hid (new_bad w1 g hg H1.out HLo.out.1); clear hR hg)
    | (refine wpList_bytes8 (dst := some 19) w2.heap.size eb rfl rfl (Nat.le_refl _) (by show 9 ≤ maxLen; unfold maxLen; omega) ?_; intro cap3 w3 hO3 hB3 _; have HO3 := Lib.hid hO3.sl; have HP3 := Lib.hid (HP2.out.grew hB3); have H3 := Lib.hid (H2.out.trans hB3); clear hO3 hB3)
    | (go_at_call 49; refine (dec_event' _ _ _ w3 HO3.out).mono ?_; rintro e w4 ⟨rfl, hG⟩; have HP4 := Lib.hid (HP3.out.grew hG); have H4 := Lib.hid (H3.out.trans hG); clear hG))
  clear c0 c1 f1 HQ
  obtain ⟨w5, hw5⟩ : ∃ W, W = w4.alloc (.cells #[.int .i64 0, .int .u64 1, .int .i64 1, .string ⟨#[99]⟩, .string ⟨#[102]⟩, .string ⟨#[]⟩, .slice none 0 0] 78) := ⟨_, rfl⟩
  obtain ⟨b4, hb4⟩ : ∃ b, b = w4.heap.size := ⟨_, rfl⟩
  have HA5 := Lib.hid (show ArrV w5 b4 evL by rw [hw5, hb4]; exact ArrV.made w4 _ _)
  have hG45 : Grew w4 w5 := by rw [hw5]; exact grew_alloc w4 _
  have HP5 := Lib.hid (HP4.out.grew hG45)
  have H5 := Lib.hid (H4.out.trans hG45)
  have Hne := Lib.hid (show b4 ≠ gr by have := HP4.out.ne; omega)
  rw [← hw5, ← hb4]
  clear hw5 hb4 hG45
  obtain ⟨c0, c1, f1⟩ := HP5.out.cells
  obtain ⟨w6, hw6⟩ : ∃ W, W = w5.setCell ⟨gr, 1, none⟩ (.bool false) := ⟨_, rfl⟩
  have hg6 : w5.grownBy w6 (some gr) := by rw [hw6]; exact grown_set w5 gr 1 _
  have HP6 := Lib.hid (show PRd w6 gr g base (some []) false by rw [hw6]; exact HP5.out.setBad false)
  have H6 := Lib.hid (new_bad w5 gr hg6 H5.out HLo.out.2)
  have HA6 := Lib.hid (HA5.out.other hg6 (fun e => Hne.out (by injection e with e; exact e.symm)))
  go_upto_region 6 with fail
  rw [← hw6]
  clear hw6 hg6 c0 c1 f1
  obtain ⟨x0, x1, x2, x3, x4, x5, x6⟩ := ev_cells HA6.out
  go_wp2_with (at_builtin; refine wpList_appE rfl (.tmp 34) (.tmp 36) rfl rfl (some ⟨w6.heap.size, 0, none⟩) 1 (w6.heap.size + 1) rfl (Row.new w6 _ _ _ _ _ rfl (by omega) _ rfl) ?_; intro gx cap7 w7 hE hG; have HE7 := Lib.hid hE; have HG7 := Lib.hid ((grew_alloc w6 _).trans hG); clear hE hG)
  clear x0 x1 x2 x3 x4 x5 x6
  rw [rounds_succ]
  go_wp2_with fail
  go_ret
  exact ⟨gx, cap7, rfl, HE7.out, HP6.out.grew HG7.out, H6.out.trans HG7.out⟩
end Go.Proofs.Ytafhkjljalmheaa
