/- The walks of mem's From and All. -/
import Derived.Test.YtkkeodfoiffofaaMemList
import Derived.Test.YtkkeodfoiffofaaMemIter
import Derived.Test.YtkkeodfoiffofaaRangeI
namespace Go.Proofs.Ytkkeodfoiffofaa
open Go.RowKit
set_option linter.unusedVariables false
open MemP
attribute [local go_sem] Oper.semAt_some
/-- what From hands back: a function value over a slice of the call's own -/
def SeqPost (w : World) (l : List It) (e : Ending) (w' : World) : Prop := ∃ (Bs n c : Nat) (A : Option Addr), e = .returned (.func (.func 48) #[] #[.pointer (some ⟨Bs, 0, none⟩)]) ∧ w'.cell? ⟨Bs, 0, none⟩ = some (.slice A n c) ∧ OwnI w' w.heap.size A n c l ∧ w.heap.size ≤ Bs ∧ Grew w w'
set_option maxHeartbeats 1000000 in
theorem mem_From (B : Nat) (hd : Nd) (ns : List Nd) (key : List UInt8) (w : World) (hM : MemI w B hd ns) (hn : ns.length ≤ 1000000) :
    Calls Try.prog 27 #[.pointer (some ⟨hd.b, 0, none⟩), sv key] w (SeqPost w ((tailN ns ⟨key, m64 - 1, false, []⟩).map (·.x))) := by
  have HL := Lib.hid (mem_list B hd ns key w hM hn)
  clear hM hn
  go_enter Try.func27, Try.ntmps27
  go_wp2_with (go_at_call 47; refine HL.out.mono ?_; rintro e w1 ⟨A, n, c, rfl, hO, hG⟩; have HO := Lib.hid hO; have HG := Lib.hid hG; clear hO hG)
  go_ret
  exact ⟨w1.heap.size, n, c, A, rfl, (Boxed.new w1 32 (.slice A n c)).cell, HO.out.alloc _, HG.out.size, HG.out.trans (grew_new _ _)⟩
theorem hBx2 {w1 w2 : World} {b : Nat} {t : TypeId} {v : Value} (h : Boxed w1 b t v) (hg : Grew w1 w2) : Boxed w2 b t v := (hg.block b h.lt).trans h
set_option maxRecDepth 100000 in
set_option maxHeartbeats 4000000 in
theorem mem_All (B : Nat) (hd : Nd) (ns : List Nd) (w : World) (hM : MemI w B hd ns) (hn : ns.length ≤ 1000000) :
    Calls Try.prog 19 #[.pointer (some ⟨hd.b, 0, none⟩)] w (GivesI w ((tailN ns ⟨[], m64 - 1, false, []⟩).map (·.x))) := by
  obtain ⟨xs, hxs⟩ : ∃ xs, xs = (tailN ns ⟨[], m64 - 1, false, []⟩).map (·.x) := ⟨_, rfl⟩
  obtain ⟨w1, hw1⟩ : ∃ w1, w1 = w.alloc (.cells #[.slice none 0 0] 32) := ⟨_, rfl⟩
  have HG1 := Lib.hid (show Grew w w1 by rw [hw1]; exact grew_new w _)
  have HF : Hid (Calls Try.prog 27 #[.pointer (some ⟨hd.b, 0, none⟩), sv []] w1 (SeqPost w1 xs)) := Lib.hid (by rw [hxs]; exact mem_From B hd ns [] w1 (hM.grew HG1.out) hn)
  have HXL := Lib.hid (show xs.length ≤ 1000000 by rw [hxs]; unfold tailN; simp; omega)
  have HBX := Lib.hid (show Boxed w1 w.heap.size 32 (.slice none 0 0) by rw [hw1]; exact Boxed.new w _ _)
  have HW1 := Lib.hid hw1
  rw [← hxs]
  clear hM hn hxs hw1
  refine calls_marks Try.func19 rfl ?_
  simp only [Try.ntmps19, List.size_toArray, List.length_cons, List.length_nil, Nat.reduceAdd, Nat.reduceSub, Array.replicate_succ, Array.replicate_zero, List.push_toArray, List.append_toArray, List.nil_append, List.cons_append]
  go_upto_region 2 with fail
  rw [← HW1.out]
  go_wp2_with (go_at_call 27; refine HF.out.mono ?_; rintro e w2 ⟨Bs, n, c, A, rfl, hBs, hO, hle, hG⟩)
  have HGV := Lib.hid (from1_gives Bs n c A xs w2 hBs (hO.is (Nat.le_refl _)))
  have HG2 := Lib.hid (HG1.out.trans hG)
  have HBX2 := Lib.hid (hBx2 HBX.out hG)
  have HKD : Hid (∀ g, keepsfrom1 Bs A xs g → g < w2.heap.size ∧ g ≠ w.heap.size) := Lib.hid fun g hg => ⟨HGV.out.1 g hg, fun e => by
    have h1 : w1.heap.size = w.heap.size + 1 := by rw [HW1.out]; simp
    rcases hg with hg | ⟨_, hg⟩
    · omega
    · have := (hO.lt g hg).1
      omega⟩
  clear hBs hO hle hG
  refine wp_rangeI (gf := 48) (lb := #[.pointer (some ⟨Bs, 0, none⟩)]) rfl (enters_of Try.func48 (by kernel_rfl) rfl) HGV.out.1 HGV.out.2 rfl
    (fun pre W => ∃ A n c, Boxed W w.heap.size 32 (.slice A n c) ∧ OwnI W w2.heap.size A n c pre ∧ Below w.heap.size w W) (fun _ _ _ => False)
    (fun s W W' h _ ha => ?_) (fun _ _ _ _ h _ _ => h) ⟨none, 0, 0, HBX2.out, OwnI.nil _ _, HG2.out⟩
    (fun x b => { tmps := #[.pointer (some ⟨hd.b, 0, none⟩), undef, .slice none 0 0, .pointer (some ⟨w.heap.size, 0, none⟩), .pointer (some ⟨b, 0, none⟩), .pointer (some ⟨hd.b, 0, none⟩), .func (.func 48) #[] #[.pointer (some ⟨Bs, 0, none⟩)], iv x, undef, undef, undef, undef, undef], defers := [] }) ?assign ?body ?done ?stop
  · obtain ⟨A, n, c, h1, h2, h3⟩ := h
    exact ⟨A, n, c, ha.boxed h1, ha.ownI h2, ha.kept h3 HG2.out.size⟩
  case assign =>
    intro l x W K' hK
    gi_wp2
    exact hK
  case body =>
    rintro l pre x b W ⟨A, n, c, hBx, hO, hB⟩ hsz hIb hb hlen
    have c0 := hBx.cell
    obtain ⟨q0, q1, q2, q3⟩ := range_cells hIb.range
    have hn := hO.len
    have hxl := HXL.out
    have HO := Lib.hid hO
    have HBx := Lib.hid hBx
    have HB := Lib.hid hB
    clear hBx hO hB hIb
    gi_wp2_with (gi_at_builtin; refine wpListIn_appI rfl (.tmp 8) (.tmp 10) rfl w2.heap.size A n c pre rfl (HO.out.alloc _) (some ⟨W.heap.size, 0, none⟩) 1 1 (W.heap.size + 1) [x] rfl rfl (IRow.one W x _ _) (by omega) (by simp; omega) ?_; intro A3 c3 w3 hO3 hg3 hB3; have HCo := Lib.hid (collectI HBx.out HO.out HB.out hO3 hg3 HKD.out hsz HG2.out.size (Nat.le_refl _)); have r1 := HCo.out.1; have r2 := HCo.out.2.1; clear hO3 hg3 hB3)
    exact ⟨HCo.out.2.2.1, HCo.out.2.2.2.1, A3, _, c3, HCo.out.2.2.2.2.1, HCo.out.2.2.2.2.2.1, HCo.out.2.2.2.2.2.2⟩
  case done =>
    rintro D W hD hsz ⟨A, n, c, hBx, hO, hB⟩ hd'
    have c0 := hBx.cell
    have HM := Lib.hid ((Marks.nil w2.heap.size W).cons hD hd' (fun m h => by cases h))
    have HO := Lib.hid hO
    have HB := Lib.hid hB
    have hsz2 := HG2.out.size
    clear hBx hO hB hd'
    go_wp2_with fail
    refine postM_ret1 rfl HM.out hsz (fun W' ha => ⟨A, n, c, rfl, Own.lower (ha.ownI HO.out) hsz2, ha.kept HB.out hsz2⟩)
  case stop =>
    rintro D c pre W _ _ _ h _
    exact h.elim
end Go.Proofs.Ytkkeodfoiffofaa
