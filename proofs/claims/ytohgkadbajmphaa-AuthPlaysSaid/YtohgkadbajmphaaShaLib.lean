/- A Hash that was asked once is asked again; 32 bytes stored into a variable that was just made. -/
import Derived.Test.YtohgkadbajmphaaAwake2
import Derived.Test.YtohgkadbajmphaaShaP
namespace Go.Proofs.Ytohgkadbajmphaa
open Go.RowKit
set_option linter.unusedVariables false
/-- 'd := value' of 32 bytes: the world behind it -/
def boxed32 (W : World) (C : List Value) : World := (W.alloc (.cells dzeros 23)).setCells W.heap.size 0 C
theorem boxed_grew (W : World) (C : List Value) : Grew W (boxed32 W C) := by
  have hG : W.grownBy (boxed32 W C) none := grown_fresh (grown_grew (grown_refl W none) (grew_alloc W _)) (Nat.le_refl _) (grown_setCells W.heap.size C 0 _)
  exact ⟨hG.os, hG.tape, hG.output, hG.size, fun k hk => hG.block k hk (by simp)⟩
theorem boxed_store (W : World) (C : List Value) (l : List UInt8) (hl : l.length = 32) (hC : C = l.map b8) :
    (W.alloc (.cells dzeros 23)).there W.heap.size 0 C.toArray.size ∧ (Try.prog.info? 23).map (·.size) = some C.toArray.size ∧ C.toArray.all (·.oneCell') = true ∧ ArrV (boxed32 W C) W.heap.size C ∧ C.length = 32 :=
  stored32 (W := W.alloc (.cells dzeros 23)) hl hC (dz_made W) zeros32_len
theorem load_box {w y : World} {g : Nat} {C : List Value} (h : ArrV w g C) (hC : C.length = 32) (hy : Grew w y) : (Instr.loadAt 23 (.pointer (some ⟨g, 0, none⟩))).run Try.prog y = .ok (.agg C.toArray) y :=
  run_loadAt_mid (P := Try.prog) y g 0 23 C _ (h.grew hy).range Try.underlying23 rfl (by rw [hC]; kernel_rfl)
theorem eql_same (C : List Value) (l : List UInt8) (hl : l.length = 32) (hC : C = l.map b8) (W : World) : (binOp .eql 23 (.agg C.toArray) (.agg C.toArray)).run Try.prog W = .ok (.bool true) W := by
  have := eql32 l l hl hl W
  rw [← hC] at this
  rw [this]
  simp
set_option maxRecDepth 100000 in
set_option maxHeartbeats 1000000 in
theorem hash_again (base g : Nat) (A : Option Addr) (n c : Nat) (l : List UInt8) (S : List UInt8) (w : World) (h : HashV w base g A n c l true S) :
    Calls Try.prog 17 #[.pointer (some ⟨g, 0, none⟩)] w fun e w' => e = .returned (.agg ((ShaP.digest l).map b8).toArray) ∧ Grew w w' := by
  have hglt := h.arr.lt
  obtain ⟨D, hD⟩ : ∃ D : List UInt8, D = ShaP.digest l := ⟨_, rfl⟩
  have hDl : D.length = 32 := by rw [hD]; exact ShaP.digest_len l
  obtain ⟨w1, hw1⟩ : ∃ w1, w1 = w.alloc (.cells #[.pointer (some ⟨g, 0, none⟩)] 27) := ⟨_, rfl⟩
  obtain ⟨w2, hw2⟩ : ∃ w2, w2 = w1.alloc (.cells dzeros 23) := ⟨_, rfl⟩
  have hz1 : w1.heap.size = w.heap.size + 1 := by rw [hw1]; simp
  have hg1 : Grew w w1 := by rw [hw1]; exact (Below.refl _ _).alloc (Nat.le_refl _) _
  have hg12 : Grew w1 w2 := by rw [hw2]; exact (Below.refl _ _).alloc (Nat.le_refl _) _
  have hg2 := hg1.trans hg12
  have hp1 : w1.cell? ⟨w.heap.size, 0, none⟩ = some (.pointer (some ⟨g, 0, none⟩)) := by rw [hw1]; simp
  have hp2 : w2.cell? ⟨w.heap.size, 0, none⟩ = some (.pointer (some ⟨g, 0, none⟩)) := (Below.cell hg12 (p := ⟨w.heap.size, 0, none⟩) (by show w.heap.size < _; omega)).trans hp1
  have hR2 : ArrV w2 (w.heap.size + 1) ((List.replicate 32 (0 : UInt8)).map b8) := by rw [hw2, ← hz1]; exact dz_made w1
  have h2 := h.grew hg2
  have hz2 : w2.heap.size = w.heap.size + 2 := by rw [hw2]; simp [hz1]
  have hmf : ∀ (fn : Fn) (first cap : Array Value) (w : World), (Instr.makeFunc fn first cap).run Try.prog w = .ok (.func fn first cap) w := fun _ _ _ _ => rfl
  have hA2 : ArrV w2 g (hc A n c 1 0 true D) := by
    have h3 := h2.arr
    rw [h2.sum rfl, ← hD] at h3
    exact h3
  have HDO := Lib.hid (once_done g A n c D (.func (.func 41) #[] #[.pointer (some ⟨w.heap.size, 0, none⟩)]) w2 hA2)
  have HW1 := Lib.hid hw1
  have HW2 := Lib.hid hw2
  have HZ1 := Lib.hid hz1
  obtain ⟨C, hC⟩ : ∃ C, C = D.map b8 := ⟨_, rfl⟩
  have HRG := Lib.hid (show w2.rangeAt g 5 C by rw [hC]; exact hc_range hA2)
  have HIN := Lib.hid (show (Try.prog.info? 23).map (·.size) = some C.length by rw [hC, List.length_map, hDl]; kernel_rfl)
  have HS := Lib.hid (stored32 (W := w2) hDl hC hR2 zeros32_len)
  have hGF : w.grownBy (w2.setCells (w.heap.size + 1) 0 C) none := grown_fresh (grown_grew (grown_refl w none) hg2) (by omega) (grown_setCells (w.heap.size + 1) C 0 w2)
  have HF := Lib.hid (show Grew w (w2.setCells (w.heap.size + 1) 0 C) from ⟨hGF.os, hGF.tape, hGF.output, hGF.size, fun k hk => hGF.block k hk (by simp)⟩)
  have HC := Lib.hid (show C = (ShaP.digest l).map b8 by rw [hC, hD])
  clear hw1 hw2 hz1 hz2 h h2 hD hDl hp1 hg1 hg12 hC hA2 hR2 hGF hg2
  go_enter Try.func17, Try.ntmps17
  go_upto_region 1 with (first
    | (refine wpList_value (o := ⟨some 1, _, _, _, _, _⟩) (v := .pointer (some ⟨w.heap.size, 0, none⟩)) (w' := w.alloc (.cells #[.pointer (some ⟨g, 0, none⟩)] 27)) rfl (by kernel_rfl) ?_; rw [← HW1.out])
    | (refine wpList_value (o := ⟨some 2, _, _, _, _, _⟩) (v := .pointer (some ⟨w1.heap.size, 0, none⟩)) (w' := w1.alloc (.cells dzeros 23)) rfl (by kernel_rfl) ?_; rw [← HW2.out]))
  have hz := HZ1.out
  rw [hz]
  clear hz
  go_wp2_with fail
  refine HDO.out.mono ?_
  rintro e w3 ⟨rfl, rfl⟩
  go_wp2_with (first
    | (refine wpList_load_mid rfl 23 (.tmp 10) rfl g 5 rfl C _ HRG.out Try.underlying23 rfl HIN.out ?_)
    | (refine wpList_store_mid rfl 23 (.tmp 2) (.tmp 11) rfl (w.heap.size + 1) 0 C.toArray rfl rfl HS.out.1 HS.out.2.1 HS.out.2.2.1 ?_))
  have hres := load32 HS.out.2.2.2.1 HS.out.2.2.2.2
  refine bodyPost_ret (v := .agg C.toArray) (by simp [results, Try.results17, Act.put, asAddr, hres]) rfl ⟨by rw [HC.out], ?_⟩
  simpa using HF.out
end Go.Proofs.Ytohgkadbajmphaa
