/- The walk of the function that sha.Hash hands to its Once. -/
import Derived.Test.YtohgkadbajmphaaShaEqual
import Derived.Test.YtohgkadbajmphaaPh2
namespace Go.Proofs.Ytohgkadbajmphaa
open Go.RowKit
set_option linter.unusedVariables false
/-- the cells of a Hash -/
def hc (A : Option Addr) (n c : Nat) (dn st : Int) (cl : Bool) (S : List UInt8) : List Value := [.slice A n c, .int .u32 dn, .int .i32 st, .int .u32 0, .bool cl] ++ S.map b8
theorem putAt_tail (vs : List Value) (o : Nat) (cur : Array Value) (h : o + vs.length = cur.size) : putAt cur o vs = (cur.toList.take o ++ vs).toArray := by
  apply Array.ext
  · rw [putAt_size]; simp; omega
  · intro i h1 h2
    have h3 := Array.getElem?_eq_getElem h1
    have h4 := Array.getElem?_eq_getElem h2
    have : (putAt cur o vs)[i]? = (cur.toList.take o ++ vs).toArray[i]? := by
      rw [putAt_size] at h1
      have e0 : (cur.toList.take o ++ vs).toArray[i]? = (cur.toList.take o ++ vs)[i]? := by simp only [List.getElem?_toArray]
      rw [e0]
      by_cases hi : i < o
      · rw [putAt_low vs o cur i hi, List.getElem?_append_left (by rw [List.length_take, Array.length_toList]; omega), List.getElem?_take, if_pos hi, Array.getElem?_toList]
      · obtain ⟨j, rfl⟩ : ∃ j, i = o + j := ⟨i - o, by omega⟩
        have hj : j < vs.length := by omega
        rw [putAt_in vs o cur j vs[j] (List.getElem?_eq_getElem hj) (by omega), List.getElem?_append_right (by rw [List.length_take, Array.length_toList]; omega)]
        have : o + j - (cur.toList.take o).length = j := by rw [List.length_take, Array.length_toList]; omega
        rw [this, List.getElem?_eq_getElem hj]
    rw [h3, h4] at this
    injection this
theorem ArrV.tail {w : World} {g : Nat} {xs vs : List Value} (h : ArrV w g xs) (o : Nat) (hl : o + vs.length = xs.length) : ArrV (w.setCells g o vs) g (xs.take o ++ vs) := by
  obtain ⟨e, h⟩ := h
  refine ⟨e, ?_⟩
  rw [heap_setCells g e (0, 0) vs o w _ h, putAt_tail vs o xs.toArray (by simpa using hl)]
theorem ArrV.there_from {w : World} {g : Nat} {xs : List Value} (h : ArrV w g xs) (o n : Nat) (hl : o + n ≤ xs.length) : w.there g o n := fun j hj => by
  exact ⟨by rw [h.cell (i := o + j) (by omega)]; rfl, h.frozen (o + j)⟩
theorem grown_step {a b c : World} {r : Option Nat} (h : a.grownBy b r) (k : b.grownBy c r) : a.grownBy c r :=
  ⟨k.os.trans h.os, k.tape.trans h.tape, k.output.trans h.output, Nat.le_trans h.size k.size, fun i hi hne => (k.block i (Nat.lt_of_lt_of_le hi h.size) hne).trans (h.block i hi hne)⟩
theorem grown_refl (w : World) (r : Option Nat) : w.grownBy w r := ⟨rfl, rfl, rfl, Nat.le_refl _, fun _ _ _ => rfl⟩
theorem hc_len (A : Option Addr) (n c : Nat) (dn st : Int) (cl : Bool) (S : List UInt8) : (hc A n c dn st cl S).length = 5 + S.length := by simp [hc]; omega
/-- the worlds behind so many writes of the function -/
def HP (w0 : World) (g : Nat) (A : Option Addr) (n c : Nat) (S D : List UInt8) (p : Nat) (w : World) : Prop :=
  w0.grownBy w (some g) ∧ ArrV w g (if p ≤ 1 then hc A n c 0 1 false S else if p = 2 then hc A n c 0 1 false D else hc A n c 0 1 true D)
set_option maxRecDepth 4000 in
theorem hash_once (g p : Nat) (A : Option Addr) (n c : Nat) (l S : List UInt8) (w : World) (hgp : p ≠ g) (hS : S.length = 32) (hp : w.cell? ⟨p, 0, none⟩ = some (.pointer (some ⟨g, 0, none⟩))) (hA : ArrV w g (hc A n c 0 1 false S)) (hsl : Sl w w.heap.size A n c l) (hAg : ∀ ad, A = some ad → ad.block ≠ g) (hm : n ≤ 70368744177664) :
    Calls Try.prog 41 #[.pointer (some ⟨p, 0, none⟩)] w fun e w' => e = .returned (.tuple #[]) ∧ w.grownBy w' (some g) ∧ ArrV w' g (hc A n c 0 1 true (ShaP.digest l)) := by
  obtain ⟨D, hD⟩ : ∃ D, D = ShaP.digest l := ⟨_, rfl⟩
  rw [← hD]
  have hDl : D.length = 32 := by rw [hD]; exact ShaP.digest_len l
  have hplt : p < w.heap.size := World.block_lt_of_cell? w _ hp
  have hrow : ∀ W, w.grownBy W (some g) → Sl W W.heap.size A n c l := fun W hW => by
    refine ⟨hsl.1, hsl.2.1, hsl.2.2.1, fun j u hu => ?_⟩
    obtain ⟨ad, e, hb, hc⟩ := hsl.2.2.2 j u hu
    exact ⟨ad, e, Nat.lt_of_lt_of_le hb hW.size, (World.cell?_of_block (hW.block _ (by rw [add_block]; exact hb) (fun e2 => by injection e2 with e2; rw [add_block] at e2; exact hAg ad e e2))).trans hc⟩
  have hread : ∀ y : AnyOf (HP w g A n c S D), y.1.2.cell? ⟨p, 0, none⟩ = some (.pointer (some ⟨g, 0, none⟩)) ∧ y.1.2.cell? ⟨g, 0, none⟩ = some (.slice A n c) := fun y => by
    obtain ⟨h1, h2⟩ := y.2
    refine ⟨(World.cell?_of_block (h1.block p hplt (fun e => by injection e with e; exact hgp e))).trans hp, h2.atSome ?_⟩
    split
    · rfl
    · split <;> rfl
  have hcall : ∀ W, HP w g A n c S D 0 W → Calls Try.prog 19 #[.slice A n c] W fun e w'' => e = .returned (.agg (D.map b8).toArray) ∧ HP w g A n c S D 1 w'' := fun W hW =>
    (sha_sum A n c W.heap.size l W (hrow W hW.1) (Nat.le_refl _) hm).mono fun e w'' h => ⟨by rw [h.1, hD], grown_grew hW.1 h.2, hW.2.grew h.2⟩
  have hst1 : ∀ W, HP w g A n c S D 1 W → ∃ W', (Instr.storeAt 23 (.pointer (some ⟨g, 5, none⟩)) (.agg (D.map b8).toArray)).run Try.prog W = .ok () W' ∧ HP w g A n c S D 2 W' := fun W hW => by
    have h1 : ArrV W g (hc A n c 0 1 false S) := hW.2
    refine ⟨_, run_storeAt_mid (P := Try.prog) W g 5 23 (D.map b8).toArray (h1.there_from 5 _ (by simp [hc, hS, hDl])) (by simp only [List.size_toArray, List.length_map, hDl]; kernel_rfl) (all_oneCell_toArray (fun v hv => by obtain ⟨x, _, rfl⟩ := List.mem_map.1 hv; rfl)), grown_step hW.1 (grown_setCells g _ 5 W), ?_⟩
    have h2 := h1.tail (vs := D.map b8) 5 (by simp [hc, hS, hDl])
    exact h2
  have hst2 : ∀ W, HP w g A n c S D 2 W → ∃ W', (Instr.storeAt 4 (.pointer (some ⟨g, 4, none⟩)) (.bool true)).run Try.prog W = .ok () W' ∧ HP w g A n c S D 3 W' := fun W hW => by
    have h1 : ArrV W g (hc A n c 0 1 false D) := hW.2
    have q1 := h1.cell (i := 4) (by simp [hc])
    have q2 := h1.frozen 4
    exact ⟨W.setCell ⟨g, 4, none⟩ (.bool true), by simp [go_sem, q1, q2], grown_step hW.1 (grown_cell W _ _), h1.set 4 (.bool true)⟩
  have H := Lib.hid (And.intro hread (And.intro hcall (And.intro hst1 hst2)))
  have hC0 := Lib.hid (show HP w g A n c S D 0 (w.drewN 1) from ⟨grown_grew (grown_refl w _) (Grew.drewN w 1), hA.drewN 1⟩)
  clear hread hcall hst1 hst2 hA hrow hsl hp
  go_enter Try.func41, Try.ntmps41
  have hqq := H.out.1
  refine wp_region_p (HP w g A n c S D) [6, 9, 12] (by kernel_rfl) (by kernel_rfl) (by kernel_rfl) hC0.out ?_
  repeat (first
    | (refine wpP_value (v := ?_) rfl rfl (fun x => ?_) ?_; rotate_left; (focus (simp [go_sem, hqq]; (try go_ints); first | done | (with_reducible rfl))); (simp only [Act.put, List.setIfInBounds_toArray, List.set_cons_succ, List.set_cons_zero]))
    | (refine wpP_call (.agg (D.map b8).toArray) _ _ rfl rfl (fun _ => by simp [go_sem]) (fun w' hw' => H.out.2.1 w' hw') ?_; (simp only [Act.put, List.setIfInBounds_toArray, List.set_cons_succ, List.set_cons_zero]))
    | (refine wpP_write rfl rfl (fun w' hw' => ?_) ?_; (focus (obtain ⟨W', e, k⟩ := H.out.2.2.1 w' hw'; exact ⟨W', by simp [execOp, Act.eval, e], k⟩)); (simp only [Act.put]))
    | (refine wpP_write rfl rfl (fun w' hw' => ?_) ?_; (focus (obtain ⟨W', e, k⟩ := H.out.2.2.2 w' hw'; exact ⟨W', by simp [execOp, Act.eval, e], k⟩)); (simp only [Act.put])))
  refine wpP_nil ?_
  intro w5 hw5
  clear hqq H hC0
  go_end0
  exact ⟨rfl, hw5⟩
end Go.Proofs.Ytohgkadbajmphaa
