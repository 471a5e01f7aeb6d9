/- sync.Once of sha.Hash: doSlow, Do; the methods of Hash. -/
import Derived.Test.YtohgkadbajmphaaOnce
namespace Go.Proofs.Ytohgkadbajmphaa
open Go.RowKit
set_option linter.unusedVariables false
set_option maxRecDepth 100000 in
set_option maxHeartbeats 1600000 in
theorem once_slow (g p : Nat) (A : Option Addr) (n c : Nat) (l S : List UInt8) (w : World) (hgp : p ≠ g) (hS : S.length = 32) (hp : w.cell? ⟨p, 0, none⟩ = some (.pointer (some ⟨g, 0, none⟩))) (hA : ArrV w g (hc A n c 0 0 false S)) (hsl : Sl w w.heap.size A n c l) (hAg : ∀ ad, A = some ad → ad.block ≠ g) (hm : n ≤ 70368744177664) :
    Calls Try.prog 59 #[.pointer (some ⟨g, 1, none⟩), .func (.func 41) #[] #[.pointer (some ⟨p, 0, none⟩)]] w fun e w' => e = .returned (.tuple #[]) ∧ w.grownBy w' (some g) ∧ ArrV w' g (hc A n c 1 0 true (ShaP.digest l)) := by
  have hplt : p < w.heap.size := World.block_lt_of_cell? w _ hp
  have hglt := hA.lt
  obtain ⟨w1, hw1⟩ : ∃ w1, w1 = w.setCell ⟨g, 2, none⟩ (.int .i32 1) := ⟨_, rfl⟩
  have hA1 : ArrV w1 g (hc A n c 0 1 false S) := by rw [hw1]; exact hA.set 2 (.int .i32 1)
  have hg1 : w.grownBy w1 (some g) := by rw [hw1]; exact grown_cell w ⟨g, 2, none⟩ _
  have hp1 : w1.cell? ⟨p, 0, none⟩ = some (.pointer (some ⟨g, 0, none⟩)) := (World.cell?_of_block (hg1.block p hplt (fun e => by injection e with e; exact hgp e))).trans hp
  have hsl1 : Sl w1 w1.heap.size A n c l := by
    refine ⟨hsl.1, hsl.2.1, hsl.2.2.1, fun j u hu => ?_⟩
    obtain ⟨ad, e, hb, hc⟩ := hsl.2.2.2 j u hu
    exact ⟨ad, e, Nat.lt_of_lt_of_le hb hg1.size, (World.cell?_of_block (hg1.block _ (by rw [add_block]; exact hb) (fun e2 => by injection e2 with e2; rw [add_block] at e2; exact hAg ad e e2))).trans hc⟩
  have hL := Lib.hid (once_lock ⟨g, 2, none⟩ w (hA.atSome (i := 2) rfl) (hA.frozen 2))
  have hO := Lib.hid (hash_once g p A n c l S w1 hgp hS hp1 hA1 hsl1 hAg hm)
  have hl := run_call_load (P := Try.prog) Try.func77 (by kernel_rfl) (by kernel_rfl) (by kernel_rfl) .u32 (by kernel_rfl) (w := w1) (a := ⟨g, 1, none⟩) (x := 0) (hA1.atSome (i := 1) rfl)
  have hnot : ∀ (x : Bool) (w : World), (Op.unary .not (.bool x)).run Try.prog w = .ok (.bool (!x)) w := fun _ _ => rfl
  have HW1 := Lib.hid hw1
  clear hw1 hA hsl hp hA1 hsl1 hp1
  go_enter_defers Try.func59, Try.ntmps59
  go_wp2_with (go_at_call 78; refine hL.out.mono ?_; rintro e w' ⟨rfl, rfl⟩; rw [← HW1.out])
  go_wp2_with (first
    | (go_at_call 41; refine hO.out.mono ?_; rintro e w2 ⟨rfl, hg2, hA2⟩)
    | (go_at_call 58; go_in))
  have hA3 : ArrV ((w2.drew).setCell ⟨g, 1, none⟩ (.int .u32 1)) g (hc A n c 1 1 true (ShaP.digest l)) := (hA2.drewN 1).set 1 (.int .u32 1)
  have hA4 := hA3.set 2 (.int .i32 0)
  have hg4 : w.grownBy (((w2.drew).setCell ⟨g, 1, none⟩ (.int .u32 1)).setCell ⟨g, 2, none⟩ (.int .i32 0)) (some g) :=
    grown_step (grown_step (grown_grew (grown_step hg1 hg2) (Grew.drewN w2 1)) (grown_cell _ ⟨g, 1, none⟩ _)) (grown_cell _ ⟨g, 2, none⟩ _)
  have HA4 := Lib.hid (And.intro hg4 hA4)
  have k1 := hA2.atSome (i := 1) (x := .int .u32 0) rfl
  have k2 := hA2.frozen 1
  have k3 := hA3.atSome (i := 2) (x := .int .i32 1) rfl
  have k4 := hA3.frozen 2
  clear hA4 hg4 hA2 hA3 hl hnot
  unfold bodyPostD
  refine leaves_cons (f := 80) (args := #[.pointer (some ⟨g, 1, none⟩), .bool true]) (by simp) (by simp [go_sem]) ?_
  refine (once_store ⟨g, 1, none⟩ (.int .u32 0) .returning _ k1 k2).mono ?_
  rintro e u' w'' ⟨rfl, rfl, rfl⟩
  refine leaves_cons (f := 79) (args := #[.pointer (some ⟨g, 2, none⟩)]) (by simp [settle]) (by simp [go_sem]) ?_
  refine (once_unlock ⟨g, 2, none⟩ _ _ k3 k4).mono ?_
  rintro e u' w'' ⟨rfl, rfl, rfl⟩
  simp [Leaves, settle, results, Try.results59]
  exact HA4.out
theorem once_first (g p : Nat) (A : Option Addr) (n c : Nat) (l S : List UInt8) (w : World) (hgp : p ≠ g) (hS : S.length = 32) (hp : w.cell? ⟨p, 0, none⟩ = some (.pointer (some ⟨g, 0, none⟩))) (hA : ArrV w g (hc A n c 0 0 false S)) (hsl : Sl w w.heap.size A n c l) (hAg : ∀ ad, A = some ad → ad.block ≠ g) (hm : n ≤ 70368744177664) :
    Calls Try.prog 40 #[.pointer (some ⟨g, 1, none⟩), .func (.func 41) #[] #[.pointer (some ⟨p, 0, none⟩)]] w fun e w' => e = .returned (.tuple #[]) ∧ w.grownBy w' (some g) ∧ ArrV w' g (hc A n c 1 0 true (ShaP.digest l)) := by
  have hl := run_call_load (P := Try.prog) Try.func77 (by kernel_rfl) (by kernel_rfl) (by kernel_rfl) .u32 (by kernel_rfl) (w := w) (a := ⟨g, 1, none⟩) (x := 0) (hA.atSome (i := 1) rfl)
  have hnot : ∀ (x : Bool) (w : World), (Op.unary .not (.bool x)).run Try.prog w = .ok (.bool (!x)) w := fun _ _ => rfl
  have H := Lib.hid (once_slow g p A n c l S w hgp hS hp hA hsl hAg hm)
  clear hA hsl hp
  go_enter Try.func40, Try.ntmps40
  go_wp2_with (first
    | (go_at_call 59; refine H.out.mono ?_; rintro e w2 ⟨rfl, hg2, hA2⟩)
    | (go_at_call 58; go_in))
  go_end0
  exact ⟨rfl, hg2, hA2⟩
theorem once_done (g : Nat) (A : Option Addr) (n c : Nat) (S : List UInt8) (fv : Value) (w : World) (hA : ArrV w g (hc A n c 1 0 true S)) :
    Calls Try.prog 40 #[.pointer (some ⟨g, 1, none⟩), fv] w fun e w' => e = .returned (.tuple #[]) ∧ w' = w := by
  have hl := run_call_load (P := Try.prog) Try.func77 (by kernel_rfl) (by kernel_rfl) (by kernel_rfl) .u32 (by kernel_rfl) (w := w) (a := ⟨g, 1, none⟩) (x := 1) (hA.atSome (i := 1) rfl)
  have hnot : ∀ (x : Bool) (w : World), (Op.unary .not (.bool x)).run Try.prog w = .ok (.bool (!x)) w := fun _ _ => rfl
  clear hA
  go_enter Try.func40, Try.ntmps40
  go_wp2
  go_end0
  exact ⟨rfl, rfl⟩
end Go.Proofs.Ytohgkadbajmphaa
