/- The package's own compare of items. -/
import Derived.Test.YtemckkcbakccnaaItemCmp
namespace Go.Proofs.Ytemckkcbakccnaa
open Go.RowKit
set_option linter.unusedVariables false
set_option maxRecDepth 100000 in
set_option maxHeartbeats 1000000 in
theorem merge_compare (x y : It) (w : World) : Calls Try.prog 23 #[iv x, iv y] w fun e w' => e = .returned (.int .i64 (ItP.cmp x y)) ∧ Below w.heap.size w w' := by
  have HC := Lib.hid (show (if ItP.cmpK x.key y.key = 0 then ItP.cmpN y.seq x.seq else ItP.cmpK x.key y.key) = ItP.cmp x y from rfl)
  obtain ⟨R, hR⟩ : ∃ R, R = ItP.cmp x y := ⟨_, rfl⟩
  rw [← hR] at HC ⊢
  obtain ⟨K, hK⟩ : ∃ K, K = ItP.cmpK x.key y.key := ⟨_, rfl⟩
  obtain ⟨N, hN⟩ : ∃ N, N = ItP.cmpN y.seq x.seq := ⟨_, rfl⟩
  rw [← hK, ← hN] at HC
  have HS := Lib.hid (cmp_s x.key y.key)
  have HU := Lib.hid (cmp_u y.seq x.seq)
  rw [← hK] at HS
  rw [← hN] at HU
  clear hK hN hR
  go_enter Try.func23, Try.ntmps23
  go_upto_region 1 with fail
  refine wp_region_st 10 (by kernel_rfl) (by kernel_rfl) ?_
  simp only [List.take_succ_cons, List.take_zero, List.drop_succ_cons, List.drop_zero]
  repeat (first
    | (refine wpS_value (v := ?_) rfl ?_ ?_; rotate_left; (focus (simp [go_sem]; (try go_ints); first | done | (with_reducible rfl))); (simp only [Act.put, List.setIfInBounds_toArray, List.set_cons_succ, List.set_cons_zero]))
    | (refine wpS_call (.int .i64 K) _ _ rfl ?_ (HS.out _) ?_; (focus (simp [go_sem]; done)); (simp only [Act.put, List.setIfInBounds_toArray, List.set_cons_succ, List.set_cons_zero]))
    | (refine wpS_call (.int .i64 N) _ _ rfl ?_ (HU.out _) ?_; (focus (simp [go_sem]; done)); (simp only [Act.put, List.setIfInBounds_toArray, List.set_cons_succ, List.set_cons_zero])))
  refine wpStill_nil ?_
  go_wp2_with (go_at_call 37; refine (cmp_or_r _ _ K N R HC.out _ ?_ ?_).mono ?_; (focus go_simp); (focus go_simp); rintro e w' ⟨rfl, rfl⟩)
  go_ret
  exact ⟨rfl, (bdrew (((Below.refl _ _).alloc (Nat.le_refl _) _).alloc (by simp) _) 1).alloc (by simp; omega) _⟩
end Go.Proofs.Ytemckkcbakccnaa
