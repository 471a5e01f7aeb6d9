/- The walk of merge.sorted. -/
import Derived.Test.YtemckkcbakccnaaMrgCmp
import Derived.Test.YtemckkcbakccnaaRefSorted
namespace Go.Proofs.Ytemckkcbakccnaa
open Go.RowKit
set_option linter.unusedVariables false
set_option maxRecDepth 100000 in
set_option maxHeartbeats 1000000 in
theorem mrg_sorted (A : Option Addr) (n c : Nat) (l : List It) (w : World) (h : Is w w.heap.size A n c l) (hn : n ≤ 1000000) :
    Calls Try.prog 20 #[.slice A n c] w fun e w' => e = .returned (.bool (ItP.srt l)) ∧ Grew w w' := by
  have hl := h.len
  have hm := h.le
  have HI := Lib.hid h
  clear h
  go_enter Try.func20, Try.ntmps20
  go_wp2_with fail
  go_loopw [3] (fun i wy => ∃ k : Nat, (k + 1 ≤ n ∨ k = 0) ∧ i = .int .i64 ((k : Int) + 1) ∧ ItP.srt (l.take (k + 1)) = true ∧ Grew w wy) (fun i _ => n - (intOf i).toNat)
  case atStart => exact ⟨0, .inr rfl, rfl, srt_short (by simp; omega), Grew.refl _⟩
  case round =>
    obtain ⟨k, hk, rfl, hs, hG⟩ := hrel
    have HG := Lib.hid hG
    have HS := Lib.hid hs
    clear hs hG
    have i0 : (0 : Int) ≤ (k : Int) := by omega
    by_cases hlt : k + 1 < n
    · obtain ⟨x, hx⟩ : ∃ x, l[k]? = some x := ⟨_, List.getElem?_eq_getElem (by omega)⟩
      obtain ⟨y, hy⟩ : ∃ y, l[k + 1]? = some y := ⟨_, List.getElem?_eq_getElem (by omega)⟩
      have HA := Lib.hid (srt_take2 hx hy)
      obtain ⟨g1, o1, rfl, q1⟩ := is_grew HI.out HG.out hx
      obtain ⟨g2, o2, e2, q2⟩ := is_grew HI.out HG.out hy
      cases e2
      have i1 : (k : Int) + 1 < (n : Int) := by omega
      have i2 : (k : Int) < (n : Int) := by omega
      obtain ⟨cz, hcz⟩ : ∃ cz, cz = ItP.cmp x y := ⟨_, rfl⟩
      have HR : Hid (∀ W, Calls Try.prog 23 #[iv x, iv y] W fun e w' => e = .returned (.int .i64 cz) ∧ Grew W w') := Lib.hid fun W => by rw [hcz]; exact merge_compare x y W
      have hcn := ItP.cmp_neg x y
      rw [← hcz] at hcn
      obtain ⟨b, hb⟩ : ∃ b, b = ItP.ahead x y := ⟨_, rfl⟩
      rw [← hb] at hcn
      rw [← hb, HS.out, Bool.true_and] at HA
      clear hx hy hb hcz
      cases b
      · have hz : (0 : Int) ≤ cz := by simp at hcn; omega
        clear hcn
        go_upto_region 4 with fail
        have hqq := And.intro q1 (And.intro q2 (And.intro i1 (And.intro i2 (And.intro hz i0))))
        clear q1 q2
        refine wp_region_x [] (by kernel_rfl) (by kernel_rfl) (by kernel_rfl) ?_
        simp only [blank, List.foldl_nil]
        repeat (first | (refine wpX_value (v := ?_) rfl (by intros; simp) rfl rfl (fun x => ?_) ?_; rotate_left; (focus (simp [go_sem, hqq, ↓IntWalk.iteOmega]; (try go_ints); first | done | (with_reducible rfl))); (simp only [Act.put, List.setIfInBounds_toArray, List.set_cons_succ, List.set_cons_zero])) | (refine wpX_call (.int .i64 cz) _ _ rfl (by intros; simp) rfl rfl (fun x => ?_) (fun W _ => HR.out W) ?_; (focus (simp [go_sem]; done)); (simp only [Act.put, List.setIfInBounds_toArray, List.set_cons_succ, List.set_cons_zero])))
        (refine wpX_nil ?_; intro xb wx hxg xl; obtain ⟨xf, xe⟩ := LikeAll.end_ xl; clear xl; subst xe; simp only [fill, List.foldl_nil, Act.put])
        clear hqq
        go_wp2_with fail
        go_ret
        exact ⟨by rw [srt_not HA.out]; rfl, HG.out.trans hxg⟩
      · have hz : ¬ (0 : Int) ≤ cz := by simp at hcn; omega
        clear hcn
        go_upto_region 4 with fail
        have hqq := And.intro q1 (And.intro q2 (And.intro i1 (And.intro i2 (And.intro hz i0))))
        clear q1 q2
        refine wp_region_x [] (by kernel_rfl) (by kernel_rfl) (by kernel_rfl) ?_
        simp only [blank, List.foldl_nil]
        repeat (first | (refine wpX_value (v := ?_) rfl (by intros; simp) rfl rfl (fun x => ?_) ?_; rotate_left; (focus (simp [go_sem, hqq, ↓IntWalk.iteOmega]; (try go_ints); first | done | (with_reducible rfl))); (simp only [Act.put, List.setIfInBounds_toArray, List.set_cons_succ, List.set_cons_zero])) | (refine wpX_call (.int .i64 cz) _ _ rfl (by intros; simp) rfl rfl (fun x => ?_) (fun W _ => HR.out W) ?_; (focus (simp [go_sem]; done)); (simp only [Act.put, List.setIfInBounds_toArray, List.set_cons_succ, List.set_cons_zero])))
        (refine wpX_nil ?_; intro xb wx hxg xl; obtain ⟨xf, xe⟩ := LikeAll.end_ xl; clear xl; subst xe; simp only [fill, List.foldl_nil, Act.put])
        clear hqq
        go_wp2_with fail
        go_roundw
        case rel => exact ⟨k + 1, .inl hlt, by go_num, HA.out, HG.out.trans hxg⟩
        case measure => simp [intOf]; omega
    · have HT := Lib.hid (show l.take (k + 1) = l from List.take_of_length_le (by omega))
      have i1 : ¬ (k : Int) + 1 < (n : Int) := by omega
      go_wp2_with fail
      go_ret
      exact ⟨by have := HS.out; rw [HT.out] at this; rw [this]; rfl, HG.out⟩
end Go.Proofs.Ytemckkcbakccnaa
