/- Two items: are they the same? Are two lists? -/
import Derived.Test.YtemckkcbakccnaaItemCmp
import Derived.Laws.StructEq
namespace Go.Proofs.Ytemckkcbakccnaa
open Go.RowKit
set_option linter.unusedVariables false
theorem eq_item (x y : It) (w : World) : (Op.equalIn 10000 29 (iv x) (iv y)).run Try.prog w = .ok (decide (x = y)) w := by
  have hS : Try.prog.underlying 29 = some (.struct (Try.prog.fieldsOf 29)) := by kernel_rfl
  have hp : Try.prog.stoodInHeld 29 = false := by kernel_rfl
  rw [show (10000 : Nat) = 9999 + 1 from rfl, run_equalIn_agg w 9999 29 _ _ hS hp]
  obtain ⟨k1, q1, g1, v1⟩ := x
  obtain ⟨k2, q2, g2, v2⟩ := y
  simp only [Program.fieldsOf, Try.underlying29]
  go_simp
  by_cases h1 : k1 = k2 <;> by_cases h2 : q1 = q2 <;> by_cases h3 : g1 = g2 <;> by_cases h4 : v1 = v2 <;> simp [h1, h2, h3, h4] <;> omega
theorem eql_item (x y : It) (w : World) : (binOp .eql 29 (iv x) (iv y)).run Try.prog w = .ok (.bool (decide (x = y))) w := by
  rw [run_eql_struct, eq_item, Result.andThen_ok]
theorem neq_item (x y : It) (w : World) : (binOp .neq 29 (iv x) (iv y)).run Try.prog w = .ok (.bool (!decide (x = y))) w := by
  rw [run_neq_struct, eq_item, Result.andThen_ok]
set_option maxRecDepth 100000 in
set_option maxHeartbeats 1000000 in
/-- rolodexref8.Same -/
theorem ref_same (A1 A2 : Option Addr) (n1 c1 n2 c2 : Nat) (l1 l2 : List It) (w : World) (h1 : Is w w.heap.size A1 n1 c1 l1) (h2 : Is w w.heap.size A2 n2 c2 l2) :
    Calls Try.prog 16 #[.slice A1 n1 c1, .slice A2 n2 c2] w fun e w' => e = .returned (.bool (decide (l1 = l2))) ∧ Below w.heap.size w w' := by
  have hl1 := h1.len
  have hl2 := h2.len
  have hm1 := h1.le
  have hx1 := h1.max
  have hm2 := h2.le
  have hx2 := h2.max
  unfold maxLen at hx1 hx2
  by_cases hn : n1 = n2
  · subst hn
    have H1 := Lib.hid h1
    have H2 := Lib.hid h2
    clear h1 h2
    go_enter Try.func16, Try.ntmps16
    go_wp2_with fail
    go_loopw [5] (fun i wy => ∃ k : Nat, k ≤ n1 ∧ i = .int .i64 (k : Int) ∧ l1.take k = l2.take k ∧ Below w.heap.size w wy) (fun i _ => n1 - (intOf i).toNat)
    case atStart => exact ⟨0, Nat.zero_le _, rfl, by simp, Below.refl _ _⟩
    case round =>
      obtain ⟨k, hk, rfl, htk, hB⟩ := hrel
      have HB := Lib.hid hB
      clear hB
      have HT := Lib.hid htk
      clear htk
      by_cases hlt : k < n1
      · obtain ⟨xi, hx⟩ : ∃ x, l1[k]? = some x := ⟨_, List.getElem?_eq_getElem (by omega)⟩
        obtain ⟨yi, hy⟩ : ∃ y, l2[k]? = some y := ⟨_, List.getElem?_eq_getElem (by omega)⟩
        obtain ⟨g1, o1, rfl, hb1, hr1⟩ := H1.out.at hx
        obtain ⟨g2, o2, rfl, hb2, hr2⟩ := H2.out.at hy
        have q1 : ∀ x : GrewOf wr, x.1.cell? ⟨g1, o1 + k * 4, none⟩ = some (sv xi.key) ∧ x.1.cell? ⟨g1, o1 + k * 4 + 1, none⟩ = some (.int .u64 (xi.seq : Int)) ∧ x.1.cell? ⟨g1, o1 + k * 4 + 2, none⟩ = some (.bool xi.gone) ∧ x.1.cell? ⟨g1, o1 + k * 4 + 3, none⟩ = some (sv xi.val) := fun x => range_cells (range_below hr1 (Below.trans HB.out (Below.mono x.2 HB.out.size)) hb1)
        have q2 : ∀ x : GrewOf wr, x.1.cell? ⟨g2, o2 + k * 4, none⟩ = some (sv yi.key) ∧ x.1.cell? ⟨g2, o2 + k * 4 + 1, none⟩ = some (.int .u64 (yi.seq : Int)) ∧ x.1.cell? ⟨g2, o2 + k * 4 + 2, none⟩ = some (.bool yi.gone) ∧ x.1.cell? ⟨g2, o2 + k * 4 + 3, none⟩ = some (sv yi.val) := fun x => range_cells (range_below hr2 (Below.trans HB.out (Below.mono x.2 HB.out.size)) hb2)
        have i0 : (0 : Int) ≤ (k : Int) := by omega
        have i1 : (k : Int) < (n1 : Int) := by omega
        have hE := Lib.hid (show xi = yi ↔ l1[k]? = l2[k]? by rw [hx, hy]; simp)
        have hS := Lib.hid (show l1.take (k + 1) = l2.take (k + 1) ↔ xi = yi by
          rw [List.take_add_one, List.take_add_one, hx, hy, HT.out]
          simp)
        clear hr1 hr2 hx hy hb1 hb2
        by_cases he : xi = yi
        · have q3 := fun W => neq_item xi yi W
          rw [show (!decide (xi = yi)) = false by simp [he]] at q3
          have HE := Lib.hid he
          clear he
          go_upto_region 6 with fail
          have hqq := And.intro q1 (And.intro q2 q3)
          clear q1 q2 q3
          refine wp_region_x [] (by kernel_rfl) (by kernel_rfl) (by kernel_rfl) ?_
          simp only [blank, List.foldl_nil]
          repeat (first | (refine wpX_value (v := ?_) rfl (by intros; simp) rfl rfl (fun x => ?_) ?_; rotate_left; (focus (simp [go_sem, hqq, ↓IntWalk.iteOmega]; (try go_ints); first | done | (with_reducible rfl))); (simp only [Act.put, List.setIfInBounds_toArray, List.set_cons_succ, List.set_cons_zero])))
          (refine wpX_nil ?_; intro xb wx hxg xl; obtain ⟨xf, xe⟩ := LikeAll.end_ xl; clear xl; subst xe; simp only [fill, List.foldl_nil, Act.put])
          clear hqq
          go_wp2_with fail
          go_roundw
          case rel => exact ⟨k + 1, hlt, by go_num, hS.out.2 HE.out, Below.trans HB.out (Below.mono hxg HB.out.size)⟩
          case measure => simp [intOf]; omega
        · have q3 := fun W => neq_item xi yi W
          rw [show (!decide (xi = yi)) = true by simp [he]] at q3
          have HE := Lib.hid (show ¬ l1 = l2 from fun e => he (hE.out.2 (by rw [e])))
          clear he
          go_upto_region 6 with fail
          have hqq := And.intro q1 (And.intro q2 q3)
          clear q1 q2 q3
          refine wp_region_x [] (by kernel_rfl) (by kernel_rfl) (by kernel_rfl) ?_
          simp only [blank, List.foldl_nil]
          repeat (first | (refine wpX_value (v := ?_) rfl (by intros; simp) rfl rfl (fun x => ?_) ?_; rotate_left; (focus (simp [go_sem, hqq, ↓IntWalk.iteOmega]; (try go_ints); first | done | (with_reducible rfl))); (simp only [Act.put, List.setIfInBounds_toArray, List.set_cons_succ, List.set_cons_zero])))
          (refine wpX_nil ?_; intro xb wx hxg xl; obtain ⟨xf, xe⟩ := LikeAll.end_ xl; clear xl; subst xe; simp only [fill, List.foldl_nil, Act.put])
          clear hqq
          go_wp2_with fail
          go_ret
          exact ⟨by rw [decide_eq_false HE.out]; rfl, Below.trans HB.out (Below.mono hxg HB.out.size)⟩
      · obtain rfl : k = n1 := by omega
        have HE := Lib.hid (show l1 = l2 by have := HT.out; rwa [List.take_of_length_le (by omega), List.take_of_length_le (by omega)] at this)
        have i1 : ¬ (k : Int) < (k : Int) := by omega
        go_wp2_with fail
        go_ret
        exact ⟨by rw [decide_eq_true HE.out]; rfl, HB.out⟩
  · have i1 : ((n1 : Int) == (n2 : Int)) = false := by simp; omega
    have i2 : ((n1 : Int) != (n2 : Int)) = true := by simp; omega
    have HE := Lib.hid (show ¬ l1 = l2 from fun e => hn (by rw [← hl1, ← hl2, e]))
    clear hn h1 h2 hl1 hl2
    go_enter Try.func16, Try.ntmps16
    go_wp2_with fail
    go_ret
    exact ⟨by rw [decide_eq_false HE.out]; rfl, Below.refl _ _⟩
end Go.Proofs.Ytemckkcbakccnaa
