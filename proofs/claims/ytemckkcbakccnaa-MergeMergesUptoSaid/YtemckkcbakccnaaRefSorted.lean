/- The walk of rolodexref8.Sorted. -/
import Derived.Test.YtemckkcbakccnaaItemEq
namespace Go.Proofs.Ytemckkcbakccnaa
open Go.RowKit
set_option linter.unusedVariables false
theorem srt_snoc (a b : It) : ∀ p : List It, ItP.srt (p ++ [a, b]) = (ItP.srt (p ++ [a]) && ItP.ahead a b)
  | [] => by simp [ItP.srt]
  | [x] => by simp [ItP.srt]
  | x :: y :: r => by
    have ih := srt_snoc a b (y :: r)
    simp only [List.cons_append, ItP.srt] at ih ⊢
    rw [ih, Bool.and_assoc]
theorem srt_front : ∀ {p q : List It}, ItP.srt (p ++ q) = true → ItP.srt p = true
  | [], _, _ => rfl
  | [_], _, _ => rfl
  | x :: y :: r, q, h => by
    simp only [List.cons_append, ItP.srt, Bool.and_eq_true] at h ⊢
    exact ⟨h.1, srt_front (p := y :: r) (q := q) (by simpa using h.2)⟩
theorem srt_take2 {l : List It} {k : Nat} {a b : It} (ha : l[k]? = some a) (hb : l[k + 1]? = some b) : ItP.srt (l.take (k + 2)) = (ItP.srt (l.take (k + 1)) && ItP.ahead a b) := by
  rw [List.take_add_one (i := k + 1), hb, List.take_add_one, ha]
  have := srt_snoc a b (l.take k)
  simpa using this
theorem srt_not {l : List It} {k : Nat} (h : ItP.srt (l.take k) = false) : ItP.srt l = false := by
  cases h2 : ItP.srt l with
  | false => rfl
  | true =>
    have : ItP.srt (l.take k) = true := srt_front (q := l.drop k) (by rw [List.take_append_drop]; exact h2)
    rw [this] at h
    cases h
theorem srt_short {l : List It} (h : l.length ≤ 1) : ItP.srt l = true := by
  rcases l with _ | ⟨a, _ | ⟨b, r⟩⟩
  · rfl
  · rfl
  · simp at h
/-- the cells of an item of a slice that came in, for all that comes of a world by growth -/
theorem is_grew {w wr : World} {A : Option Addr} {n c : Nat} {l : List It} (h : Is w w.heap.size A n c l) (hB : Below w.heap.size w wr) {i : Nat} {x : It} (hx : l[i]? = some x) :
    ∃ g o, A = some ⟨g, o, none⟩ ∧ ∀ y : GrewOf wr, y.1.cell? ⟨g, o + i * 4, none⟩ = some (sv x.key) ∧ y.1.cell? ⟨g, o + i * 4 + 1, none⟩ = some (.int .u64 (x.seq : Int)) ∧ y.1.cell? ⟨g, o + i * 4 + 2, none⟩ = some (.bool x.gone) ∧ y.1.cell? ⟨g, o + i * 4 + 3, none⟩ = some (sv x.val) := by
  obtain ⟨g, o, e, hb, hr⟩ := h.at hx
  exact ⟨g, o, e, fun y => range_cells (range_below hr (Below.trans hB (Below.mono y.2 hB.size)) hb)⟩
set_option maxRecDepth 100000 in
set_option maxHeartbeats 1000000 in
theorem ref_sorted (A : Option Addr) (n c : Nat) (l : List It) (w : World) (h : Is w w.heap.size A n c l) (hn : n ≤ 1000000) :
    Calls Try.prog 14 #[.slice A n c] w fun e w' => e = .returned (.bool (ItP.srt l)) ∧ Grew w w' := by
  have hl := h.len
  have hm := h.le
  have HI := Lib.hid h
  clear h
  go_enter Try.func14, Try.ntmps14
  go_wp2_with fail
  go_loopw [3] (fun i wy => ∃ k : Nat, (k + 1 ≤ n ∨ k = 0) ∧ i = .int .i64 ((k : Int) + 1) ∧ ItP.srt (l.take (k + 1)) = true ∧ Grew w wy) (fun i _ => n - (intOf i).toNat)
  case atStart => exact ⟨0, .inr rfl, rfl, srt_short (by simp; omega), Grew.refl _⟩
  case round =>
    obtain ⟨k, hk, rfl, hs, hG⟩ := hrel
    have HG := Lib.hid hG
    have HS := Lib.hid hs
    clear hs hG
    have i0 : (0 : Int) ≤ (k : Int) := by omega
    by_cases hlt : k + 1 < n
    · obtain ⟨x, hx⟩ : ∃ x, l[k]? = some x := ⟨_, List.getElem?_eq_getElem (by omega)⟩
      obtain ⟨y, hy⟩ : ∃ y, l[k + 1]? = some y := ⟨_, List.getElem?_eq_getElem (by omega)⟩
      have HA := Lib.hid (srt_take2 hx hy)
      obtain ⟨g1, o1, rfl, q1⟩ := is_grew HI.out HG.out hx
      obtain ⟨g2, o2, e2, q2⟩ := is_grew HI.out HG.out hy
      cases e2
      have i1 : (k : Int) + 1 < (n : Int) := by omega
      have i2 : (k : Int) < (n : Int) := by omega
      obtain ⟨b, hb⟩ : ∃ b, b = ItP.ahead x y := ⟨_, rfl⟩
      have HR : Hid (∀ W, Calls Try.prog 31 #[iv x, iv y] W fun e w' => e = .returned (.bool b) ∧ Grew W w') := Lib.hid fun W => by rw [hb]; exact ref_ahead x y W
      rw [← hb, HS.out, Bool.true_and] at HA
      clear hx hy hb
      cases b
      all_goals
        go_upto_region 4 with fail
        have hqq := And.intro q1 (And.intro q2 (And.intro i1 (And.intro i2 i0)))
        clear q1 q2
        refine wp_region_x [] (by kernel_rfl) (by kernel_rfl) (by kernel_rfl) ?_
        simp only [blank, List.foldl_nil]
        repeat (first | (refine wpX_value (v := ?_) rfl (by intros; simp) rfl rfl (fun x => ?_) ?_; rotate_left; (focus (simp [go_sem, hqq, ↓IntWalk.iteOmega]; (try go_ints); first | done | (with_reducible rfl))); (simp only [Act.put, List.setIfInBounds_toArray, List.set_cons_succ, List.set_cons_zero])) | (refine wpX_call (.bool _) _ _ rfl (by intros; simp) rfl rfl (fun x => ?_) (fun W _ => HR.out W) ?_; (focus (simp [go_sem]; done)); (simp only [Act.put, List.setIfInBounds_toArray, List.set_cons_succ, List.set_cons_zero])))
        (refine wpX_nil ?_; intro xb wx hxg xl; obtain ⟨xf, xe⟩ := LikeAll.end_ xl; clear xl; subst xe; simp only [fill, List.foldl_nil, Act.put])
        clear hqq
        go_wp2_with fail
      · go_ret
        exact ⟨by rw [srt_not HA.out]; rfl, HG.out.trans hxg⟩
      · go_roundw
        case rel => exact ⟨k + 1, .inl hlt, by go_num, HA.out, HG.out.trans hxg⟩
        case measure => simp [intOf]; omega
    · have HT := Lib.hid (show l.take (k + 1) = l from List.take_of_length_le (by omega))
      have i1 : ¬ (k : Int) + 1 < (n : Int) := by omega
      go_wp2_with fail
      go_ret
      exact ⟨by have := HS.out; rw [HT.out] at this; rw [this]; rfl, HG.out⟩
end Go.Proofs.Ytemckkcbakccnaa
