/- The walk of rolodexlaw2.ShaEqual. -/
import Derived.Test.YtohgkadbajmphaaAwake2
namespace Go.Proofs.Ytohgkadbajmphaa
open Go.RowKit
set_option linter.unusedVariables false
theorem BytesIn.sl {w : World} {A : Option Addr} {n c : Nat} {l : List UInt8} (b : BytesIn w A n c l) : Sl w w.heap.size A n c l := ⟨b.len, b.le, b.max, b.row⟩
theorem dec_beq (l m : List UInt8) : decide (l = m) = (l == m) := by rw [Bool.eq_iff_iff, decide_eq_true_iff, beq_iff_eq]
set_option maxHeartbeats 1000000 in
theorem shaEqual_walk (A0 : Option Addr) (n0 c0 : Nat) (l0 : List UInt8) (A1 : Option Addr) (n1 c1 : Nat) (l1 : List UInt8) (w : World) (b0 : BytesIn w A0 n0 c0 l0) (z0 : n0 * 1 ≤ 140737488351232) (b1 : BytesIn w A1 n1 c1 l1) (z1 : n1 * 1 ≤ 140737488351232) :
    Calls Try.prog 7 #[.slice A0 n0 c0, .slice A1 n1 c1] w fun e w' => e = .returned (.bool true) ∧ Below w.heap.size w w' := by
  have S0 := Lib.hid b0.sl
  have S1 := Lib.hid b1.sl
  have hE := Lib.hid (show ∀ W : World, Grew w W → Calls Try.prog 21 #[.slice A0 n0 c0, .slice A1 n1 c1] W fun e w' => e = .returned (.bool (l0 == l1)) ∧ Grew W w' from fun W hW => by rw [← dec_beq]; exact sha_equal _ _ _ _ _ _ w.heap.size l0 l1 W (S0.out.below hW) (S1.out.below hW) hW.size)
  have hE2 := Lib.hid (show ∀ (A : Option Addr) (n c : Nat) (W : World), Grew w W → Sl W W.heap.size A n c l0 → Calls Try.prog 21 #[.slice A0 n0 c0, .slice A n c] W fun e w' => e = .returned (.bool true) ∧ Grew W w' from fun A n c W hW h => (sha_equal _ _ _ _ _ _ W.heap.size l0 l0 W ((S0.out.below hW).more hW.size) h (Nat.le_refl _)).mono fun e w' k => ⟨by rw [k.1]; simp, k.2⟩)
  clear b0 b1
  go_enter Try.func7, Try.ntmps7
  go_upto_region 1 with fail
  refine F.wp_region_x [19, 21] (by kernel_rfl) (by kernel_rfl) (by kernel_rfl) ?_
  simp only [F.blank, List.foldl_cons, List.foldl_nil, Act.put, List.setIfInBounds_toArray, List.set_cons_succ, List.set_cons_zero]
  repeat (first
    | (refine F.wpX_value (v := ?_) rfl (by intros; simp) rfl rfl (fun x => ?_) ?_; rotate_left; (focus (simp [go_sem]; (try go_ints); first | done | (with_reducible rfl))); (simp only [Act.put, List.setIfInBounds_toArray, List.set_cons_succ, List.set_cons_zero]))
    | (refine F.wpX_call (.bool true) _ _ rfl (by intros; simp) rfl rfl (fun _ => ?_) (fun w' _ => awake2 w') ?_; (focus (simp [go_sem]; done)); (simp only [Act.put, List.setIfInBounds_toArray, List.set_cons_succ, List.set_cons_zero]))
    | (refine F.wpX_call (.bool (l0 == l1)) _ _ rfl (by intros; simp) rfl rfl (fun _ => ?_) (fun w' hw' => hE.out w' hw') ?_; (focus (simp [go_sem]; done)); (simp only [Act.put, List.setIfInBounds_toArray, List.set_cons_succ, List.set_cons_zero]))
    | (refine F.wpX_str8 A0 n0 c0 w.heap.size l0 rfl rfl rfl rfl S0.out.1 (Nat.le_refl _) S0.out.2.2.2 ?_; (simp only [Act.put, List.setIfInBounds_toArray, List.set_cons_succ, List.set_cons_zero]))
    | (refine F.wpX_str8 A1 n1 c1 w.heap.size l1 rfl rfl rfl rfl S1.out.1 (Nat.le_refl _) S1.out.2.2.2 ?_; (simp only [Act.put, List.setIfInBounds_toArray, List.set_cons_succ, List.set_cons_zero]))
    | (refine F.wpX_build [] rfl rfl (by unfold maxLen; simp) (fun _ _ => ?_) ?_; (focus (simp [go_sem]; done)); (simp only [Act.put, List.setIfInBounds_toArray, List.set_cons_succ, List.set_cons_zero]))
    | (refine F.wpX_app0 (s := 19) (.tmp 20) rfl rfl rfl rfl rfl rfl A0 n0 c0 w.heap.size l0 (fun a' W hl => F.like_not (t := 20) hl rfl rfl) S0.out (Nat.le_refl _) (by omega) rfl ?_; (simp only [Act.put, List.setIfInBounds_toArray, List.set_cons_succ, List.set_cons_zero]))
    | (refine F.wpX_callR (o := ⟨some 22, _, _, _, _, _⟩) (.bool true) 21 rfl rfl (fun a' W hg hl => ?_) ?_; (focus (obtain ⟨A, n, c, e1, h1⟩ := F.like_mem (t := 21) hl rfl rfl rfl; have e2 := F.like_not (t := 18) hl rfl rfl; simp [go_sem] at e1 e2; exact ⟨#[.slice A0 n0 c0, .slice A n c], by simp [go_sem, e1, e2], hE2.out A n c W hg h1⟩)); (simp only [Act.put, List.setIfInBounds_toArray, List.set_cons_succ, List.set_cons_zero])))
  (refine F.wpX_nil ?_; intro xb wx hxg xl; obtain ⟨xf, xe⟩ := F.LikeAll.end_ xl; clear xl; subst xe; try simp only [F.fill, List.foldl_cons, List.foldl_nil, Act.put, List.setIfInBounds_toArray, List.set_cons_succ, List.set_cons_zero])
  go_wp2_with fail
  go_ret
  exact ⟨rfl, hxg⟩
end Go.Proofs.Ytohgkadbajmphaa
