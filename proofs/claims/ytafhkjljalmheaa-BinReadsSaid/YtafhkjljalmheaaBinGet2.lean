/- The walks of rolodexref3.Small and String; text out of bytes inside a statement that draws its order. -/
import Derived.Test.YtafhkjljalmheaaBinGet
namespace Go.Proofs.Ytafhkjljalmheaa
open Go.RowKit
set_option linter.unusedVariables false
set_option maxRecDepth 100000 in
theorem wpQuiet_str8 {ops : Array Oper} {rest : List Oper} {a : Act} {w : World} {Q : Act → Prop} {dst : Option Tmp} {ty : TypeId} {x : Operand} {pos : String} {af : Array Edge} {g : Option (Nat × Bool)}
    (A : Option Addr) (n c B : Nat) (l : List UInt8) (hx : a.eval x = .slice A n c) (hw : Region.wanted ⟨dst, .convert 25 9 x, ty, pos, af, g⟩ (yielded ops a.tmps) = true)
    (hn : l.length = n) (hr : Row w B A (l.map b8)) (h : wpQuiet Try.prog ops (fun w' => ∃ n, w' = w.drewN n) Q rest (a.put dst (.string ⟨l.toArray⟩))) :
    wpQuiet Try.prog ops (fun w' => ∃ n, w' = w.drewN n) Q (⟨dst, .convert 25 9 x, ty, pos, af, g⟩ :: rest) a :=
  wpQuiet_step fun K hK => by
    rw [if_pos hw]
    refine ⟨.string ⟨l.toArray⟩, fun w' hw' => ?_, hK _ h⟩
    obtain ⟨m, rfl⟩ := hw'
    have := Row.toBytes (P := Try.prog) (c := c) 25 9 5 Try.underlying25 Try.underlying5 Try.underlying9 hn (hr.drewN m)
    unfold Oper.quietAt
    simp only [execOp, hx, Sem.run_bind, this, Result.andThen_ok, Sem.run_pure, Oper.quietUpon, and_self]
/-- what Small answers -/
def Smalled (w : World) (B : Nat) (l : List UInt8) (most : Int) (e : Ending) : Prop :=
  ((BinP.pInt most (some l)).2 = none ∧ e = .returned (.tuple #[.int .i64 0, .slice none 0 0, .bool false])) ∨
  (∃ (v : Nat) (r : List UInt8) (A : Option Addr) (n c : Nat), BinP.pInt most (some l) = (v, some r) ∧ e = .returned (.tuple #[.int .i64 (v : Int), .slice A n c, .bool true]) ∧ Sl w B A n c r)
def Stringed (w : World) (B : Nat) (l : List UInt8) (most : Int) (e : Ending) : Prop :=
  ((BinP.pText most (some l)).2 = none ∧ e = .returned (.tuple #[.string ⟨#[]⟩, .slice none 0 0, .bool false])) ∨
  (∃ s r A n c, BinP.pText most (some l) = (s, some r) ∧ e = .returned (.tuple #[.string ⟨s.toArray⟩, .slice A n c, .bool true]) ∧ Sl w B A n c r)
set_option maxRecDepth 4000 in
set_option maxHeartbeats 400000 in
theorem ref_small (A : Option Addr) (n c : Nat) (l : List UInt8) (B : Nat) (w : World) (most : Int) (hmw : (Lit.int .i64 most).wf = true) (h : Sl w B A n c l) :
    Calls Try.prog 24 #[.slice A n c, .int .i64 most] w fun e w' => Smalled w B l most e ∧ ∃ k, w' = w.drewN k := by
  have H := Lib.hid (ref_get A n c l B w h)
  have hmi := wf_i64' hmw
  clear hmw h
  rcases hnum : BinP.num l with _ | ⟨v, k⟩
  · have HP := Lib.hid (show (BinP.pInt most (some l)).2 = none by simp [BinP.pInt, hnum])
    have HN := Lib.hid hnum
    clear hnum
    go_enter Try.func24, Try.ntmps24
    go_wp2_with fail
    refine H.out.mono ?_
    rintro e w1 ⟨hgot, k, rfl⟩
    rcases hgot with ⟨_, v, A', n', c', rfl⟩ | ⟨v, k', A', n', c', hv, _⟩
    · go_wp2_with fail
      go_ret3
      exact ⟨.inl ⟨HP.out, rfl⟩, _, rfl⟩
    · rw [HN.out] at hv
      cases hv
  · have HN := Lib.hid hnum
    have hvb := (BinP.num_bound hnum).2.2.2
    by_cases hm : most < 0 ∨ most < (v : Int)
    · have HP := Lib.hid (show (BinP.pInt most (some l)).2 = none by simp [BinP.pInt, hnum, hm])
      clear hnum
      by_cases hneg : most < 0
      · clear hm
        go_enter Try.func24, Try.ntmps24
        go_wp2_with fail
        refine H.out.mono ?_
        rintro e w1 ⟨hgot, k, rfl⟩
        rcases hgot with ⟨hv, _⟩ | ⟨v, k', A', n', c', hv, rfl, hsl⟩
        · rw [HN.out] at hv
          cases hv
        · clear hv
          go_wp2_with fail
          go_ret3
          exact ⟨.inl ⟨HP.out, rfl⟩, _, rfl⟩
      · have hmv : most < (v : Int) := by omega
        clear hm
        go_enter Try.func24, Try.ntmps24
        go_wp2_with fail
        refine H.out.mono ?_
        rintro e w1 ⟨hgot, k, rfl⟩
        rcases hgot with ⟨hv, _⟩ | ⟨v', k', A', n', c', hv, rfl, hsl⟩
        · rw [HN.out] at hv
          cases hv
        · rw [HN.out] at hv
          injection hv with hv
          injection hv with hv1 hv2
          subst hv1 hv2
          go_wp2_with fail
          go_ret3
          exact ⟨.inl ⟨HP.out, rfl⟩, _, rfl⟩
    · have HP := Lib.hid (show BinP.pInt most (some l) = (v, some (l.drop k)) by simp only [BinP.pInt, hnum]; rw [if_neg hm])
      have hm0 : 0 ≤ most := by omega
      have hm1 : (v : Int) ≤ most := by omega
      clear hnum hm
      go_enter Try.func24, Try.ntmps24
      go_wp2_with fail
      refine H.out.mono ?_
      rintro e w1 ⟨hgot, k, rfl⟩
      rcases hgot with ⟨hv, _⟩ | ⟨v', k', A', n', c', hv, rfl, hsl⟩
      · rw [HN.out] at hv
        cases hv
      · rw [HN.out] at hv
        injection hv with hv
        injection hv with hv1 hv2
        subst hv1 hv2
        go_wp2_with fail
        go_ret3
        exact ⟨.inr ⟨_, _, _, _, _, HP.out, rfl, hsl⟩, _, rfl⟩
set_option maxRecDepth 4000 in
set_option maxHeartbeats 400000 in
theorem ref_string (A : Option Addr) (n c : Nat) (l : List UInt8) (B : Nat) (w : World) (most : Int) (hmw : (Lit.int .i64 most).wf = true) (h : Sl w B A n c l) :
    Calls Try.prog 25 #[.slice A n c, .int .i64 most] w fun e w' => Stringed w B l most e ∧ ∃ k, w' = w.drewN k := by
  have H := Lib.hid (ref_small A n c l B w most hmw h)
  clear hmw h
  go_enter Try.func25, Try.ntmps25
  go_wp2_with fail
  refine H.out.mono ?_
  rintro e w1 ⟨hgot, k, rfl⟩
  rcases hgot with ⟨hp, rfl⟩ | ⟨v, r, A', n', c', hp, rfl, hr1, hr2, hr3, hr4⟩
  · have HP := Lib.hid (show (BinP.pText most (some l)).2 = none by
      unfold BinP.pText
      rcases hq : BinP.pInt most (some l) with ⟨a, _ | b⟩
      · rfl
      · rw [hq] at hp; cases hp)
    clear hp
    go_wp2_with fail
    go_ret3
    exact ⟨.inl ⟨HP.out, rfl⟩, _, rfl⟩
  · unfold maxLen at hr3
    by_cases hlt : n' < v
    · have HP := Lib.hid (show (BinP.pText most (some l)).2 = none by
        unfold BinP.pText
        rw [hp]
        simp only
        rw [if_pos (by omega)])
      clear hp
      go_wp2_with fail
      go_ret3
      exact ⟨.inl ⟨HP.out, rfl⟩, _, rfl⟩
    · have HP := Lib.hid (show BinP.pText most (some l) = (r.take v, some (r.drop v)) by
        unfold BinP.pText
        rw [hp]
        simp only
        rw [if_neg (by omega)])
      clear hp
      subst hr1
      have hi1 : (0 : Int) ≤ (v : Int) := by omega
      have hi2 : (v : Int) ≤ (r.length : Int) := by omega
      have hi3 : (v : Int) ≤ (c' : Int) := by omega
      have hi4 : (0 : Int) ≤ (r.length : Int) := by omega
      have hi5 : (r.length : Int) ≤ (c' : Int) := by omega
      have hrow := hr4.take v
      rw [← List.map_take] at hrow
      by_cases hcut : c' = v
      · have HS := Lib.hid (show Sl (w.drewN k) B A' (r.length - v) 0 (r.drop v) from ⟨by simp, by omega, by unfold maxLen; omega, hr4.cut0 (by omega) hr2 hcut⟩)
        go_wp2_with fail
        refine wp_region_quiet_lit (by kernel_rfl) (by kernel_rfl) ?_
        repeat (first | (refine wpQuiet_str8 _ _ _ _ _ rfl rfl (by simp; omega) hrow ?_; simp only [Act.put, List.setIfInBounds_toArray, List.set_cons_succ, List.set_cons_zero]) | go_big_quiet_step (fail))
        refine wpQuiet_nil ?_
        intro _ hw'
        obtain ⟨nq, hw''⟩ := hw'
        subst hw''
        go_wp2_with fail
        go_ret3
        exact ⟨.inr ⟨_, _, _, _, _, HP.out, rfl, HS.out⟩, _, World.drewN_drewN _ _ _⟩
      · have HS := Lib.hid (show Sl (w.drewN k) B (A'.map (·.add v)) (r.length - v) (c' - v) (r.drop v) from ⟨by simp, by omega, by unfold maxLen; omega, hr4.cut1 (by omega) hr2 hcut⟩)
        go_wp2_with fail
        refine wp_region_quiet_lit (by kernel_rfl) (by kernel_rfl) ?_
        repeat (first | (refine wpQuiet_str8 _ _ _ _ _ rfl rfl (by simp; omega) hrow ?_; simp only [Act.put, List.setIfInBounds_toArray, List.set_cons_succ, List.set_cons_zero]) | go_big_quiet_step (fail))
        refine wpQuiet_nil ?_
        intro _ hw'
        obtain ⟨nq, hw''⟩ := hw'
        subst hw''
        go_wp2_with fail
        go_ret3
        exact ⟨.inr ⟨_, _, _, _, _, HP.out, rfl, HS.out⟩, _, World.drewN_drewN _ _ _⟩
end Go.Proofs.Ytafhkjljalmheaa
