/- The walks of the reader's Int, Byte, Left, Err and End. -/
import Derived.Test.YtafhkjljalmheaaBinRd
namespace Go.Proofs.Ytafhkjljalmheaa
open Go.RowKit
set_option linter.unusedVariables false
theorem wf_i64' {a : Int} (h : (Lit.int .i64 a).wf = true) : -9223372036854775808 ≤ a ∧ a ≤ 9223372036854775807 := by
  simpa [Lit.wf, IntKind.min, IntKind.max, IntKind.signed, IntKind.bits] using h
set_option maxRecDepth 4000 in
set_option maxHeartbeats 400000 in
theorem int_bad (g : Nat) (l : List UInt8) (base : Nat × Nat) (w : World) (a : Int) (ha : (Lit.int .i64 a).wf = true) (h : Rd w base g l true) :
    Calls Try.prog 13 #[.pointer (some ⟨g, 0, none⟩), .int .i64 a] w fun e w' => e = .returned (.int .i64 0) ∧ RdS w' base g none ∧ w.grownBy w' (some g) := by
  have hnum : ∃ v n b, Calls Try.prog 32 #[.pointer (some ⟨g, 0, none⟩)] w fun e w' => e = .returned (.tuple #[.int .u64 v, .int .i64 n, .bool b]) ∧ ∃ k, w' = w.drewN k := ⟨_, _, _, rd_number g l true base w h⟩
  obtain ⟨v, n, b, hnum⟩ := hnum
  have HNUM := Lib.hid hnum
  obtain ⟨A, n', c, K⟩ := h.knows
  have hc0 := K.c0
  have hc1 := K.c1
  have hf1 := K.f1
  clear hnum h ha
  go_enter Try.func13, Try.ntmps13
  go_wp2_with fail
  refine HNUM.out.mono ?_
  rintro e w1 ⟨rfl, k, rfl⟩
  go_wp2_with fail
  go_ret
  exact ⟨rfl, ⟨l, rd_make (heap1 (.bool true) K.hg) K.hb K.hn K.hnc K.hcm K.hr K.hne (set1 w k g _)⟩, set1 w k g _⟩
set_option maxRecDepth 4000 in
set_option maxHeartbeats 400000 in
theorem int_none (g : Nat) (l : List UInt8) (base : Nat × Nat) (w : World) (a : Int) (ha : (Lit.int .i64 a).wf = true) (h : Rd w base g l false) (hv : BinP.num l = none) :
    Calls Try.prog 13 #[.pointer (some ⟨g, 0, none⟩), .int .i64 a] w fun e w' => e = .returned (.int .i64 0) ∧ RdS w' base g none ∧ w.grownBy w' (some g) := by
  have HNUM := Lib.hid (number_none h hv)
  obtain ⟨A, n', c, K⟩ := h.knows
  have hc0 := K.c0
  have hc1 := K.c1
  have hf1 := K.f1
  clear hv h ha
  go_enter Try.func13, Try.ntmps13
  go_wp2_with fail
  refine HNUM.out.mono ?_
  rintro e w1 ⟨rfl, k, rfl⟩
  go_wp2_with fail
  go_ret
  exact ⟨rfl, ⟨l, rd_make (heap1 (.bool true) K.hg) K.hb K.hn K.hnc K.hcm K.hr K.hne (set1 w k g _)⟩, set1 w k g _⟩
set_option maxRecDepth 4000 in
set_option maxHeartbeats 400000 in
theorem int_much (g : Nat) (l : List UInt8) (base : Nat × Nat) (w : World) (a : Int) (v n : Nat) (ha : (Lit.int .i64 a).wf = true) (h : Rd w base g l false) (hv : BinP.num l = some (v, n)) (hm : a < 0 ∨ a < (v : Int)) :
    Calls Try.prog 13 #[.pointer (some ⟨g, 0, none⟩), .int .i64 a] w fun e w' => e = .returned (.int .i64 0) ∧ RdS w' base g none ∧ w.grownBy w' (some g) := by
  have HNUM := Lib.hid (number_some h hv)
  have hbd := (BinP.num_bound hv).2.2.2
  obtain ⟨A, n', c, K⟩ := h.knows
  have hc0 := K.c0
  have hc1 := K.c1
  have hf1 := K.f1
  have hai := wf_i64' ha
  clear hv h ha
  by_cases hneg : a < 0
  · clear hbd hm
    go_enter Try.func13, Try.ntmps13
    go_wp2_with fail
    refine HNUM.out.mono ?_
    rintro e w1 ⟨rfl, k, rfl⟩
    go_wp2_with fail
    go_ret
    exact ⟨rfl, ⟨l, rd_make (heap1 (.bool true) K.hg) K.hb K.hn K.hnc K.hcm K.hr K.hne (set1 w k g _)⟩, set1 w k g _⟩
  · have hm2 : a < (v : Int) := by omega
    clear hbd hm
    go_enter Try.func13, Try.ntmps13
    go_wp2_with fail
    refine HNUM.out.mono ?_
    rintro e w1 ⟨rfl, k, rfl⟩
    go_wp2_with fail
    go_ret
    exact ⟨rfl, ⟨l, rd_make (heap1 (.bool true) K.hg) K.hb K.hn K.hnc K.hcm K.hr K.hne (set1 w k g _)⟩, set1 w k g _⟩
set_option maxRecDepth 4000 in
set_option maxHeartbeats 400000 in
theorem int_some (g : Nat) (l : List UInt8) (base : Nat × Nat) (w : World) (a : Int) (v n : Nat) (ha : (Lit.int .i64 a).wf = true) (h : Rd w base g l false) (hv : BinP.num l = some (v, n)) (hm : 0 ≤ a ∧ (v : Int) ≤ a) :
    Calls Try.prog 13 #[.pointer (some ⟨g, 0, none⟩), .int .i64 a] w fun e w' => e = .returned (.int .i64 (v : Int)) ∧ RdS w' base g (some (l.drop n)) ∧ w.grownBy w' (some g) := by
  have HNUM := Lib.hid (number_some h hv)
  have hbd := BinP.num_bound hv
  obtain ⟨A, n', c, K⟩ := h.knows
  have hc0 := K.c0
  have hc1 := K.c1
  have hf1 := K.f1
  have hf0 := K.f0
  have hnn : n ≤ n' := by rw [← K.hn]; exact hbd.2.1
  have hnc := K.hnc
  have hcm := K.hcm
  unfold maxLen at hcm
  obtain ⟨hm0, hm1⟩ := hm
  have hd1 : decide (a < 0) = false := by simp; omega
  have hd2 : decide (a < (v : Int)) = false := by simp; omega
  have hai := wf_i64' ha
  clear hv h hbd ha
  go_enter Try.func13, Try.ntmps13
  go_wp2_with fail
  refine HNUM.out.mono ?_
  rintro e w1 ⟨rfl, k, rfl⟩
  go_wp2_with fail
  · have hcn : c = n := by assumption
    go_ret
    exact ⟨rfl, rd_make (heap10 _ _ K.hg) K.hb (by rw [List.length_drop, K.hn]) (by omega) (by unfold maxLen; omega) (K.hr.cut0 (by rw [K.hn]; exact hnn) (by rw [K.hn]; exact hnc) hcn) K.hne (set10 w k g _ _), set10 w k g _ _⟩
  · have hcn : ¬ c = n := by assumption
    go_ret
    exact ⟨rfl, rd_make (heap10 _ _ K.hg) K.hb (by rw [List.length_drop, K.hn]) (by omega) (by unfold maxLen; omega) (K.hr.cut1 (by rw [K.hn]; exact hnn) (by rw [K.hn]; exact hnc) hcn) (ne_add K.hne) (set10 w k g _ _), set10 w k g _ _⟩
theorem rd_int (g : Nat) (st : BinP.St) (base : Nat × Nat) (w : World) (a : Int) (ha : (Lit.int .i64 a).wf = true) (h : RdS w base g st) :
    Calls Try.prog 13 #[.pointer (some ⟨g, 0, none⟩), .int .i64 a] w fun e w' => e = .returned (.int .i64 ((BinP.pInt a st).1 : Int)) ∧ RdS w' base g (BinP.pInt a st).2 ∧ w.grownBy w' (some g) := by
  rcases st with _ | l
  · obtain ⟨l, h⟩ := h
    exact int_bad g l base w a ha h
  · rcases hn : BinP.num l with _ | ⟨v, n⟩
    · have e : BinP.pInt a (some l) = (0, none) := by simp [BinP.pInt, hn]
      rw [e]
      exact int_none g l base w a ha h hn
    · by_cases hm : a < 0 ∨ a < (v : Int)
      · have e : BinP.pInt a (some l) = (0, none) := by simp [BinP.pInt, hn, hm]
        rw [e]
        exact int_much g l base w a v n ha h hn hm
      · have e : BinP.pInt a (some l) = (v, some (l.drop n)) := by simp [BinP.pInt, hn, hm]
        rw [e]
        exact int_some g l base w a v n ha h hn (by omega)
def BinP.endN : BinP.St → Int
  | some [] => 0
  | _ => 14
def BinP.errN : BinP.St → Int
  | some _ => 0
  | none => 14
theorem grown0 (w : World) (r : Option Nat) : w.grownBy w r := ⟨rfl, rfl, rfl, Nat.le_refl _, fun _ _ _ => rfl⟩
set_option maxRecDepth 4000 in
set_option maxHeartbeats 400000 in
theorem rd_left (g : Nat) (st : BinP.St) (base : Nat × Nat) (w : World) (h : RdS w base g st) :
    Calls Try.prog 15 #[.pointer (some ⟨g, 0, none⟩)] w fun e w' => e = .returned (.int .i64 ((BinP.left st : Nat) : Int)) ∧ w = w' := by
  rcases st with _ | l
  · obtain ⟨l, h⟩ := h
    obtain ⟨A, n, c, K⟩ := h.knows
    have hc1 := K.c1
    clear h
    go_enter Try.func15, Try.ntmps15
    go_wp2_with fail
    go_ret
    exact ⟨rfl, rfl⟩
  · obtain ⟨A, n, c, K⟩ := h.knows
    have hc0 := K.c0
    have hc1 := K.c1
    clear h
    go_enter Try.func15, Try.ntmps15
    go_wp2_with fail
    go_ret
    exact ⟨by rw [show BinP.left (some l) = n from K.hn]; rfl, rfl⟩
set_option maxRecDepth 4000 in
set_option maxHeartbeats 400000 in
theorem rd_err (g : Nat) (st : BinP.St) (base : Nat × Nat) (w : World) (h : RdS w base g st) :
    Calls Try.prog 14 #[.pointer (some ⟨g, 0, none⟩)] w fun e w' => e = .returned (.int .i64 (BinP.errN st)) ∧ w = w' := by
  rcases st with _ | l
  · obtain ⟨l, h⟩ := h
    obtain ⟨A, n, c, K⟩ := h.knows
    have hc1 := K.c1
    clear h
    go_enter Try.func14, Try.ntmps14
    go_wp2_with fail
    go_ret
    exact ⟨rfl, rfl⟩
  · obtain ⟨A, n, c, K⟩ := h.knows
    have hc1 := K.c1
    clear h
    go_enter Try.func14, Try.ntmps14
    go_wp2_with fail
    go_ret
    exact ⟨rfl, rfl⟩
set_option maxRecDepth 4000 in
set_option maxHeartbeats 400000 in
theorem rd_end (g : Nat) (st : BinP.St) (base : Nat × Nat) (w : World) (h : RdS w base g st) :
    Calls Try.prog 17 #[.pointer (some ⟨g, 0, none⟩)] w fun e w' => e = .returned (.int .i64 (BinP.endN st)) ∧ w = w' := by
  rcases st with _ | l
  · obtain ⟨l, h⟩ := h
    obtain ⟨A, n, c, K⟩ := h.knows
    have hc1 := K.c1
    clear h
    go_enter Try.func17, Try.ntmps17
    go_wp2_with fail
    go_ret
    exact ⟨rfl, rfl⟩
  · obtain ⟨A, n, c, K⟩ := h.knows
    have hc0 := K.c0
    have hc1 := K.c1
    have hn := K.hn
    clear h
    rcases l with _ | ⟨x, r⟩
    · have hn0 : n < 1 := by rw [← hn]; simp
      clear hn
      go_enter Try.func17, Try.ntmps17
      go_wp2_with fail
      go_ret
      exact ⟨rfl, rfl⟩
    · have hn0 : 0 < n := by rw [← hn]; simp
      clear hn
      go_enter Try.func17, Try.ntmps17
      go_wp2_with fail
      go_ret
      exact ⟨rfl, rfl⟩
end Go.Proofs.Ytafhkjljalmheaa
