/- The walk of rolodexlaw10.MergeKnown. -/
import Derived.Test.YtemckkcbakccnaaMergeThinsWalk
namespace Go.Proofs.Ytemckkcbakccnaa
open Go.RowKit
set_option linter.unusedVariables false
def unl : List It := [⟨[98], 0, false, []⟩, ⟨[97], 0, false, []⟩]
def two4 : List It := [⟨[97], 3, false, [120]⟩, ⟨[98], 2, false, [122]⟩]
theorem unl_merge : MrgP.mergeE [unl] = 15 := by decide +kernel
theorem nil_merge : MrgP.mergeL [] = [] ∧ MrgP.mergeE [] = 0 := by decide +kernel
theorem unl_thin : MrgP.thin unl [] false = [] := by decide +kernel
theorem seen_two4 : MrgP.seen smp 4 = two4 := by decide +kernel
theorem unl_own (W : World) : OwnI (W.alloc (.cells #[.string ⟨#[98]⟩, .int .u64 0, .bool false, .string ⟨#[]⟩, .string ⟨#[97]⟩, .int .u64 0, .bool false, .string ⟨#[]⟩] 29)) W.heap.size (some ⟨W.heap.size, 0, none⟩) 2 2 unl :=
  Own.made W _ _ (0, 0) 4 2 2 (itvs unl) (Nat.le_refl _) rfl (Nat.le_refl _) (by unfold maxLen; omega) (by decide) (.inr rfl) (fun j u hu => by rw [← Array.getElem?_toList]; exact hu)
set_option maxRecDepth 100000 in
set_option maxHeartbeats 4000000 in
theorem mergeKnown_walk (w : World) : Calls Try.prog 3 #[] w fun e w' => e = .returned (.bool true) ∧ Below w.heap.size w w' := by
  have HAw := Lib.hid (awake10 w)
  have HSa := Lib.hid (fun W => sample_is W)
  have HMu : Hid (∀ W, Calls Try.prog 10 #[.slice (some ⟨W.heap.size + 1, 0, none⟩) 1 1] ((W.alloc (.cells #[.string ⟨#[98]⟩, .int .u64 0, .bool false, .string ⟨#[]⟩, .string ⟨#[97]⟩, .int .u64 0, .bool false, .string ⟨#[]⟩] 29)).alloc (.cells #[.slice (some ⟨W.heap.size, 0, none⟩) 2 2] 23)) fun e w' => ∃ A n c, e = .returned (.tuple #[.slice A n c, .int .i64 15]) ∧ Grew W w') := Lib.hid fun W => by
    have hsz : (W.alloc (.cells #[.string ⟨#[98]⟩, .int .u64 0, .bool false, .string ⟨#[]⟩, .string ⟨#[97]⟩, .int .u64 0, .bool false, .string ⟨#[]⟩] 29)).heap.size = W.heap.size + 1 := by simp
    have h := mrg_merge (some ⟨(W.alloc (.cells #[.string ⟨#[98]⟩, .int .u64 0, .bool false, .string ⟨#[]⟩, .string ⟨#[97]⟩, .int .u64 0, .bool false, .string ⟨#[]⟩] 29)).heap.size, 0, none⟩) 1 1 [unl] _ (LRowI.build (W.alloc (.cells #[.string ⟨#[98]⟩, .int .u64 0, .bool false, .string ⟨#[]⟩, .string ⟨#[97]⟩, .int .u64 0, .bool false, .string ⟨#[]⟩] 29)) 23 (0, 0) #[.slice (some ⟨W.heap.size, 0, none⟩) 2 2] [unl] (fun i l h => by
      rcases i with _ | i
      · cases h
        exact ⟨_, 2, rfl, (unl_own W).is (Nat.le_refl _)⟩
      · simp at h)) rfl (by omega) (by decide)
    rw [hsz] at h
    exact h.mono fun e w' ⟨A, n, c, h1, h2, h3⟩ => ⟨A, n, c, by rw [h1, unl_merge], ((grew_new W _).trans (grew_new _ _)).trans h3⟩
  have HMn : Hid (∀ W, Calls Try.prog 10 #[.slice none 0 0] W fun e w' => ∃ A c, e = .returned (.tuple #[.slice A 0 c, .int .i64 0]) ∧ Grew W w') := Lib.hid fun W =>
    (mrg_merge none 0 0 [] W (LRowI.nil _ _ _) rfl (by omega) (by decide)).mono fun e w' ⟨A, n, c, h1, h2, h3⟩ => ⟨A, c, by
      rw [nil_merge.1] at h2
      obtain rfl : n = 0 := h2.len.symm
      rw [h1, nil_merge.2], h3⟩
  have HS4 : Hid (∀ (W : World) (A : Option Addr), Is W W.heap.size A 4 4 smp → Calls Try.prog 11 #[.slice A 4 4, .int .u64 4] W fun e w' => ∃ A' c', e = .returned (.slice A' 2 c') ∧ OwnI w' (W.heap.size + 1) A' 2 c' two4 ∧ Grew W w') := Lib.hid fun W A h => (mrg_seen A 4 4 smp 4 W h (by decide) (by omega)).mono fun e w' ⟨A', n', c', h1, h2, h3⟩ => by
    rw [seen_two4] at h2
    obtain rfl : n' = 2 := h2.len.symm
    exact ⟨A', c', h1, h2, h3⟩
  have HTu : Hid (∀ W, Calls Try.prog 13 #[.slice (some ⟨W.heap.size, 0, none⟩) 2 2, .slice none 0 0, .bool false] (W.alloc (.cells #[.string ⟨#[98]⟩, .int .u64 0, .bool false, .string ⟨#[]⟩, .string ⟨#[97]⟩, .int .u64 0, .bool false, .string ⟨#[]⟩] 29)) fun e w' => ∃ A c, e = .returned (.slice A 0 c) ∧ Grew W w') := Lib.hid fun W =>
    (mrg_thin _ none 2 2 0 0 unl [] false _ ((unl_own W).is (Nat.le_refl _)) (Ns.nil _ _) (by omega) (by omega)).mono fun e w' ⟨A, n, c, h1, h2, h3⟩ => by
      rw [unl_thin] at h2
      obtain rfl : n = 0 := h2.len.symm
      exact ⟨A, c, h1, (grew_new W _).trans h3⟩
  go_enter Try.func3, Try.ntmps3
  go_upto_region 6 with (first
    | (go_at_call 9; ((with_reducible refine HAw.out.mono ?_); rintro e w2 ⟨rfl, hB⟩; have HB2 := Lib.hid hB; clear hB))
    | (go_at_call 10; ((with_reducible refine (HMu.out w2).mono ?_); rintro e w3 ⟨A3, n3, c3, rfl, hG⟩; have HG3 := Lib.hid hG; clear hG))
    | (go_at_call 10; ((with_reducible refine (HMn.out _).mono ?_); rintro e w4 ⟨A4, c4, rfl, hG⟩; have HG4 := Lib.hid (HG3.out.trans hG); clear hG))
    | (go_at_call 12; ((with_reducible refine (HSa.out _).mono ?_); rintro e wS ⟨AS, rfl, hO, hG⟩; have HOS := Lib.hid hO; have HGS := Lib.hid (HG4.out.trans hG); clear hO hG))
    | (go_at_call 11; ((with_reducible refine (HS4.out _ _ (HOS.out.is (Nat.le_refl _))).mono ?_); rintro e w5 ⟨A5, c5, rfl, hO, hG⟩; have HO5 := Lib.hid hO; have HG5 := Lib.hid (HGS.out.trans hG); clear hO hG)))
  obtain ⟨g, o, rfl, _, hr0⟩ := (HO5.out.is (Nat.le_refl _)).at (i := 0) (x := ⟨[97], 3, false, [120]⟩) rfl
  obtain ⟨_, _, _, q0⟩ := range_cells hr0
  obtain ⟨g1, o1, e1, _, hr1⟩ := (HO5.out.is (Nat.le_refl _)).at (i := 1) (x := ⟨[98], 2, false, [122]⟩) rfl
  cases e1
  obtain ⟨_, _, _, q1⟩ := range_cells hr1
  have q0' : w5.cell? ⟨g, o + 3, none⟩ = some (.string ⟨#[120]⟩) := by simpa [sv] using q0
  have q1' : w5.cell? ⟨g, o + 4 + 3, none⟩ = some (.string ⟨#[122]⟩) := by simpa [sv] using q1
  have q1'' : w5.cell? ⟨g, o + 7, none⟩ = some (.string ⟨#[122]⟩) := by simpa using q1'
  clear q0 q1 hr0 hr1
  go_wp2_with (go_at_call 13; ((with_reducible refine (HTu.out w5).mono ?_); rintro e w6 ⟨A6, c6, rfl, hG⟩; have HG6 := Lib.hid (HG5.out.trans hG); clear hG))
  go_ret
  exact ⟨rfl, HB2.out.trans (Below.mono HG6.out HB2.out.size)⟩
end Go.Proofs.Ytemckkcbakccnaa
