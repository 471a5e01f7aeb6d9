/- The walk of rolodexlaw8.TableKnown. -/
import Derived.Test.YtkkeodfoiffofaaAwake8
import Derived.Test.YtkkeodfoiffofaaTabD
import Derived.Test.YtkkeodfoiffofaaOpen
namespace Go.Proofs.Ytkkeodfoiffofaa
open Go.RowKit
set_option linter.unusedVariables false
attribute [local go_sem] Oper.semAt_some
def ba8 : List It := [⟨[98], 1, false, []⟩, ⟨[97], 1, false, []⟩]
theorem ba8_E : TabP.buildE ba8 2 = 15 := by decide +kernel
theorem ba8_q : ∀ x ∈ ba8, x.seq < m64 := by decide +kernel
theorem smp8_E0 : TabP.buildE smp8 0 = 1 := by decide +kernel
theorem nil8_E : TabP.buildE [] 1 = 0 := by decide +kernel
theorem nil8_open : TabP.openP (TabP.build [] 1) = some ([], 1) := TabP.open_build nil8_E (by simp)
theorem open_nil8 : TabP.openP [] = none := by decide +kernel
set_option maxRecDepth 100000 in
set_option maxHeartbeats 4000000 in
theorem tableKnown_walk (w : World) : Calls Try.prog 6 #[] w fun e w' => e = .returned (.bool true) ∧ Below w.heap.size w w' := by
  go_enter Try.func6, Try.ntmps6
  have HAw := Lib.hid (awake8 w)
  have HB1 := Lib.hid (fun W : World => show Calls Try.prog 29 #[.slice (some ⟨W.heap.size, 0, none⟩) 2 2, .int .i64 2] (W.alloc (.cells #[.string ⟨#[98]⟩, .int .u64 1, .bool false, .string ⟨#[]⟩, .string ⟨#[97]⟩, .int .u64 1, .bool false, .string ⟨#[]⟩] 29)) fun e w' => ∃ A' n' c', e = .returned (.tuple #[.slice A' n' c', .int .i64 15]) ∧ Grew W w' from
    (build_is ((show OwnI (W.alloc (.cells (itvs ba8).toArray 29)) W.heap.size (some ⟨W.heap.size, 0, none⟩) 2 2 ba8 from
      Own.made W (itvs ba8).toArray _ (0, 0) 4 2 2 (itvs ba8) (Nat.le_refl _) rfl (Nat.le_refl _) (by unfold maxLen; omega) (by decide) (.inr rfl) (fun j u hu => by simpa using hu)).is (by simp)) ba8_q (by decide) ba8_E).mono
      fun e w' ⟨A, n, c, h1, h2, h3⟩ => ⟨A, n, c, h1, (grew_new W _).trans h3⟩)
  have HB2 := Lib.hid (fun (W : World) (A : Option Addr) (hO : Is W W.heap.size A 3 3 smp8) => show Calls Try.prog 29 #[.slice A 3 3, .int .i64 0] W fun e w' => ∃ A' n' c', e = .returned (.tuple #[.slice A' n' c', .int .i64 1]) ∧ Grew W w' from
    (build_is hO smp8_q (by decide) smp8_E0).mono fun e w' ⟨A, n, c, h1, h2, h3⟩ => ⟨A, n, c, h1, h3⟩)
  have HB3 := Lib.hid (fun (W : World) => show Calls Try.prog 29 #[.slice none 0 0, .int .i64 1] W fun e w' => ∃ A' n' c', e = .returned (.tuple #[.slice A' n' c', .int .i64 0]) ∧ OwnB w' W.heap.size A' n' c' (TabP.build [] 1) ∧ Grew W w' from
    (build_is (l := []) (Is.nil _ _) (by simp) (by decide) nil8_E))
  have HO0 := Lib.hid (fun (W : World) => show Calls Try.prog 31 #[.slice none 0 0] W fun e w' => e = .returned (.tuple #[.pointer none, .int .i64 7]) ∧ Grew W w' from by
    have h := tab_open none 0 0 [] W rfl (Nat.le_refl _) (by unfold maxLen; omega) (fun j u hu => by simp at hu) (by omega)
    rw [open_nil8] at h
    exact h)
  have HOp := Lib.hid (fun (A : Option Addr) (n c base : Nat) (W : World) (hO : OwnB W base A n c (TabP.build [] 1)) => show Calls Try.prog 31 #[.slice A n c] W fun e w' => ∃ T A n c F nf cf, e = .returned (.tuple #[.pointer (some ⟨T, 0, none⟩), .int .i64 0]) ∧ TabW T A n c [] 1 F nf cf (TabP.filter [] 0) w' ∧ W.heap.size ≤ T ∧ T < w'.heap.size ∧ Grew W w' from
    open_own hO (by have := build_le (l := []) (a := 1); unfold TabP.buildB at this; rw [nil8_E, if_pos rfl] at this; exact Nat.le_trans this (by omega)) nil8_open)
  have HSa := Lib.hid (fun W => sample8 W)
  go_upto_region 3 with (go_at_call 28; ((with_reducible refine HAw.out.mono ?_); rintro e w1 ⟨rfl, hG⟩; have HGr := Lib.hid (show Grew w w1 from hG); clear hG))
  go_upto_region 4 with (go_at_call 29; ((with_reducible refine (HB1.out w1).mono ?_); rintro e w2 ⟨A1, n1, c1, rfl, hG⟩; have HGr := Lib.hid (Grew.trans HGr.out hG); clear hG))
  go_upto_region 5 with (first
    | (go_at_call 30; ((with_reducible refine (HSa.out _).mono ?_); rintro e w3 ⟨A2, rfl, hO, hG⟩; have HO2 := Lib.hid hO; have HGr := Lib.hid (Grew.trans HGr.out hG); clear hO hG))
    | (go_at_call 29; ((with_reducible refine (HB2.out _ _ (HO2.out.is (Nat.le_refl _))).mono ?_); rintro e w4 ⟨A3, n3, c3, rfl, hG⟩; have HGr := Lib.hid (Grew.trans HGr.out hG); clear hG)))
  go_upto_region 6 with (go_at_call 31; ((with_reducible refine (HO0.out _).mono ?_); rintro e w5 ⟨rfl, hG⟩; have HGr := Lib.hid (Grew.trans HGr.out hG); clear hG))
  go_upto_region 7 with (go_at_call 29; ((with_reducible refine (HB3.out _).mono ?_); rintro e w6 ⟨A4, n4, c4, rfl, hO, hG⟩; have HO4 := Lib.hid hO; have HGr := Lib.hid (Grew.trans HGr.out hG); clear hO hG))
  go_upto_region 8 with (go_at_call 31; ((with_reducible refine (HOp.out _ _ _ _ _ HO4.out).mono ?_); rintro e w7 ⟨T, A5, n5, c5, F, nf, cf, rfl, hT, hT1, hT2, hG⟩; have HT := Lib.hid hT; have HGr := Lib.hid (Grew.trans HGr.out hG); (obtain rfl : n5 = 0 := hT.is.len.symm); clear hT hT1 hT2 hG))
  have HBd := Lib.hid (show Calls Try.prog 32 #[.pointer (some ⟨T, 0, none⟩)] w7 fun e w' => e = .returned (.tuple #[.string ⟨#[]⟩, .string ⟨#[]⟩]) ∧ Grew w7 w' from tab_bounds w7 HT.out)
  have HLn := Lib.hid (fun V (hG : Grew w7 V) => show Calls Try.prog 33 #[.pointer (some ⟨T, 0, none⟩)] V fun e w' => e = .returned (.int .i64 0) ∧ Grew V w' from (tab_len V (HT.out.grew hG)).mono fun e w' h => ⟨h.1, h.2 ▸ Grew.refl _⟩)
  have HBl := Lib.hid (fun V (hG : Grew w7 V) => show Calls Try.prog 34 #[.pointer (some ⟨T, 0, none⟩)] V fun e w' => e = .returned (.int .i64 0) ∧ Grew V w' from tab_blocks V (HT.out.grew hG) (by omega) (by omega))
  go_wp2_with (first
    | (go_at_call 32; ((with_reducible refine HBd.out.mono ?_); rintro e w8 ⟨rfl, hG⟩; have HG8 := Lib.hid hG; clear hG))
    | (go_at_call 33; ((with_reducible refine (HLn.out _ HG8.out).mono ?_); rintro e w9 ⟨rfl, hG⟩; have HG9 := Lib.hid (Grew.trans HG8.out hG); clear hG))
    | (go_at_call 34; ((with_reducible refine (HBl.out _ HG9.out).mono ?_); rintro e w10 ⟨rfl, hG⟩; have HG10 := Lib.hid (Grew.trans HG9.out hG); clear hG)))
  go_ret
  exact ⟨rfl, Grew.trans HGr.out HG10.out⟩
end Go.Proofs.Ytkkeodfoiffofaa
namespace Go.Proofs.Ytkkeodfoiffofaa.lawTableKnown
open Go.ChangeShapes Go.WideShapes Go.ChangeAt Go.RowKit
open Go.ChangeMaps (open_string shut_string)
set_option linter.unusedVariables false
set_option maxRecDepth 100000 in
theorem contract (H : Type) (enc : TypeId × Value → H) (W : World) (base : Nat) (args : Array Value) (ds gs : List (DataW H)) (before : List MemPlace)
    (hval : ∀ (j : Nat) t v, Try.f6.params[j]? = some t → args[j]? = some v → Value.okWide Try.prog W .any base t v)
    (hW : DataW.Whole enc Try.prog Try.f6.params.toList Rows.tableKnownSpec.vars false W args.toList ds gs before)
    (hsz : (DataW.weightsEach Try.prog (Try.f6.params.toList ++ Rows.tableKnownSpec.plain.varTypes Try.prog) (ds ++ gs)).all (· ≤ reachBytes) = true) :
    Calls Try.prog 6 args W fun e W' => ∃ v, e = .returned v ∧ Rows.tableKnownSpec.post enc Try.prog Try.f6 false true false false W args v W' := by
  have hW' := hW
  obtain ⟨p, q, hA0, hV, rfl, hfz, hnd⟩ := hW
  have hA : DataW.TrodAll enc Try.prog W 0 (fun _ => true) true Try.f6.params.toList args.toList ds p := hA0
  rw [Try.params6] at hA hval hsz
  obtain ⟨rfl, rfl, rfl⟩ := trodAll_none hA
  obtain ⟨rfl, rfl⟩ := trodVars_none hV
  clear hA0
  refine (tableKnown_walk  W).mono fun e W' ⟨he, bel⟩ => ?_
  subst he
  exact ⟨_, rfl, _, _, _, [], _, [], hW', trodAll_mk1 (shut_bool Try.underlying4 _), trodAll_mk0, rfl, bel.frame _, fun h => by cases h⟩
set_option maxRecDepth 100000 in
theorem lifted (os : Os) (started : os.Started) (H : Type) (enc : TypeId × Value → H) :
    ReturnsInHanded {} Try.checked os 6 .any (Rows.tableKnownSpec.pre6 enc Try.prog Try.f6 Rows.tableKnownRow.domain false) (Rows.tableKnownSpec.post enc Try.prog Try.f6 false true false false) := by
  refine returnsInHanded_of_change_sized (C := Try.checked) ownKnob_none started (by kernel_rfl) Try.func6
    (ChangeSpec.witness6 (enc := enc) (C := Try.checked) false ⟨#[], #[], []⟩ 8 (by kernel_rfl) (by kernel_rfl) (by kernel_rfl) (by kernel_rfl)) ?_
  intro W base args ds gs before hval hW _ hsz _
  exact contract H enc W base args ds gs before hval hW hsz
theorem over : Rows.tableKnownRow.holds Try.pinned (OpenSpec.ofChange Rows.tableKnownSpec) :=
  OpenClaim.holds_of_wide 6 Try.f6 rfl rfl rfl rfl rfl rfl rfl ⟨rfl, rfl, rfl, rfl, rfl⟩ rfl rfl rfl rfl rfl (by kernel_rfl) Try.func6 (by kernel_rfl)
    (of_decide_eq_true (by kernel_rfl)) (by unfold Func.isWrapper; first | (rw [if_pos (by decide +kernel)]; kernel_rfl) | (rw [if_neg (by decide +kernel)]; exact ⟨rfl, rfl⟩))
    (fun os started H enc _ => lifted os started H enc)
theorem proved : Rows.TableKnownSaid := over
#print axioms proved
end Go.Proofs.Ytkkeodfoiffofaa.lawTableKnown
