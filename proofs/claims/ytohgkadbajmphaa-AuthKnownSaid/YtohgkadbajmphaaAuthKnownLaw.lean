/- The walk of rolodexlaw18.AuthKnown. -/
import Derived.Test.YtohgkadbajmphaaAwake18
import Derived.Test.YtohgkadbajmphaaOpen
namespace Go.Proofs.Ytohgkadbajmphaa
open Go.RowKit
set_option linter.unusedVariables false
theorem parse_head : AuthP.parse [118, 49, 46] = none := by decide +kernel
set_option maxRecDepth 100000 in
set_option maxHeartbeats 4000000 in
theorem authKnown_walk (w : World) : Calls Try.prog 10 #[] w fun e w' => e = .returned (.bool true) ∧ Below w.heap.size w w' := by
  obtain ⟨Z, hZ⟩ : ∃ C, C = clv AuthP.none0 := ⟨_, rfl⟩
  have HZl := Lib.hid (show Z.length = 4 ∧ ∀ v ∈ Z, v.oneCell' = true by rw [hZ]; exact ⟨rfl, one_clv _⟩)
  have HRead : Hid (∀ W, Calls Try.prog 31 #[.string ⟨#[118, 49, 46]⟩] W fun e w' => e = .returned (.tuple #[.agg Z.toArray, .int .i64 8]) ∧ Grew W w') := Lib.hid fun W => by
    have h := auth_Read [118, 49, 46] W (by simp)
    have e1 : readC [118, 49, 46] = AuthP.none0 := by unfold readC; rw [parse_head]
    have e2 : readE [118, 49, 46] = 8 := by unfold readE; rw [parse_head]
    rw [e1, e2, ← hZ] at h
    exact h
  have HI1 := Lib.hid (fun g W => issue_no g 16 0 0 1 W (by omega))
  have HI2 := Lib.hid (fun g W => issue_no g 0 0 (-1) 1 W (by omega))
  have HI3 := Lib.hid (fun g W => issue_no g 0 0 0 0 W (by omega))
  have HRev : Hid (∀ (B T g : Nat) W, Keep W B T g [] 0 0 (fun _ => false) 0 → Calls Try.prog 32 #[.pointer (some ⟨g, 0, none⟩), .int .u64 1] W fun e w' => e = .returned (.int .i64 1) ∧ W = w') := Lib.hid fun B T g W hK => by
    refine (keep_revoke B T g [] 0 0 (fun _ => false) 0 1 W hK (by unfold two64; omega) (by omega)).mono fun e w' h => ?_
    unfold Revoked at h
    rw [if_pos (by omega)] at h
    exact h
  clear hZ
  go_enter Try.func10, Try.ntmps10
  go_upto_region 3 with (go_at_call 28; refine (awake18 w).mono ?_; rintro e w1 ⟨rfl, hB1⟩)
  have HB1 := Lib.hid hB1
  clear hB1
  go_upto_region 4 with (go_at_call 29; refine (auth_new none 0 0 0 [] w1 (Sl.nil _ _) (Nat.zero_le _) (by omega)).mono ?_; rintro e w2 ⟨g, rfl, hK, hg⟩)
  have HK := Lib.hid hK
  have HB2 := Lib.hid (HB1.out.trans (hg.mono HB1.out.size))
  clear hK hg
  go_upto_region 5 with (go_at_call 30; refine (HI1.out _ _).mono ?_; rintro e w3 ⟨rfl, rfl⟩)
  go_upto_region 6 with (go_at_call 30; refine (HI2.out _ _).mono ?_; rintro e w3 ⟨rfl, rfl⟩)
  go_upto_region 7 with (go_at_call 30; refine (HI3.out _ _).mono ?_; rintro e w3 ⟨rfl, rfl⟩)
  go_upto_region 8 with (first
    | (go_at_call 31; refine (HRead.out _).mono ?_; rintro e w3 ⟨rfl, hg⟩; have HST := Lib.hid (boxedC_store w3 Z HZl.out.1 HZl.out.2))
    | (refine wpList_value (o := ⟨some 8, _, _, _, _, _⟩) (v := .pointer (some ⟨w3.heap.size, 0, none⟩)) (w' := w3.alloc (.cells #[.int .i64 0, .int .u64 0, .int .u64 0, .int .i64 0] 50)) rfl (by kernel_rfl) ?_)
    | (refine wpList_store_mid rfl 50 (.tmp 8) (.tmp 30) rfl w3.heap.size 0 Z.toArray rfl rfl HST.out.1 HST.out.2.1 HST.out.2.2.1 ?_; rw [show (w3.alloc (.cells #[.int .i64 0, .int .u64 0, .int .u64 0, .int .i64 0] 50)).setCells w3.heap.size 0 Z.toArray.toList = boxedC w3 Z from by rw [List.toList_toArray]; rfl]))
  have hg3 := Grew.trans hg (boxedC_grew w3 Z)
  have HK3 := Lib.hid (HK.out.grew hg3)
  have HB3 := Lib.hid (HB2.out.trans (hg3.mono HB2.out.size))
  clear hg hg3 HST
  go_wp2_with (first
    | (go_at_call 32; refine (HRev.out _ _ _ _ HK3.out).mono ?_; rintro e wx ⟨rfl, rfl⟩)
    | (go_at_call 33; refine (keep_issued _ _ _ _ _ _ _ _ _ HK3.out).mono ?_; rintro e wx ⟨rfl, rfl⟩))
  go_ret
  exact ⟨rfl, HB3.out⟩
end Go.Proofs.Ytohgkadbajmphaa
namespace Go.Proofs.Ytohgkadbajmphaa.lawAuthKnown
open Go.ChangeShapes Go.WideShapes Go.ChangeAt Go.RowKit
open Go.ChangeMaps (open_string shut_string)
set_option linter.unusedVariables false
set_option maxRecDepth 100000 in
theorem contract (H : Type) (enc : TypeId × Value → H) (W : World) (base : Nat) (args : Array Value) (ds gs : List (DataW H)) (before : List MemPlace)
    (hval : ∀ (j : Nat) t v, Try.f10.params[j]? = some t → args[j]? = some v → Value.okWide Try.prog W .any base t v)
    (hW : DataW.Whole enc Try.prog Try.f10.params.toList Rows.authKnownSpec.vars false W args.toList ds gs before)
    (hsz : (DataW.weightsEach Try.prog (Try.f10.params.toList ++ Rows.authKnownSpec.plain.varTypes Try.prog) (ds ++ gs)).all (· ≤ reachBytes) = true) :
    Calls Try.prog 10 args W fun e W' => ∃ v, e = .returned v ∧ Rows.authKnownSpec.post enc Try.prog Try.f10 false true false false W args v W' := by
  have hW' := hW
  obtain ⟨p, q, hA0, hV, rfl, hfz, hnd⟩ := hW
  have hA : DataW.TrodAll enc Try.prog W 0 (fun _ => true) true Try.f10.params.toList args.toList ds p := hA0
  rw [Try.params10] at hA hval hsz
  obtain ⟨rfl, rfl, rfl⟩ := trodAll_none hA
  obtain ⟨rfl, rfl⟩ := trodVars_none hV
  clear hA0
  refine (authKnown_walk  W).mono fun e W' ⟨he, bel⟩ => ?_
  subst he
  exact ⟨_, rfl, _, _, _, [], _, [], hW', trodAll_mk1 (shut_bool Try.underlying4 _), trodAll_mk0, rfl, bel.frame _, fun h => by cases h⟩
set_option maxRecDepth 100000 in
theorem lifted (os : Os) (started : os.Started) (H : Type) (enc : TypeId × Value → H) :
    ReturnsInHanded {} Try.checked os 10 .any (Rows.authKnownSpec.pre6 enc Try.prog Try.f10 Rows.authKnownRow.domain false) (Rows.authKnownSpec.post enc Try.prog Try.f10 false true false false) := by
  refine returnsInHanded_of_change_sized (C := Try.checked) ownKnob_none started (by kernel_rfl) Try.func10
    (ChangeSpec.witness6 (enc := enc) (C := Try.checked) false ⟨#[], #[], []⟩ 8 (by kernel_rfl) (by kernel_rfl) (by kernel_rfl) (by kernel_rfl)) ?_
  intro W base args ds gs before hval hW _ hsz _
  exact contract H enc W base args ds gs before hval hW hsz
theorem over : Rows.authKnownRow.holds Try.pinned (OpenSpec.ofChange Rows.authKnownSpec) :=
  OpenClaim.holds_of_wide 10 Try.f10 rfl rfl rfl rfl rfl rfl rfl ⟨rfl, rfl, rfl, rfl, rfl⟩ rfl rfl rfl rfl rfl (by kernel_rfl) Try.func10 (by kernel_rfl)
    (of_decide_eq_true (by kernel_rfl)) (by unfold Func.isWrapper; first | (rw [if_pos (by decide +kernel)]; kernel_rfl) | (rw [if_neg (by decide +kernel)]; exact ⟨rfl, rfl⟩))
    (fun os started H enc _ => lifted os started H enc)
theorem proved : Rows.AuthKnownSaid := over
#print axioms proved
end Go.Proofs.Ytohgkadbajmphaa.lawAuthKnown
