/- The walk of rolodexlaw18.awake. -/
import Derived.Test.YtohgkadbajmphaaAuthC
namespace Go.Proofs.Ytohgkadbajmphaa
open Go.RowKit
set_option linter.unusedVariables false
def c15 : AuthP.Cl := ⟨1, 0, 1, 15⟩
theorem good15 : AuthP.good c15 := by
  refine ⟨?_, ?_, ?_, ?_, ?_, ?_⟩ <;> simp [c15, two64]
theorem parse_dots : AuthP.parse [118, 49, 46, 46] = none := by decide +kernel
theorem eql15 (W : World) : (binOp .eql 50 (.agg (clv c15).toArray) (.agg (clv c15).toArray)).run Try.prog W = .ok (.bool true) W := by kernel_rfl
/-- what a verifying answers, told -/
theorem verify_told (base top g : Nat) (key : List UInt8) (issued : Nat) (rev : Nat → Bool) (k : Nat) (t : List UInt8) (now : Int) (C : List Value) (E : Int) (hi : issued < 1000000) (hkey : key.length ≤ 1000000) (hm : t.length ≤ 17592186044416)
    (hC : clv (AuthP.verifyC key issued rev t now) = C) (hE : AuthP.verifyE key issued rev t now = E) : ∀ asked W, asked < 1000000 → Keep W base top g key issued asked rev k →
    Calls Try.prog 35 #[.pointer (some ⟨g, 0, none⟩), .string ⟨t.toArray⟩, .int .i64 now] W fun e w' => e = .returned (.tuple #[.agg C.toArray, .int .i64 E]) ∧ Keep w' base top g key issued (asked + 1) rev k ∧ Out base top W w' := by
  intro asked W ha hK
  rw [← hC, ← hE]
  exact keep_verify base top g key issued asked rev k t now W hK ha hi hkey hm
theorem tok_len (key : List UInt8) (c : AuthP.Cl) : (AuthP.tok key c).length ≤ 150 := by
  unfold AuthP.tok
  have := body_len c
  simp [ShaP.hex_len, ShaP.mac_len, AuthP.head]
  omega
theorem verifyE_tok {key : List UInt8} {c : AuthP.Cl} (h : AuthP.good c) (issued : Nat) (rev : Nat → Bool) (now : Int) :
    AuthP.verifyE key issued rev (AuthP.tok key c) now = if issued < c.num then 8 else if rev c.num = true then 10 else if (c.over : Int) ≤ now then 9 else 0 := by
  unfold AuthP.verifyE
  rw [AuthP.parse_tok key c h]
  simp
theorem verifyC_tok {key : List UInt8} {c : AuthP.Cl} (h : AuthP.good c) (issued : Nat) (rev : Nat → Bool) (now : Int) :
    AuthP.verifyC key issued rev (AuthP.tok key c) now = if issued < c.num then AuthP.none0 else if rev c.num = true then AuthP.none0 else if (c.over : Int) ≤ now then AuthP.none0 else c := by
  unfold AuthP.verifyC
  rw [AuthP.parse_tok key c h]
  simp
theorem claim_loadAt {W : World} {g : Nat} {C : List Value} (hA : ArrV W g C) (hl : C.length = 4) : (Instr.loadAt 50 (.pointer (some ⟨g, 0, none⟩))).run Try.prog W = .ok (.agg C.toArray) W :=
  run_loadAt_mid (P := Try.prog) W g 0 50 C _ hA.range Try.underlying50 rfl (by rw [hl]; kernel_rfl)
theorem boxedC_out {base top : Nat} {w W : World} {C : List Value} (h : Out base top w W) : Out base top w (boxedC W C) := h.grew (boxedC_grew W C)
set_option maxRecDepth 100000 in
set_option maxHeartbeats 4000000 in
theorem awake18 (w : World) : Calls Try.prog 28 #[] w fun e w' => e = .returned (.bool true) ∧ Below w.heap.size w w' := by
  have kc := fun (w : World) (C : Array Value) (n c g : Nat) (hg : g = w.heap.size) => Go.Joins.run_convert_bytes_const_at (P := Try.prog) w 31 5 C n c g hg Try.underlying31 Try.underlying5
  obtain ⟨TK, hTK⟩ : ∃ t, t = AuthP.tok [107] c15 := ⟨_, rfl⟩
  have hTl : TK.length ≤ 150 := by rw [hTK]; exact tok_len _ _
  obtain ⟨CC, hCC⟩ : ∃ C, C = clv c15 := ⟨_, rfl⟩
  obtain ⟨Z, hZ⟩ : ∃ C, C = clv AuthP.none0 := ⟨_, rfl⟩
  have HCCl := Lib.hid (show CC.length = 4 ∧ ∀ v ∈ CC, v.oneCell' = true by rw [hCC]; exact ⟨rfl, one_clv _⟩)
  have HZl := Lib.hid (show Z.length = 4 ∧ ∀ v ∈ Z, v.oneCell' = true by rw [hZ]; exact ⟨rfl, one_clv _⟩)
  have HEQ := Lib.hid (show ∀ W, (binOp .eql 50 (.agg CC.toArray) (.agg CC.toArray)).run Try.prog W = .ok (.bool true) W by rw [hCC]; exact eql15)
  have HLIT := Lib.hid (show Value.agg #[.int .i64 1, .int .u64 0, .int .u64 1, .int .i64 15] = .agg CC.toArray by rw [hCC]; rfl)
  have HNew := Lib.hid (auth_new (some ⟨w.heap.size, 0, none⟩) 1 1 (w.heap.size + 1) [107] (w.alloc (.cells #[.int .u8 107] 5 (1, 2))) (sl_new w _ _ _ [107] 1 rfl (by unfold maxLen; omega) rfl) (by simp) (by omega))
  have HIssue : Hid (∀ B T g W, Keep W B T g [107] 0 0 (fun _ => false) 0 → Calls Try.prog 30 #[.pointer (some ⟨g, 0, none⟩), .int .i64 1, .int .u64 0, .int .i64 10, .int .i64 5] W fun e w' => e = .returned (.tuple #[.string ⟨TK.toArray⟩, .int .i64 0]) ∧ Keep w' B T g [107] 1 0 (fun _ => false) 0 ∧ Out B T W w') := Lib.hid fun B T g W hK => by
    rw [hTK]
    exact issue_yes B T g [107] 0 0 (fun _ => false) 0 1 0 10 5 W hK (by omega) (by simp) (by omega) c15 rfl
  have hv : ∀ (B T g : Nat) (rev : Nat → Bool) (k : Nat) (now : Int) (C : List Value) (E : Int), clv (if rev 1 = true then AuthP.none0 else if (15 : Int) ≤ now then AuthP.none0 else c15) = C → (if rev 1 = true then 10 else if (15 : Int) ≤ now then 9 else 0) = E → ∀ asked W, asked < 1000000 → Keep W B T g [107] 1 asked rev k →
      Calls Try.prog 35 #[.pointer (some ⟨g, 0, none⟩), .string ⟨TK.toArray⟩, .int .i64 now] W fun e w' => e = .returned (.tuple #[.agg C.toArray, .int .i64 E]) ∧ Keep w' B T g [107] 1 (asked + 1) rev k ∧ Out B T W w' := fun B T g rev k now C E h1 h2 =>
    verify_told B T g [107] 1 rev k TK now C E (by omega) (by simp) (by omega) (by rw [hTK, verifyC_tok good15, ← h1]; rfl) (by rw [hTK, verifyE_tok good15, ← h2]; rfl)
  have HV1 : Hid (∀ (B T g : Nat) (k asked : Nat) W, asked < 1000000 → Keep W B T g [107] 1 asked (fun _ => false) k → Calls Try.prog 35 #[.pointer (some ⟨g, 0, none⟩), .string ⟨TK.toArray⟩, .int .i64 14] W fun e w' => e = .returned (.tuple #[.agg CC.toArray, .int .i64 0]) ∧ Keep w' B T g [107] 1 (asked + 1) (fun _ => false) k ∧ Out B T W w') := Lib.hid fun B T g k asked W => hv B T g (fun _ => false) k 14 CC 0 (by rw [hCC]; rfl) rfl asked W
  have HV2 : Hid (∀ (B T g : Nat) (k asked : Nat) W, asked < 1000000 → Keep W B T g [107] 1 asked (fun _ => false) k → Calls Try.prog 35 #[.pointer (some ⟨g, 0, none⟩), .string ⟨TK.toArray⟩, .int .i64 15] W fun e w' => e = .returned (.tuple #[.agg Z.toArray, .int .i64 9]) ∧ Keep w' B T g [107] 1 (asked + 1) (fun _ => false) k ∧ Out B T W w') := Lib.hid fun B T g k asked W => hv B T g (fun _ => false) k 15 Z 9 (by rw [hZ]; rfl) rfl asked W
  have HV3 : Hid (∀ (B T g : Nat) (k asked : Nat) W, asked < 1000000 → Keep W B T g [107] 1 asked (fun j => if j = 1 then true else false) k → Calls Try.prog 35 #[.pointer (some ⟨g, 0, none⟩), .string ⟨TK.toArray⟩, .int .i64 11] W fun e w' => e = .returned (.tuple #[.agg Z.toArray, .int .i64 10]) ∧ Keep w' B T g [107] 1 (asked + 1) (fun j => if j = 1 then true else false) k ∧ Out B T W w') := Lib.hid fun B T g k asked W => hv B T g (fun j => if j = 1 then true else false) k 11 Z 10 (by rw [hZ]; rfl) rfl asked W
  have HV4 : Hid (∀ (B T g : Nat) (k asked : Nat) W, asked < 1000000 → Keep W B T g [107] 1 asked (fun j => if j = 1 then true else false) k → Calls Try.prog 35 #[.pointer (some ⟨g, 0, none⟩), .string ⟨#[118, 49, 46, 46]⟩, .int .i64 0] W fun e w' => e = .returned (.tuple #[.agg Z.toArray, .int .i64 8]) ∧ Keep w' B T g [107] 1 (asked + 1) (fun j => if j = 1 then true else false) k ∧ Out B T W w') := Lib.hid fun B T g k asked W =>
    verify_told B T g [107] 1 (fun j => if j = 1 then true else false) k [118, 49, 46, 46] 0 Z 8 (by omega) (by simp) (by simp) (by unfold AuthP.verifyC; rw [parse_dots, hZ]) (by unfold AuthP.verifyE; rw [parse_dots]) asked W
  have HRead : Hid (∀ W, Calls Try.prog 31 #[.string ⟨TK.toArray⟩] W fun e w' => e = .returned (.tuple #[.agg CC.toArray, .int .i64 0]) ∧ Grew W w') := Lib.hid fun W => by
    have h := auth_Read TK W (by omega)
    have e1 : readC TK = c15 := by unfold readC; rw [hTK, AuthP.parse_tok _ _ good15]
    have e2 : readE TK = 0 := by unfold readE; rw [hTK, AuthP.parse_tok _ _ good15]
    rw [e1, e2, ← hCC] at h
    exact h
  have HRev : Hid (∀ (B T g asked : Nat) W, Keep W B T g [107] 1 asked (fun _ => false) 0 → Calls Try.prog 32 #[.pointer (some ⟨g, 0, none⟩), .int .u64 1] W fun e w' => e = .returned (.int .i64 0) ∧ Keep w' B T g [107] 1 asked (fun j => if j = 1 then true else false) 1 ∧ Out B T W w') := Lib.hid fun B T g asked W hK => by
    refine (keep_revoke B T g [107] 1 asked (fun _ => false) 0 1 W hK (by unfold two64; omega) (by omega)).mono fun e w' h => ?_
    unfold Revoked at h
    rw [if_neg (by omega)] at h
    exact h
  have HTok : Hid (∀ W : World, Calls Try.prog 34 #[.slice (some ⟨W.heap.size, 0, none⟩) 1 1, .agg CC.toArray] (W.alloc (.cells #[.int .u8 107] 5 (1, 2))) fun e w' => e = .returned (.string ⟨TK.toArray⟩) ∧ Grew (W.alloc (.cells #[.int .u8 107] 5 (1, 2))) w') := Lib.hid fun W => by
    have h := law_token (some ⟨W.heap.size, 0, none⟩) 1 1 (W.heap.size + 1) [107] c15 (W.alloc (.cells #[.int .u8 107] 5 (1, 2))) (sl_new W _ _ _ [107] 1 rfl (by unfold maxLen; omega) rfl) (by simp) (by simp) good15
    rw [hTK, hCC]
    exact h
  have HB0 := Lib.hid (grew_alloc w (.cells #[.int .u8 107] 5 (1, 2)))
  clear hv hTK hCC hZ
  go_enter Try.func28, Try.ntmps28
  go_wp2_with fail
  refine HNew.out.mono ?_
  rintro e w1 ⟨g, rfl, hK1, hg1⟩
  obtain ⟨B, hB⟩ : ∃ B, B = (w.alloc (.cells #[.int .u8 107] 5 (1, 2))).heap.size := ⟨_, rfl⟩
  obtain ⟨T, hT⟩ : ∃ T, T = w1.heap.size := ⟨_, rfl⟩
  rw [← hB, ← hT] at hK1
  have hwB : w.heap.size < B := by rw [hB]; simp
  have HK := Lib.hid hK1
  have HB1 := Lib.hid (show Below w.heap.size w w1 from Grew.trans HB0.out hg1)
  have HO := Lib.hid (Out.refl B T w1)
  have HBT := Lib.hid (show B ≤ w1.heap.size by rw [hB]; exact hg1.size)
  have HT := Lib.hid hT
  clear hK1 hg1 hB hT HNew HB0
  go_upto_region 5 with (go_at_call 30; refine (HIssue.out _ _ _ _ HK.out).mono ?_; rintro e w2 ⟨rfl, hK, hO⟩; have HK := Lib.hid hK; have HO := Lib.hid (HO.out.trans hO); clear hK hO)
  go_upto_region 6 with (first
    | (go_at_call 35; refine (HV1.out _ _ _ _ _ _ (by omega) HK.out).mono ?_; rintro e w3 ⟨rfl, hK, hO⟩; have HK := Lib.hid hK; have HO := Lib.hid (HO.out.trans hO); clear hK hO; have HST := Lib.hid (boxedC_store w3 CC HCCl.out.1 HCCl.out.2))
    | (refine wpList_value (o := ⟨some 4, _, _, _, _, _⟩) (v := .pointer (some ⟨w3.heap.size, 0, none⟩)) (w' := w3.alloc (.cells #[.int .i64 0, .int .u64 0, .int .u64 0, .int .i64 0] 50)) rfl (by kernel_rfl) ?_)
    | (refine wpList_store_mid rfl 50 (.tmp 4) (.tmp 30) rfl w3.heap.size 0 CC.toArray rfl rfl HST.out.1 HST.out.2.1 HST.out.2.2.1 ?_; rw [show (w3.alloc (.cells #[.int .i64 0, .int .u64 0, .int .u64 0, .int .i64 0] 50)).setCells w3.heap.size 0 CC.toArray.toList = boxedC w3 CC from by rw [List.toList_toArray]; rfl]))
  have HA3 := Lib.hid HST.out.2.2.2
  have h3T : T ≤ w3.heap.size := by rw [HT.out]; exact HO.out.size
  have HK := Lib.hid (HK.out.grew (boxedC_grew w3 CC))
  have HO := Lib.hid (boxedC_out (C := CC) HO.out)
  obtain ⟨w4, hw4⟩ : ∃ w4, w4 = boxedC w3 CC := ⟨_, rfl⟩
  rw [← hw4] at HA3 HK HO ⊢
  clear hw4 HST
  go_upto_region 7 with (first
    | (go_at_call 35; refine (HV2.out _ _ _ _ _ _ (by omega) HK.out).mono ?_; rintro e w5 ⟨rfl, hK, hO⟩; have HK := Lib.hid hK; have HO := Lib.hid (HO.out.trans hO); have HA3 := Lib.hid (hO.arr HA3.out h3T); clear hK hO; have HST := Lib.hid (boxedC_store w5 Z HZl.out.1 HZl.out.2))
    | (refine wpList_value (o := ⟨some 6, _, _, _, _, _⟩) (v := .pointer (some ⟨w5.heap.size, 0, none⟩)) (w' := w5.alloc (.cells #[.int .i64 0, .int .u64 0, .int .u64 0, .int .i64 0] 50)) rfl (by kernel_rfl) ?_)
    | (refine wpList_store_mid rfl 50 (.tmp 6) (.tmp 36) rfl w5.heap.size 0 Z.toArray rfl rfl HST.out.1 HST.out.2.1 HST.out.2.2.1 ?_; rw [show (w5.alloc (.cells #[.int .i64 0, .int .u64 0, .int .u64 0, .int .i64 0] 50)).setCells w5.heap.size 0 Z.toArray.toList = boxedC w5 Z from by rw [List.toList_toArray]; rfl]))
  have HA := Lib.hid HST.out.2.2.2
  have HK := Lib.hid (HK.out.grew (boxedC_grew w5 Z))
  have HO := Lib.hid (boxedC_out (C := Z) HO.out)
  have HA3 := Lib.hid (HA3.out.grew (boxedC_grew w5 Z))
  obtain ⟨w6, hw⟩ : ∃ x, x = boxedC w5 Z := ⟨_, rfl⟩
  rw [← hw] at HA HK HO HA3 ⊢
  clear hw HST
  go_upto_region 8 with (first
    | (go_at_call 31; refine (HRead.out _).mono ?_; rintro e w7 ⟨rfl, hg⟩; have HK := Lib.hid (HK.out.grew hg); have HO := Lib.hid (HO.out.grew hg); have h7T : T ≤ w7.heap.size := HK.out.lt.2.2.1; have HA3 := Lib.hid (HA3.out.grew hg); clear hg; have HST := Lib.hid (boxedC_store w7 CC HCCl.out.1 HCCl.out.2))
    | (refine wpList_value (o := ⟨some 8, _, _, _, _, _⟩) (v := .pointer (some ⟨w7.heap.size, 0, none⟩)) (w' := w7.alloc (.cells #[.int .i64 0, .int .u64 0, .int .u64 0, .int .i64 0] 50)) rfl (by kernel_rfl) ?_)
    | (refine wpList_store_mid rfl 50 (.tmp 8) (.tmp 41) rfl w7.heap.size 0 CC.toArray rfl rfl HST.out.1 HST.out.2.1 HST.out.2.2.1 ?_; rw [show (w7.alloc (.cells #[.int .i64 0, .int .u64 0, .int .u64 0, .int .i64 0] 50)).setCells w7.heap.size 0 CC.toArray.toList = boxedC w7 CC from by rw [List.toList_toArray]; rfl]))
  have HA := Lib.hid HST.out.2.2.2
  have HK := Lib.hid (HK.out.grew (boxedC_grew w7 CC))
  have HO := Lib.hid (boxedC_out (C := CC) HO.out)
  have HA3 := Lib.hid (HA3.out.grew (boxedC_grew w7 CC))
  obtain ⟨w8, hw⟩ : ∃ x, x = boxedC w7 CC := ⟨_, rfl⟩
  rw [← hw] at HA HK HO HA3 ⊢
  clear hw HST
  have HA8 := HA
  have h8T : T ≤ w7.heap.size := h7T
  go_upto_region 9 with (go_at_call 32; refine (HRev.out _ _ _ _ _ HK.out).mono ?_; rintro e w9 ⟨rfl, hK, hO⟩; have HK := Lib.hid hK; have HO := Lib.hid (HO.out.trans hO); have HA3 := Lib.hid (hO.arr HA3.out h3T); have HA8 := Lib.hid (hO.arr HA8.out h8T); clear hK hO)
  go_upto_region 10 with (first
    | (go_at_call 35; refine (HV3.out _ _ _ _ _ _ (by omega) HK.out).mono ?_; rintro e w10 ⟨rfl, hK, hO⟩; have HK := Lib.hid hK; have HO := Lib.hid (HO.out.trans hO); have HA3 := Lib.hid (hO.arr HA3.out h3T); have HA8 := Lib.hid (hO.arr HA8.out h8T); clear hK hO; have HST := Lib.hid (boxedC_store w10 Z HZl.out.1 HZl.out.2))
    | (refine wpList_value (o := ⟨some 11, _, _, _, _, _⟩) (v := .pointer (some ⟨w10.heap.size, 0, none⟩)) (w' := w10.alloc (.cells #[.int .i64 0, .int .u64 0, .int .u64 0, .int .i64 0] 50)) rfl (by kernel_rfl) ?_)
    | (refine wpList_store_mid rfl 50 (.tmp 11) (.tmp 49) rfl w10.heap.size 0 Z.toArray rfl rfl HST.out.1 HST.out.2.1 HST.out.2.2.1 ?_; rw [show (w10.alloc (.cells #[.int .i64 0, .int .u64 0, .int .u64 0, .int .i64 0] 50)).setCells w10.heap.size 0 Z.toArray.toList = boxedC w10 Z from by rw [List.toList_toArray]; rfl]))
  have HA := Lib.hid HST.out.2.2.2
  have HK := Lib.hid (HK.out.grew (boxedC_grew w10 Z))
  have HO := Lib.hid (boxedC_out (C := Z) HO.out)
  have HA3 := Lib.hid (HA3.out.grew (boxedC_grew w10 Z))
  have HA8 := Lib.hid (HA8.out.grew (boxedC_grew w10 Z))
  obtain ⟨w11, hw⟩ : ∃ x, x = boxedC w10 Z := ⟨_, rfl⟩
  rw [← hw] at HA HK HO HA3 HA8 ⊢
  clear hw HST
  go_upto_region 11 with (first
    | (go_at_call 35; refine (HV4.out _ _ _ _ _ _ (by omega) HK.out).mono ?_; rintro e w12 ⟨rfl, hK, hO⟩; have HK := Lib.hid hK; have HO := Lib.hid (HO.out.trans hO); have HA3 := Lib.hid (hO.arr HA3.out h3T); have HA8 := Lib.hid (hO.arr HA8.out h8T); clear hK hO; have HST := Lib.hid (boxedC_store w12 Z HZl.out.1 HZl.out.2))
    | (refine wpList_value (o := ⟨some 13, _, _, _, _, _⟩) (v := .pointer (some ⟨w12.heap.size, 0, none⟩)) (w' := w12.alloc (.cells #[.int .i64 0, .int .u64 0, .int .u64 0, .int .i64 0] 50)) rfl (by kernel_rfl) ?_)
    | (refine wpList_store_mid rfl 50 (.tmp 13) (.tmp 54) rfl w12.heap.size 0 Z.toArray rfl rfl HST.out.1 HST.out.2.1 HST.out.2.2.1 ?_; rw [show (w12.alloc (.cells #[.int .i64 0, .int .u64 0, .int .u64 0, .int .i64 0] 50)).setCells w12.heap.size 0 Z.toArray.toList = boxedC w12 Z from by rw [List.toList_toArray]; rfl]))
  have HA := Lib.hid HST.out.2.2.2
  have HK := Lib.hid (HK.out.grew (boxedC_grew w12 Z))
  have HO := Lib.hid (boxedC_out (C := Z) HO.out)
  have HA3 := Lib.hid (HA3.out.grew (boxedC_grew w12 Z))
  have HA8 := Lib.hid (HA8.out.grew (boxedC_grew w12 Z))
  obtain ⟨w13, hw⟩ : ∃ x, x = boxedC w12 Z := ⟨_, rfl⟩
  rw [← hw] at HA HK HO HA3 HA8 ⊢
  clear hw HST
  have HST := Lib.hid (boxedC_store w13 CC HCCl.out.1 HCCl.out.2)
  go_upto_region 12 with (first
    | (refine wpList_value (o := ⟨some 15, _, _, _, _, _⟩) (v := .pointer (some ⟨w13.heap.size, 0, none⟩)) (w' := w13.alloc (.cells #[.int .i64 0, .int .u64 0, .int .u64 0, .int .i64 0] 50)) rfl (by kernel_rfl) ?_)
    | (refine wpList_store_mid rfl 50 (.tmp 15) (.tmp 56) rfl w13.heap.size 0 CC.toArray rfl HLIT.out HST.out.1 HST.out.2.1 HST.out.2.2.1 ?_; rw [show (w13.alloc (.cells #[.int .i64 0, .int .u64 0, .int .u64 0, .int .i64 0] 50)).setCells w13.heap.size 0 CC.toArray.toList = boxedC w13 CC from by rw [List.toList_toArray]; rfl]))
  have HA15 := Lib.hid HST.out.2.2.2
  have HK := Lib.hid (HK.out.grew (boxedC_grew w13 CC))
  have HO := Lib.hid (boxedC_out (C := CC) HO.out)
  have HA3 := Lib.hid (HA3.out.grew (boxedC_grew w13 CC))
  have HA8 := Lib.hid (HA8.out.grew (boxedC_grew w13 CC))
  obtain ⟨w14, hw⟩ : ∃ x, x = boxedC w13 CC := ⟨_, rfl⟩
  rw [← hw] at HA15 HK HO HA3 HA8 ⊢
  clear hw HST HA
  have HINF := Lib.hid (show (Try.prog.info? 50).map (·.size) = some CC.length by rw [HCCl.out.1]; kernel_rfl)
  have hga := grew_alloc w14 (.cells #[.int .u8 107] 5 (1, 2))
  have HA15a := Lib.hid (HA15.out.grew hga)
  have heq := HEQ.out
  go_wp2_with (first
    | (refine wpList_value (o := ⟨some 63, _, _, _, _, _⟩) (v := .agg CC.toArray) (w' := _) rfl (exec_load (.tmp 15) rfl rfl (claim_loadAt HA15a.out HCCl.out.1)) ?_)
    | (go_at_call 34; refine (HTok.out _).mono ?_; rintro e w15 ⟨rfl, hg⟩; have hg := Grew.trans hga hg; have HK := Lib.hid (HK.out.grew hg); have HO := Lib.hid (HO.out.grew hg); have HA3 := Lib.hid (HA3.out.grew hg); have HA8 := Lib.hid (HA8.out.grew hg); have HA15 := Lib.hid (HA15.out.grew hg); clear hg)
    | (refine wpList_value (o := ⟨some 72, _, _, _, _, _⟩) (v := .agg CC.toArray) (w' := _) rfl (exec_load (.tmp 4) rfl rfl (claim_loadAt HA3.out HCCl.out.1)) ?_)
    | (refine wpList_value (o := ⟨some 73, _, _, _, _, _⟩) (v := .agg CC.toArray) (w' := _) rfl (exec_load (.tmp 15) rfl rfl (claim_loadAt HA15.out HCCl.out.1)) ?_)
    | (refine wpList_value (o := ⟨some 85, _, _, _, _, _⟩) (v := .agg CC.toArray) (w' := _) rfl (exec_load (.tmp 8) rfl rfl (claim_loadAt HA8.out HCCl.out.1)) ?_)
    | (refine wpList_value (o := ⟨some 86, _, _, _, _, _⟩) (v := .agg CC.toArray) (w' := _) rfl (exec_load (.tmp 15) rfl rfl (claim_loadAt HA15.out HCCl.out.1)) ?_)
    | (go_at_call 33; refine (keep_issued _ _ _ _ _ _ _ _ _ HK.out).mono ?_; rintro e wx ⟨rfl, rfl⟩)
    | (go_at_call 37; refine (keep_asked _ _ _ _ _ _ _ _ _ HK.out).mono ?_; rintro e wx ⟨rfl, rfl⟩))
  go_ret
  exact ⟨rfl, HB1.out.trans ((HO.out.below HBT.out).mono (by omega))⟩
end Go.Proofs.Ytohgkadbajmphaa
