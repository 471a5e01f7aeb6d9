/- The examples of chapter 19 that are messages. -/
import Derived.Test.YtafhkjljalmheaaProtoF
import Derived.Test.YtafhkjljalmheaaProtoG
import Derived.Lib.SlBytesConst
namespace Go.Proofs.Ytafhkjljalmheaa
open Go.RowKit
set_option linter.unusedVariables false
/-- an encoding that went well -/
def EncOk (w : World) (l : List UInt8) (e : Ending) (w' : World) : Prop := ∃ A n c, e = .returned (.tuple #[.slice A n c, .int .i64 0]) ∧ Sl w' w'.heap.size A n c l ∧ Grew w w'
theorem encR_ok {w w' : World} {l m : List UInt8} {b : Bool} {e : Ending} (h : EncR w l b e w') (hl : l = m) (hb : b = false) : EncOk w m e w' := by
  subst hl
  subst hb
  obtain ⟨A, n, c, h1, h2, h3⟩ := h
  exact ⟨A, n, c, h1, h2 rfl, h3⟩
def EncNo (w : World) (e : Ending) (w' : World) : Prop := ∃ A n c, e = .returned (.tuple #[.slice A n c, .int .i64 1]) ∧ Grew w w'
theorem encR_no {w w' : World} {l : List UInt8} {b : Bool} {e : Ending} (h : EncR w l b e w') (hb : b = true) : EncNo w e w' := by
  subst hb
  obtain ⟨A, n, c, h1, h2, h3⟩ := h
  exact ⟨A, n, c, h1, h3⟩
theorem ex_pushack (W : World) : Calls Try.prog 33 #[.agg #[.int .u64 5]] W (EncOk W [5]) :=
  (show Calls Try.prog 33 #[.agg #[.int .u64 5]] W _ from enc_pushack 5 W (by decide)).mono fun e w' h => encR_ok h (by decide +kernel) rfl
theorem ex_pull (W : World) : Calls Try.prog 28 #[.agg #[.int .u64 1, .int .u64 300, .int .i64 8]] W (EncOk W [1, 172, 2, 8]) :=
  (show Calls Try.prog 28 #[.agg #[.int .u64 1, .int .u64 300, .int .i64 8]] W _ from enc_pull 1 300 8 8 false W (by decide) (by decide) (by decide) (by decide) (by decide)).mono fun e w' h => encR_ok h (by decide +kernel) rfl
theorem ex_pull0 (W : World) : Calls Try.prog 28 #[.agg #[.int .u64 0, .int .u64 0, .int .i64 (-1)]] W (EncNo W) :=
  (show Calls Try.prog 28 #[.agg #[.int .u64 0, .int .u64 0, .int .i64 (-1)]] W _ from enc_pull 0 0 18446744073709551615 (-1) true W (by decide) (by decide) (by decide) (by decide) (by decide)).mono fun e w' h => encR_no h rfl
theorem ex_pull1 (W : World) : Calls Try.prog 28 #[.agg #[.int .u64 0, .int .u64 0, .int .i64 1001]] W (EncNo W) :=
  (show Calls Try.prog 28 #[.agg #[.int .u64 0, .int .u64 0, .int .i64 1001]] W _ from enc_pull 0 0 1001 1001 true W (by decide) (by decide) (by decide) (by decide) (by decide)).mono fun e w' h => encR_no h rfl
theorem ex_push (W : World) (t : TypeId) : Calls Try.prog 30 #[.agg #[.int .u64 2, .slice (some ⟨W.heap.size, 0, none⟩) 1 1]] (W.alloc (.cells #[.int .i64 0, .int .u64 1, .int .i64 1, .string ⟨#[99]⟩, .string ⟨#[102]⟩, .string ⟨#[]⟩, .slice none 0 0] t)) (EncOk W pb) := by
  have hA : ArrV (W.alloc (.cells #[.int .i64 0, .int .u64 1, .int .i64 1, .string ⟨#[99]⟩, .string ⟨#[102]⟩, .string ⟨#[]⟩, .slice none 0 0] t)) W.heap.size evL := ArrV.made W _ _
  refine (enc_push1 W.heap.size 1 _ ⟨hA.lt, ev_cells hA⟩).mono fun e w' h => ?_
  obtain ⟨A, n, c, h1, h2, h3⟩ := encR_ok h rfl rfl
  exact ⟨A, n, c, h1, h2, (grew_alloc W _).trans h3⟩
theorem ex_resync (W : World) (t : TypeId) (fr : Nat × Nat) : Calls Try.prog 35 #[.agg #[.int .u64 1, .int .u64 0, .slice (some ⟨W.heap.size, 0, none⟩) 1 1]] (W.alloc (.cells #[.int .u8 115] t fr)) (EncOk W sb) := by
  have hR : Row (W.alloc (.cells #[.int .u8 115] t fr)) (W.alloc (.cells #[.int .u8 115] t fr)).heap.size (some ⟨W.heap.size, 0, none⟩) ([115].map b8) := Row.new W _ _ _ _ _ rfl (by simp) _ rfl
  refine (enc_resync (some ⟨W.heap.size, 0, none⟩) 1 1 _ ⟨rfl, Nat.le_refl _, by unfold maxLen; omega, hR⟩).mono fun e w' h => ?_
  obtain ⟨A, n, c, h1, h2, h3⟩ := encR_ok h rfl rfl
  exact ⟨A, n, c, h1, h2, (grew_alloc W _).trans h3⟩
set_option maxRecDepth 10000 in
set_option maxHeartbeats 4000000 in
theorem awake19 (w : World) : Calls Try.prog 26 #[] w fun e w' => e = .returned (.bool true) ∧ Grew w w' := by
  go_enter Try.func26, Try.ntmps26
  go_upto_region 2 with (go_at_call 33; refine (ex_pushack w).mono ?_; rintro e w1 ⟨A1, n1, c1, rfl, hS, hG⟩; have HS1 := Lib.hid hS; have HG1 := Lib.hid hG; clear hS hG)
  go_upto_region 3 with (go_at_call 28; refine (ex_pull w1).mono ?_; rintro e w2 ⟨A2, n2, c2, rfl, hS, hG⟩; have HS2 := Lib.hid hS; have HG12 := Lib.hid hG; have HG2 := Lib.hid (HG1.out.trans hG); clear hS hG)
  go_upto_region 4 with (go_at_call 27; refine (dec_pull A2 n2 c2 w2 HS2.out).mono ?_; rintro e w3 ⟨rfl, hG⟩; have HG23 := Lib.hid hG; clear hG)
  obtain ⟨w4, hw4⟩ : ∃ W, W = w3.alloc (.cells #[.int .u64 1, .int .u64 300, .int .i64 8] 53) := ⟨_, rfl⟩
  obtain ⟨b5, hb5⟩ : ∃ b, b = w3.heap.size := ⟨_, rfl⟩
  have HA5 := Lib.hid (show ArrV w4 b5 [.int .u64 1, .int .u64 300, .int .i64 8] by rw [hw4, hb5]; exact ArrV.made w3 _ _)
  have HG24 := Lib.hid (show Grew w2 w4 by rw [hw4]; exact HG23.out.trans (grew_alloc w3 _))
  rw [← hw4, ← hb5]
  clear hw4 hb5 HG23
  go_upto_region 5 with (go_at_call 30; refine (ex_push w4 _).mono ?_; rintro e w5 ⟨A7, n7, c7, rfl, hS, hG⟩; have HS5 := Lib.hid hS; have HG45 := Lib.hid hG; clear hS hG)
  go_upto_region 6 with (go_at_call 34; refine (dec_push A7 n7 c7 w5 HS5.out).mono ?_; rintro e w6 ⟨gx, cx, rfl, hE, hG⟩; have HE6 := Lib.hid hE; have HG46 := Lib.hid (HG45.out.trans hG); clear hE hG)
  obtain ⟨w7, hw7⟩ : ∃ W, W = w6.alloc (.cells #[.int .u64 2, .slice (some ⟨gx, 0, none⟩) 1 cx] 64) := ⟨_, rfl⟩
  obtain ⟨b9, hb9⟩ : ∃ b, b = w6.heap.size := ⟨_, rfl⟩
  have HA9 := Lib.hid (show ArrV w7 b9 [.int .u64 2, .slice (some ⟨gx, 0, none⟩) 1 cx] by rw [hw7, hb9]; exact ArrV.made w6 _ _)
  have HG47 := Lib.hid (show Grew w4 w7 by rw [hw7]; exact HG46.out.trans (grew_alloc w6 _))
  have HE7 := Lib.hid (show EvAt w7 gx by rw [hw7]; exact HE6.out.grew (grew_alloc w6 _))
  rw [← hw7, ← hb9]
  clear hw7 hb9 HG46 HG45 HE6
  have hcv := Lib.run_convert_bytes_const (P := Try.prog) w7 25 5 #[.int .u8 115] 1 1 Try.underlying25 Try.underlying5
  go_upto_region 7 with (go_at_call 35; refine (ex_resync w7 _ _).mono ?_; rintro e w8 ⟨A8, n8, c8, rfl, hS, hG⟩; have HS8 := Lib.hid hS; have HG78 := Lib.hid hG; clear hS hG)
  clear hcv
  go_upto_region 8 with (go_at_call 36; refine (dec_resync A8 n8 c8 w8 HS8.out).mono ?_; rintro e w9 ⟨A9, n9, c9, rfl, hS, hG⟩; have HS9 := Lib.hid hS; have HG79 := Lib.hid (HG78.out.trans hG); clear hS hG)
  obtain ⟨w10, hw10⟩ : ∃ W, W = w9.alloc (.cells #[.int .u64 1, .int .u64 0, .slice A9 n9 c9] 83) := ⟨_, rfl⟩
  obtain ⟨b13, hb13⟩ : ∃ b, b = w9.heap.size := ⟨_, rfl⟩
  have HA13 := Lib.hid (show ArrV w10 b13 [.int .u64 1, .int .u64 0, .slice A9 n9 c9] by rw [hw10, hb13]; exact ArrV.made w9 _ _)
  have hG910 : Grew w9 w10 := by rw [hw10]; exact grew_alloc w9 _
  have HG710 := Lib.hid (HG79.out.trans hG910)
  have HS10 := Lib.hid (HS9.out.grew hG910)
  have HG2x := Lib.hid (HG24.out.trans (HG47.out.trans HG710.out))
  have HX1 := Lib.hid (HS1.out.grew (HG12.out.trans HG2x.out))
  have HX2 := Lib.hid (HS2.out.grew HG2x.out)
  have HX9 := Lib.hid (HE7.out.grew HG710.out)
  have HX5 := Lib.hid (HA5.out.grew (HG47.out.trans HG710.out))
  have HXp := Lib.hid (HA9.out.grew HG710.out)
  rw [← hw10, ← hb13]
  clear hw10 hb13 hG910
  have p0 : w10.cell? ⟨b5, 0, none⟩ = some (.int .u64 1) := HX5.out.cell (i := 0) (by simp)
  have p1 : w10.cell? ⟨b5, 1, none⟩ = some (.int .u64 300) := HX5.out.cell (i := 1) (by simp)
  have p2 : w10.cell? ⟨b5, 2, none⟩ = some (.int .i64 8) := HX5.out.cell (i := 2) (by simp)
  have q1 : w10.cell? ⟨b9, 1, none⟩ = some (.slice (some ⟨gx, 0, none⟩) 1 cx) := HXp.out.cell (i := 1) (by simp)
  have r3 : w10.cell? ⟨gx, 3, none⟩ = some (.string ⟨#[99]⟩) := HX9.out.2.2.2.2.1
  have s2 : w10.cell? ⟨b13, 2, none⟩ = some (.slice A9 n9 c9) := HA13.out.cell (i := 2) (by simp)
  go_wp2_with (first
    | (refine wpList_str8 (dst := some 59) A1 n1 c1 _ [5] rfl rfl HX1.out.1 HX1.out.2.2.2 ?_)
    | (refine wpList_str8 (dst := some 68) A2 n2 c2 _ [1, 172, 2, 8] rfl rfl HX2.out.1 HX2.out.2.2.2 ?_)
    | (refine wpList_str8 (dst := some 113) A9 n9 c9 _ [115] rfl rfl HS10.out.1 HS10.out.2.2.2 ?_))
  go_ret
  exact ⟨rfl, HG2.out.trans HG2x.out⟩
end Go.Proofs.Ytafhkjljalmheaa
