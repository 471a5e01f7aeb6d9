/- The walk of rolodexlaw19.ProtoKnown. -/
import Derived.Test.YtafhkjljalmheaaAwake19
import Derived.Test.YtafhkjljalmheaaProtoE
namespace Go.Proofs.Ytafhkjljalmheaa
open Go.RowKit
set_option linter.unusedVariables false
theorem ex_pull2 (W : World) (t : TypeId) : Calls Try.prog 27 #[.slice (some ⟨W.heap.size, 0, none⟩) 2 2] (W.alloc (.cells #[.int .u8 1, .int .u8 172] t)) fun e w' => e = .returned (.tuple #[.agg #[.int .u64 0, .int .u64 0, .int .i64 0], .int .i64 14]) ∧ Grew W w' := by
  have hR : Row (W.alloc (.cells #[.int .u8 1, .int .u8 172] t)) (W.alloc (.cells #[.int .u8 1, .int .u8 172] t)).heap.size (some ⟨W.heap.size, 0, none⟩) ([1, 172].map b8) := Row.new W _ _ _ _ _ rfl (by simp) _ rfl
  exact (dec_pull0 (some ⟨W.heap.size, 0, none⟩) 2 2 _ ⟨rfl, Nat.le_refl _, by unfold maxLen; omega, hR⟩).mono fun e w' ⟨h1, h2⟩ => ⟨h1, (grew_alloc W _).trans h2⟩
theorem ex_have (W : World) (t : TypeId) : Calls Try.prog 29 #[.agg #[.slice (some ⟨W.heap.size, 0, none⟩) 1 1]] (W.alloc (.cells #[.string ⟨#[120]⟩] t)) (EncNo W) := by
  have hA : ArrV (W.alloc (.cells #[.string ⟨#[120]⟩] t)) W.heap.size [.string ⟨#[120]⟩] := ArrV.made W _ _
  exact (enc_have_x W.heap.size _ (hA.cell (i := 0) (by simp)) hA.lt).mono fun e w' ⟨A, n, c, h1, h2⟩ => ⟨A, n, c, h1, (grew_alloc W _).trans h2⟩
/-- nine events that are none -/
def z63 : List Value := zeL ++ zeL ++ zeL ++ zeL ++ zeL ++ zeL ++ zeL ++ zeL ++ zeL
theorem ex_push9 (W : World) (t : TypeId) : Calls Try.prog 30 #[.agg #[.int .u64 0, .slice (some ⟨W.heap.size, 0, none⟩) 9 9]] (W.alloc (.cells z63.toArray t)) (EncNo W) := by
  have hA : ArrV (W.alloc (.cells z63.toArray t)) W.heap.size z63 := ArrV.made W _ _
  have hZ : ZeAt (W.alloc (.cells z63.toArray t)) W.heap.size := ⟨hA.lt, hA.cell (i := 0) (by decide), hA.cell (i := 1) (by decide), hA.cell (i := 2) (by decide), hA.cell (i := 3) (by decide), hA.cell (i := 4) (by decide), hA.cell (i := 5) (by decide), hA.cell (i := 6) (by decide)⟩
  exact (enc_push9 W.heap.size _ hZ).mono fun e w' ⟨A, n, c, h1, h2⟩ => ⟨A, n, c, h1, (grew_alloc W _).trans h2⟩
set_option maxRecDepth 10000 in
set_option maxHeartbeats 2000000 in
theorem protoKnown_walk (w : World) : Calls Try.prog 9 #[] w fun e w' => e = .returned (.bool true) ∧ Below w.heap.size w w' := by
  have hmk : ∀ W : World, (Instr.makeSlice 62 (.int .i64 9) (.int .i64 9)).run Try.prog W = .ok (.slice (some ⟨W.heap.size, 0, none⟩) 9 9) (W.alloc (.cells z63.toArray 78)) := fun _ => by kernel_rfl
  go_enter Try.func9, Try.ntmps9
  go_upto_region 3 with (go_at_call 26; refine (awake19 w).mono ?_; rintro e w1 ⟨rfl, hG⟩; have HG1 := Lib.hid hG; clear hG)
  go_upto_region 4 with (go_at_call 27; refine (ex_pull2 w1 _).mono ?_; rintro e w2 ⟨rfl, hG⟩; have HG2 := Lib.hid (HG1.out.trans hG); clear hG)
  obtain ⟨w3, hw3⟩ : ∃ W, W = w2.alloc (.cells #[.int .u64 0, .int .u64 0, .int .i64 0] 53) := ⟨_, rfl⟩
  have HG3 := Lib.hid (show Grew w w3 by rw [hw3]; exact HG2.out.trans (grew_alloc w2 _))
  obtain ⟨b1, hb1⟩ : ∃ b, b = w2.heap.size := ⟨_, rfl⟩
  rw [← hw3, ← hb1]
  clear hw3 hb1
  go_upto_region 5 with (go_at_call 28; refine (ex_pull0 w3).mono ?_; rintro e w4 ⟨A4, n4, c4, rfl, hG⟩; have HG4 := Lib.hid (HG3.out.trans hG); clear hG)
  go_upto_region 6 with (go_at_call 29; refine (ex_have w4 _).mono ?_; rintro e w5 ⟨A5, n5, c5, rfl, hG⟩; have HG5 := Lib.hid (HG4.out.trans hG); clear hG)
  go_upto_region 7 with (go_at_call 28; refine (ex_pull1 w5).mono ?_; rintro e w6 ⟨A6, n6, c6, rfl, hG⟩; have HG6 := Lib.hid (HG5.out.trans hG); clear hG)
  go_wp2_with (go_at_call 30; refine (ex_push9 w6 _).mono ?_; rintro e w7 ⟨A7, n7, c7, rfl, hG⟩; have HG7 := Lib.hid (HG6.out.trans hG); clear hG)
  go_ret
  exact ⟨rfl, HG7.out⟩
end Go.Proofs.Ytafhkjljalmheaa
