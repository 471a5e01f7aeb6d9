/- Push, decoded. -/
import Derived.Test.YtafhkjljalmheaaProtoD
namespace Go.Proofs.Ytafhkjljalmheaa
open Go.RowKit
set_option linter.unusedVariables false
set_option maxRecDepth 10000 in
set_option maxHeartbeats 2000000 in
theorem dec_push (A : Option Addr) (n c : Nat) (w : World) (h : Sl w w.heap.size A n c pb) :
    Calls Try.prog 34 #[.slice A n c] w fun e w' => ∃ gx cx, e = .returned (.tuple #[.agg #[.int .u64 2, .slice (some ⟨gx, 0, none⟩) 1 cx], .int .i64 0]) ∧ EvAt w' gx ∧ Grew w w' := by
  obtain ⟨w1, hw1⟩ : ∃ W, W = w.alloc (.cells #[.int .u64 0, .slice none 0 0] 64) := ⟨_, rfl⟩
  obtain ⟨b2, hb2⟩ : ∃ b, b = w.heap.size := ⟨_, rfl⟩
  have HG1 := Lib.hid (show Grew w w1 by rw [hw1]; exact grew_alloc w _)
  have HA1 := Lib.hid (show ArrV w1 b2 [.int .u64 0, .slice none 0 0] by rw [hw1, hb2]; exact ArrV.made w _ _)
  have HB := Lib.hid (show b2 < w1.heap.size ∧ w.heap.size ≤ b2 by rw [hw1, hb2]; simp)
  have HE := Lib.hid (And.intro hw1 hb2)
  have HS1 := Lib.hid (h.grew HG1.out)
  have HR := Lib.hid (p_read A n c pb w1 HS1.out (by decide))
  clear hw1 hb2 h
  go_enter Try.func34, Try.ntmps34
  go_upto_region 1 with fail
  rw [← HE.out.1, ← HE.out.2]
  go_upto_region 2 with (go_at_call 37; refine HR.out.mono ?_; rintro e w2 ⟨gr, g, base, rfl, hP, hlo, hG⟩; have HP2 := Lib.hid hP; have HG2 := Lib.hid hG; have HLo := Lib.hid (show w1.heap.size ≤ g ∧ w1.heap.size ≤ gr ∧ gr ≠ b2 ∧ w1.heap.size ≤ base.1 by have := hP.ne; have := HB.out; omega); clear hP hlo hG)
  clear HR
  obtain ⟨c0, c1, f1⟩ := HP2.out.cells
  have HQ := Lib.hid (rdu HP2.out.2.1 (v := 2) (st' := some [1, 9, 0, 1, 1, 1, 99, 1, 102, 0, 0]) (i := 2) (by decide +kernel) rfl)
  go_wp2_with (first
    | (go_at_call 23; refine HQ.out.mono ?_; rintro e w3 ⟨rfl, hR, hg⟩; have HP3 := Lib.hid (HP2.out.step hR hg); have HG3 := Lib.hid (new_bad w2 g hg HG2.out HLo.out.1); clear hR hg)
    | (go_at_call 44; refine (p_events gr g base w1 w3 HP3.out HG3.out HLo.out.2.2.2).mono ?_; rintro e w4 ⟨gx, cx, rfl, hE, hP, hG⟩; have HP4 := Lib.hid hP; have HE4 := Lib.hid hE; have HG4 := Lib.hid hG; clear hE hP hG; have HD := Lib.hid (dec_push_ok (gx := gx) (cx := cx) gr g base A n c pb _ w4 HP4.out (HS1.out.grew HG4.out) (fun W hW => enc_push1 gx cx W (HE4.out.grew hW)) rfl))
    | (go_at_call 43; refine HD.out.mono ?_; rintro e w5 ⟨rfl, hG⟩; have HG5 := Lib.hid (HG4.out.trans hG); have HE5 := Lib.hid (HE4.out.grew hG); clear hG; have HA5 := Lib.hid (HA1.out.grew HG5.out); have HT := Lib.hid (show w5.there b2 0 (#[.int .u64 2, .slice (some ⟨gx, 0, none⟩) 1 cx] : Array Value).size from HA5.out.there); have HA8 := Lib.hid (HA5.out.stored (vs := [.int .u64 2, .slice (some ⟨gx, 0, none⟩) 1 cx]) rfl); have HZ := Lib.hid (show (Try.prog.info? 64).map (·.size) = some (#[.int .u64 2, .slice (some ⟨gx, 0, none⟩) 1 cx] : Array Value).size by kernel_rfl))
    | (refine wpList_store_mid rfl 64 (.tmp 2) (.tmp 18) rfl b2 0 #[.int .u64 2, .slice (some ⟨gx, 0, none⟩) 1 cx] rfl rfl HT.out HZ.out (all_oneCell_toArray dec_push_ok_one) ?_))
  have HLV := run_loadVar_mid (P := Try.prog) (w5.setCells b2 0 [.int .u64 2, .slice (some ⟨gx, 0, none⟩) 1 cx]) b2 0 64 [.int .u64 2, .slice (some ⟨gx, 0, none⟩) 1 cx] _ HA8.out.range Try.underlying64 rfl (by kernel_rfl)
  have hg8 := grown_setCells b2 [.int .u64 2, .slice (some ⟨gx, 0, none⟩) 1 cx] 0 w5
  have hne : gx ≠ b2 := fun e => by
    have h1 := HE5.out.2.2.1
    rw [e, HA5.out.cell (i := 1) (by simp)] at h1
    cases h1
  refine bodyPost_ret (v := .tuple #[.agg #[.int .u64 2, .slice (some ⟨gx, 0, none⟩) 1 cx], .int .i64 0]) (by simp [results, Try.results34, asAddr, HLV]) rfl ⟨gx, cx, rfl, HE5.out.other hg8 hne, Below.grown (HG1.out.trans HG5.out) hg8 (HG1.out.trans HG5.out).size (fun k e => by injection e with e; rw [← e]; exact HB.out.2)⟩
end Go.Proofs.Ytafhkjljalmheaa
