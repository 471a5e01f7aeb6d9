/- A message decoded: its bytes read, laid again, compared. -/
import Derived.Test.YtafhkjljalmheaaProtoQ
import Derived.Test.YtafhkjljalmheaaProtoP
import Derived.Test.YtafhkjljalmheaaProtoS
namespace Go.Proofs.Ytafhkjljalmheaa
open Go.RowKit
set_option linter.unusedVariables false
theorem dec_pull_ok_v {W : World} {b : Nat}  (h : ArrV W b [.int .u64 1, .int .u64 300, .int .i64 8]) : W.cell? ⟨b, 0, none⟩ = some (.int .u64 1) ∧ W.cell? ⟨b, 1, none⟩ = some (.int .u64 300) ∧ W.cell? ⟨b, 2, none⟩ = some (.int .i64 8) := ⟨h.cell (i := 0) (by simp), h.cell (i := 1) (by simp), h.cell (i := 2) (by simp)⟩
theorem dec_pull_ok_one  : ∀ v ∈ [(.int .u64 1 : Value), .int .u64 300, .int .i64 8], v.oneCell' = true := by intro v hv; simp only [List.mem_cons, List.not_mem_nil, or_false] at hv; rcases hv with rfl | rfl | rfl <;> rfl
set_option maxRecDepth 10000 in
set_option maxHeartbeats 1000000 in
theorem dec_pull_ok  (gr g : Nat) (base : Nat × Nat) (A : Option Addr) (n c : Nat) (l l1 : List UInt8) (w : World) (hP : PRd w gr g base (some []) false) (hB : Sl w w.heap.size A n c l) (hE : ∀ W, Grew w W → Calls Try.prog 28 #[.agg #[.int .u64 1, .int .u64 300, .int .i64 8]] W (EncR W l1 false)) (hl : l1 = l) :
    Calls Try.prog 38 #[.pointer (some ⟨gr, 0, none⟩), .agg #[.int .u64 1, .int .u64 300, .int .i64 8], .slice A n c, .func (.func 28) #[] #[]] w fun e w' => e = .returned (.tuple #[.agg #[.int .u64 1, .int .u64 300, .int .i64 8], .int .i64 0]) ∧ Grew w w' := by
  obtain ⟨w1, hw1⟩ : ∃ W, W = w.alloc (.cells #[.int .u64 1, .int .u64 300, .int .i64 8] 53) := ⟨_, rfl⟩
  obtain ⟨b5, hb5⟩ : ∃ b, b = w.heap.size := ⟨_, rfl⟩
  obtain ⟨w2, hw2⟩ : ∃ W, W = w1.alloc (.cells #[.int .u64 0, .int .u64 0, .int .i64 0] 53) := ⟨_, rfl⟩
  obtain ⟨b8, hb8⟩ : ∃ b, b = w1.heap.size := ⟨_, rfl⟩
  have hG1 : Grew w w1 := by rw [hw1]; exact grew_alloc w _
  have hG12 : Grew w1 w2 := by rw [hw2]; exact grew_alloc w1 _
  have HG2 := Lib.hid (hG1.trans hG12)
  have HA5 := Lib.hid (ArrV.grew (show ArrV w1 b5 [.int .u64 1, .int .u64 300, .int .i64 8] by rw [hw1, hb5]; exact ArrV.made w _ _) hG12)
  have HA8 := Lib.hid (show ArrV w2 b8 [.int .u64 0, .int .u64 0, .int .i64 0] by rw [hw2, hb8]; exact ArrV.made w1 _ _)
  have Hb8 := Lib.hid (show w.heap.size ≤ b8 by rw [hb8]; exact hG1.size)
  have HE := Lib.hid (And.intro hw1 (And.intro hb5 (And.intro hw2 hb8)))
  have HP2 := Lib.hid (hP.grew HG2.out)
  have HB2 := Lib.hid (hB.grew HG2.out)
  have HEN := Lib.hid (hE w2 HG2.out)
  have HS := Lib.hid (show w.heap.size + 1 = w1.heap.size by rw [hw1]; simp)
  subst hl
  clear hw1 hb5 hw2 hb8 hG1 hG12 hP hB hE
  obtain ⟨m0, m1, m2⟩ := dec_pull_ok_v HA5.out
  go_enter Try.func38, Try.ntmps38
  go_upto_region 1 with fail
  rw [HS.out, ← HE.out.1, ← HE.out.2.1, ← HE.out.2.2.1, ← HE.out.2.2.2]
  go_upto_region 2 with (go_at_call 28; refine HEN.out.mono ?_; rintro e w3 ⟨A4, n4, c4, rfl, hS, hG⟩; have HS3 := Lib.hid (hS rfl); have HG3 := Lib.hid hG; clear hS hG)
  rw [show encE false = 0 from rfl]
  clear m0 m1 m2 HEN
  have HP3 := Lib.hid (HP2.out.grew HG3.out)
  have HB3 := Lib.hid (HB2.out.grew HG3.out)
  have HA5' := Lib.hid (HA5.out.grew HG3.out)
  have HA8' := Lib.hid (HA8.out.grew HG3.out)
  have HGw3 := Lib.hid (HG2.out.trans HG3.out)
  obtain ⟨c0, c1, f1⟩ := HP3.out.cells
  have HN := Lib.hid (rde0 HP3.out.2.1)
  have HQ := Lib.hid (bytes_same A4 n4 c4 _ A n c _ _ w3 HS3.out HB3.out)
  go_upto_region 5 with (first
    | (go_at_call 17; refine HN.out.mono ?_; rintro e w11 ⟨rfl, rfl⟩)
    | (go_at_call 46; refine HQ.out.mono ?_; rintro e w12 ⟨rfl, rfl⟩))
  clear c0 c1 f1 HN HQ
  obtain ⟨m0, m1, m2⟩ := dec_pull_ok_v HA5'.out
  have HT := Lib.hid (show w3.there b8 0 (#[.int .u64 1, .int .u64 300, .int .i64 8] : Array Value).size from HA8'.out.there)
  have HA9 := Lib.hid (HA8'.out.stored (vs := [.int .u64 1, .int .u64 300, .int .i64 8]) rfl)
  have HZ := Lib.hid (show (Try.prog.info? 53).map (·.size) = some (#[.int .u64 1, .int .u64 300, .int .i64 8] : Array Value).size by kernel_rfl)
  go_wp2_with (refine wpList_store_mid rfl 53 (.tmp 8) (.tmp 42) rfl b8 0 #[.int .u64 1, .int .u64 300, .int .i64 8] rfl rfl HT.out HZ.out (all_oneCell_toArray dec_pull_ok_one) ?_)
  have HLV := run_loadVar_mid (P := Try.prog) (w3.setCells b8 0 [.int .u64 1, .int .u64 300, .int .i64 8]) b8 0 53 [.int .u64 1, .int .u64 300, .int .i64 8] _ HA9.out.range Try.underlying53 rfl (by kernel_rfl)
  refine bodyPost_ret (v := .tuple #[.agg #[.int .u64 1, .int .u64 300, .int .i64 8], .int .i64 0]) (by simp [results, Try.results38, asAddr, HLV]) rfl ⟨rfl, Below.grown HGw3.out (grown_setCells b8 [.int .u64 1, .int .u64 300, .int .i64 8] 0 w3) HGw3.out.size (fun k e => by injection e with e; rw [← e]; exact Hb8.out)⟩
theorem dec_pull_no_v {W : World} {b : Nat}  (h : ArrV W b [.int .u64 1, .int .u64 0, .int .i64 0]) : W.cell? ⟨b, 0, none⟩ = some (.int .u64 1) ∧ W.cell? ⟨b, 1, none⟩ = some (.int .u64 0) ∧ W.cell? ⟨b, 2, none⟩ = some (.int .i64 0) := ⟨h.cell (i := 0) (by simp), h.cell (i := 1) (by simp), h.cell (i := 2) (by simp)⟩
theorem dec_pull_no_z {W : World} {b : Nat} (h : ArrV W b [.int .u64 0, .int .u64 0, .int .i64 0]) : W.cell? ⟨b, 0, none⟩ = some (.int .u64 0) ∧ W.cell? ⟨b, 1, none⟩ = some (.int .u64 0) ∧ W.cell? ⟨b, 2, none⟩ = some (.int .i64 0) := ⟨h.cell (i := 0) (by simp), h.cell (i := 1) (by simp), h.cell (i := 2) (by simp)⟩
theorem dec_pull_no_one  : ∀ v ∈ [(.int .u64 0 : Value), .int .u64 0, .int .i64 0], v.oneCell' = true := by intro v hv; simp only [List.mem_cons, List.not_mem_nil, or_false] at hv; rcases hv with rfl | rfl | rfl <;> rfl
set_option maxRecDepth 10000 in
set_option maxHeartbeats 1000000 in
theorem dec_pull_no  (gr g : Nat) (base : Nat × Nat) (A : Option Addr) (n c : Nat) (l l1 : List UInt8) (w : World) (hP : PRd w gr g base (none) false) (hB : Sl w w.heap.size A n c l) (hE : ∀ W, Grew w W → Calls Try.prog 28 #[.agg #[.int .u64 1, .int .u64 0, .int .i64 0]] W (EncR W l1 false)) :
    Calls Try.prog 38 #[.pointer (some ⟨gr, 0, none⟩), .agg #[.int .u64 1, .int .u64 0, .int .i64 0], .slice A n c, .func (.func 28) #[] #[]] w fun e w' => e = .returned (.tuple #[.agg #[.int .u64 0, .int .u64 0, .int .i64 0], .int .i64 14]) ∧ Grew w w' := by
  obtain ⟨w1, hw1⟩ : ∃ W, W = w.alloc (.cells #[.int .u64 1, .int .u64 0, .int .i64 0] 53) := ⟨_, rfl⟩
  obtain ⟨b5, hb5⟩ : ∃ b, b = w.heap.size := ⟨_, rfl⟩
  obtain ⟨w2, hw2⟩ : ∃ W, W = w1.alloc (.cells #[.int .u64 0, .int .u64 0, .int .i64 0] 53) := ⟨_, rfl⟩
  obtain ⟨b8, hb8⟩ : ∃ b, b = w1.heap.size := ⟨_, rfl⟩
  have hG1 : Grew w w1 := by rw [hw1]; exact grew_alloc w _
  have hG12 : Grew w1 w2 := by rw [hw2]; exact grew_alloc w1 _
  have HG2 := Lib.hid (hG1.trans hG12)
  have HA5 := Lib.hid (ArrV.grew (show ArrV w1 b5 [.int .u64 1, .int .u64 0, .int .i64 0] by rw [hw1, hb5]; exact ArrV.made w _ _) hG12)
  have HA8 := Lib.hid (show ArrV w2 b8 [.int .u64 0, .int .u64 0, .int .i64 0] by rw [hw2, hb8]; exact ArrV.made w1 _ _)
  have Hb8 := Lib.hid (show w.heap.size ≤ b8 by rw [hb8]; exact hG1.size)
  have HE := Lib.hid (And.intro hw1 (And.intro hb5 (And.intro hw2 hb8)))
  have HP2 := Lib.hid (hP.grew HG2.out)
  have HB2 := Lib.hid (hB.grew HG2.out)
  have HEN := Lib.hid (hE w2 HG2.out)
  have HS := Lib.hid (show w.heap.size + 1 = w1.heap.size by rw [hw1]; simp)
  clear hw1 hb5 hw2 hb8 hG1 hG12 hP hB hE
  obtain ⟨m0, m1, m2⟩ := dec_pull_no_v HA5.out
  go_enter Try.func38, Try.ntmps38
  go_upto_region 1 with fail
  rw [HS.out, ← HE.out.1, ← HE.out.2.1, ← HE.out.2.2.1, ← HE.out.2.2.2]
  go_upto_region 2 with (go_at_call 28; refine HEN.out.mono ?_; rintro e w3 ⟨A4, n4, c4, rfl, hS, hG⟩; have HS3 := Lib.hid (hS rfl); have HG3 := Lib.hid hG; clear hS hG)
  rw [show encE false = 0 from rfl]
  clear m0 m1 m2 HEN
  have HP3 := Lib.hid (HP2.out.grew HG3.out)
  have HB3 := Lib.hid (HB2.out.grew HG3.out)
  have HA5' := Lib.hid (HA5.out.grew HG3.out)
  have HA8' := Lib.hid (HA8.out.grew HG3.out)
  have HGw3 := Lib.hid (HG2.out.trans HG3.out)
  obtain ⟨c0, c1, f1⟩ := HP3.out.cells
  have HN := Lib.hid (rde1 HP3.out.2.1)
  go_upto_region 3 with (go_at_call 17; refine HN.out.mono ?_; rintro e w11 ⟨rfl, rfl⟩)
  clear c0 c1 f1 HN
  obtain ⟨w4, hw4⟩ : ∃ W, W = w3.alloc (.cells #[.int .u64 0, .int .u64 0, .int .i64 0] 53) := ⟨_, rfl⟩
  obtain ⟨b12, hb12⟩ : ∃ b, b = w3.heap.size := ⟨_, rfl⟩
  have HA12 := Lib.hid (show ArrV w4 b12 [.int .u64 0, .int .u64 0, .int .i64 0] by rw [hw4, hb12]; exact ArrV.made w3 _ _)
  have hG4 : Grew w3 w4 := by rw [hw4]; exact grew_alloc w3 _
  have HGw4 := Lib.hid (HGw3.out.trans hG4)
  have HA8'' := Lib.hid (HA8'.out.grew hG4)
  go_upto_region 4 with fail
  rw [← hw4, ← hb12]
  clear hw4 hb12 hG4
  obtain ⟨m0, m1, m2⟩ := dec_pull_no_z HA12.out
  have HT := Lib.hid (show w4.there b8 0 (#[.int .u64 0, .int .u64 0, .int .i64 0] : Array Value).size from HA8''.out.there)
  have HA9 := Lib.hid (HA8''.out.stored (vs := [.int .u64 0, .int .u64 0, .int .i64 0]) rfl)
  have HZ := Lib.hid (show (Try.prog.info? 53).map (·.size) = some (#[.int .u64 0, .int .u64 0, .int .i64 0] : Array Value).size by kernel_rfl)
  go_wp2_with (refine wpList_store_mid rfl 53 (.tmp 8) (.tmp 41) rfl b8 0 #[.int .u64 0, .int .u64 0, .int .i64 0] rfl rfl HT.out HZ.out (all_oneCell_toArray dec_pull_no_one) ?_)
  have HLV := run_loadVar_mid (P := Try.prog) (w4.setCells b8 0 [.int .u64 0, .int .u64 0, .int .i64 0]) b8 0 53 [.int .u64 0, .int .u64 0, .int .i64 0] _ HA9.out.range Try.underlying53 rfl (by kernel_rfl)
  refine bodyPost_ret (v := .tuple #[.agg #[.int .u64 0, .int .u64 0, .int .i64 0], .int .i64 14]) (by simp [results, Try.results38, asAddr, HLV]) rfl ⟨rfl, Below.grown HGw4.out (grown_setCells b8 [.int .u64 0, .int .u64 0, .int .i64 0] 0 w4) HGw4.out.size (fun k e => by injection e with e; rw [← e]; exact Hb8.out)⟩
theorem dec_push_ok_v {W : World} {b : Nat} {gx cx : Nat} (h : ArrV W b [.int .u64 2, .slice (some ⟨gx, 0, none⟩) 1 cx]) : W.cell? ⟨b, 0, none⟩ = some (.int .u64 2) ∧ W.cell? ⟨b, 1, none⟩ = some (.slice (some ⟨gx, 0, none⟩) 1 cx) := ⟨h.cell (i := 0) (by simp), h.cell (i := 1) (by simp)⟩
theorem dec_push_ok_one {gx cx : Nat} : ∀ v ∈ [(.int .u64 2 : Value), .slice (some ⟨gx, 0, none⟩) 1 cx], v.oneCell' = true := by intro v hv; simp only [List.mem_cons, List.not_mem_nil, or_false] at hv; rcases hv with rfl | rfl <;> rfl
set_option maxRecDepth 10000 in
set_option maxHeartbeats 1000000 in
theorem dec_push_ok {gx cx : Nat} (gr g : Nat) (base : Nat × Nat) (A : Option Addr) (n c : Nat) (l l1 : List UInt8) (w : World) (hP : PRd w gr g base (some []) false) (hB : Sl w w.heap.size A n c l) (hE : ∀ W, Grew w W → Calls Try.prog 30 #[.agg #[.int .u64 2, .slice (some ⟨gx, 0, none⟩) 1 cx]] W (EncR W l1 false)) (hl : l1 = l) :
    Calls Try.prog 43 #[.pointer (some ⟨gr, 0, none⟩), .agg #[.int .u64 2, .slice (some ⟨gx, 0, none⟩) 1 cx], .slice A n c, .func (.func 30) #[] #[]] w fun e w' => e = .returned (.tuple #[.agg #[.int .u64 2, .slice (some ⟨gx, 0, none⟩) 1 cx], .int .i64 0]) ∧ Grew w w' := by
  obtain ⟨w1, hw1⟩ : ∃ W, W = w.alloc (.cells #[.int .u64 2, .slice (some ⟨gx, 0, none⟩) 1 cx] 64) := ⟨_, rfl⟩
  obtain ⟨b5, hb5⟩ : ∃ b, b = w.heap.size := ⟨_, rfl⟩
  obtain ⟨w2, hw2⟩ : ∃ W, W = w1.alloc (.cells #[.int .u64 0, .slice none 0 0] 64) := ⟨_, rfl⟩
  obtain ⟨b8, hb8⟩ : ∃ b, b = w1.heap.size := ⟨_, rfl⟩
  have hG1 : Grew w w1 := by rw [hw1]; exact grew_alloc w _
  have hG12 : Grew w1 w2 := by rw [hw2]; exact grew_alloc w1 _
  have HG2 := Lib.hid (hG1.trans hG12)
  have HA5 := Lib.hid (ArrV.grew (show ArrV w1 b5 [.int .u64 2, .slice (some ⟨gx, 0, none⟩) 1 cx] by rw [hw1, hb5]; exact ArrV.made w _ _) hG12)
  have HA8 := Lib.hid (show ArrV w2 b8 [.int .u64 0, .slice none 0 0] by rw [hw2, hb8]; exact ArrV.made w1 _ _)
  have Hb8 := Lib.hid (show w.heap.size ≤ b8 by rw [hb8]; exact hG1.size)
  have HE := Lib.hid (And.intro hw1 (And.intro hb5 (And.intro hw2 hb8)))
  have HP2 := Lib.hid (hP.grew HG2.out)
  have HB2 := Lib.hid (hB.grew HG2.out)
  have HEN := Lib.hid (hE w2 HG2.out)
  have HS := Lib.hid (show w.heap.size + 1 = w1.heap.size by rw [hw1]; simp)
  subst hl
  clear hw1 hb5 hw2 hb8 hG1 hG12 hP hB hE
  obtain ⟨m0, m1⟩ := dec_push_ok_v HA5.out
  go_enter Try.func43, Try.ntmps43
  go_upto_region 1 with fail
  rw [HS.out, ← HE.out.1, ← HE.out.2.1, ← HE.out.2.2.1, ← HE.out.2.2.2]
  go_upto_region 2 with (go_at_call 30; refine HEN.out.mono ?_; rintro e w3 ⟨A4, n4, c4, rfl, hS, hG⟩; have HS3 := Lib.hid (hS rfl); have HG3 := Lib.hid hG; clear hS hG)
  rw [show encE false = 0 from rfl]
  clear m0 m1 HEN
  have HP3 := Lib.hid (HP2.out.grew HG3.out)
  have HB3 := Lib.hid (HB2.out.grew HG3.out)
  have HA5' := Lib.hid (HA5.out.grew HG3.out)
  have HA8' := Lib.hid (HA8.out.grew HG3.out)
  have HGw3 := Lib.hid (HG2.out.trans HG3.out)
  obtain ⟨c0, c1, f1⟩ := HP3.out.cells
  have HN := Lib.hid (rde0 HP3.out.2.1)
  have HQ := Lib.hid (bytes_same A4 n4 c4 _ A n c _ _ w3 HS3.out HB3.out)
  go_upto_region 5 with (first
    | (go_at_call 17; refine HN.out.mono ?_; rintro e w11 ⟨rfl, rfl⟩)
    | (go_at_call 46; refine HQ.out.mono ?_; rintro e w12 ⟨rfl, rfl⟩))
  clear c0 c1 f1 HN HQ
  obtain ⟨m0, m1⟩ := dec_push_ok_v HA5'.out
  have HT := Lib.hid (show w3.there b8 0 (#[.int .u64 2, .slice (some ⟨gx, 0, none⟩) 1 cx] : Array Value).size from HA8'.out.there)
  have HA9 := Lib.hid (HA8'.out.stored (vs := [.int .u64 2, .slice (some ⟨gx, 0, none⟩) 1 cx]) rfl)
  have HZ := Lib.hid (show (Try.prog.info? 64).map (·.size) = some (#[.int .u64 2, .slice (some ⟨gx, 0, none⟩) 1 cx] : Array Value).size by kernel_rfl)
  go_wp2_with (refine wpList_store_mid rfl 64 (.tmp 8) (.tmp 42) rfl b8 0 #[.int .u64 2, .slice (some ⟨gx, 0, none⟩) 1 cx] rfl rfl HT.out HZ.out (all_oneCell_toArray dec_push_ok_one) ?_)
  have HLV := run_loadVar_mid (P := Try.prog) (w3.setCells b8 0 [.int .u64 2, .slice (some ⟨gx, 0, none⟩) 1 cx]) b8 0 64 [.int .u64 2, .slice (some ⟨gx, 0, none⟩) 1 cx] _ HA9.out.range Try.underlying64 rfl (by kernel_rfl)
  refine bodyPost_ret (v := .tuple #[.agg #[.int .u64 2, .slice (some ⟨gx, 0, none⟩) 1 cx], .int .i64 0]) (by simp [results, Try.results43, asAddr, HLV]) rfl ⟨rfl, Below.grown HGw3.out (grown_setCells b8 [.int .u64 2, .slice (some ⟨gx, 0, none⟩) 1 cx] 0 w3) HGw3.out.size (fun k e => by injection e with e; rw [← e]; exact Hb8.out)⟩
theorem dec_res_ok_v {W : World} {b : Nat} {A1 : Option Addr} {n1 c1 : Nat} (h : ArrV W b [.int .u64 1, .int .u64 0, .slice A1 n1 c1]) : W.cell? ⟨b, 0, none⟩ = some (.int .u64 1) ∧ W.cell? ⟨b, 1, none⟩ = some (.int .u64 0) ∧ W.cell? ⟨b, 2, none⟩ = some (.slice A1 n1 c1) := ⟨h.cell (i := 0) (by simp), h.cell (i := 1) (by simp), h.cell (i := 2) (by simp)⟩
theorem dec_res_ok_one {A1 : Option Addr} {n1 c1 : Nat} : ∀ v ∈ [(.int .u64 1 : Value), .int .u64 0, .slice A1 n1 c1], v.oneCell' = true := by intro v hv; simp only [List.mem_cons, List.not_mem_nil, or_false] at hv; rcases hv with rfl | rfl | rfl <;> rfl
set_option maxRecDepth 10000 in
set_option maxHeartbeats 1000000 in
theorem dec_res_ok {A1 : Option Addr} {n1 c1 : Nat} (gr g : Nat) (base : Nat × Nat) (A : Option Addr) (n c : Nat) (l l1 : List UInt8) (w : World) (hP : PRd w gr g base (some []) false) (hB : Sl w w.heap.size A n c l) (hE : ∀ W, Grew w W → Calls Try.prog 35 #[.agg #[.int .u64 1, .int .u64 0, .slice A1 n1 c1]] W (EncR W l1 false)) (hl : l1 = l) :
    Calls Try.prog 45 #[.pointer (some ⟨gr, 0, none⟩), .agg #[.int .u64 1, .int .u64 0, .slice A1 n1 c1], .slice A n c, .func (.func 35) #[] #[]] w fun e w' => e = .returned (.tuple #[.agg #[.int .u64 1, .int .u64 0, .slice A1 n1 c1], .int .i64 0]) ∧ Grew w w' := by
  obtain ⟨w1, hw1⟩ : ∃ W, W = w.alloc (.cells #[.int .u64 1, .int .u64 0, .slice A1 n1 c1] 83) := ⟨_, rfl⟩
  obtain ⟨b5, hb5⟩ : ∃ b, b = w.heap.size := ⟨_, rfl⟩
  obtain ⟨w2, hw2⟩ : ∃ W, W = w1.alloc (.cells #[.int .u64 0, .int .u64 0, .slice none 0 0] 83) := ⟨_, rfl⟩
  obtain ⟨b8, hb8⟩ : ∃ b, b = w1.heap.size := ⟨_, rfl⟩
  have hG1 : Grew w w1 := by rw [hw1]; exact grew_alloc w _
  have hG12 : Grew w1 w2 := by rw [hw2]; exact grew_alloc w1 _
  have HG2 := Lib.hid (hG1.trans hG12)
  have HA5 := Lib.hid (ArrV.grew (show ArrV w1 b5 [.int .u64 1, .int .u64 0, .slice A1 n1 c1] by rw [hw1, hb5]; exact ArrV.made w _ _) hG12)
  have HA8 := Lib.hid (show ArrV w2 b8 [.int .u64 0, .int .u64 0, .slice none 0 0] by rw [hw2, hb8]; exact ArrV.made w1 _ _)
  have Hb8 := Lib.hid (show w.heap.size ≤ b8 by rw [hb8]; exact hG1.size)
  have HE := Lib.hid (And.intro hw1 (And.intro hb5 (And.intro hw2 hb8)))
  have HP2 := Lib.hid (hP.grew HG2.out)
  have HB2 := Lib.hid (hB.grew HG2.out)
  have HEN := Lib.hid (hE w2 HG2.out)
  have HS := Lib.hid (show w.heap.size + 1 = w1.heap.size by rw [hw1]; simp)
  subst hl
  clear hw1 hb5 hw2 hb8 hG1 hG12 hP hB hE
  obtain ⟨m0, m1, m2⟩ := dec_res_ok_v HA5.out
  go_enter Try.func45, Try.ntmps45
  go_upto_region 1 with fail
  rw [HS.out, ← HE.out.1, ← HE.out.2.1, ← HE.out.2.2.1, ← HE.out.2.2.2]
  go_upto_region 2 with (go_at_call 35; refine HEN.out.mono ?_; rintro e w3 ⟨A4, n4, c4, rfl, hS, hG⟩; have HS3 := Lib.hid (hS rfl); have HG3 := Lib.hid hG; clear hS hG)
  rw [show encE false = 0 from rfl]
  clear m0 m1 m2 HEN
  have HP3 := Lib.hid (HP2.out.grew HG3.out)
  have HB3 := Lib.hid (HB2.out.grew HG3.out)
  have HA5' := Lib.hid (HA5.out.grew HG3.out)
  have HA8' := Lib.hid (HA8.out.grew HG3.out)
  have HGw3 := Lib.hid (HG2.out.trans HG3.out)
  obtain ⟨c0, c1, f1⟩ := HP3.out.cells
  have HN := Lib.hid (rde0 HP3.out.2.1)
  have HQ := Lib.hid (bytes_same A4 n4 c4 _ A n c _ _ w3 HS3.out HB3.out)
  go_upto_region 5 with (first
    | (go_at_call 17; refine HN.out.mono ?_; rintro e w11 ⟨rfl, rfl⟩)
    | (go_at_call 46; refine HQ.out.mono ?_; rintro e w12 ⟨rfl, rfl⟩))
  clear c0 c1 f1 HN HQ
  obtain ⟨m0, m1, m2⟩ := dec_res_ok_v HA5'.out
  have HT := Lib.hid (show w3.there b8 0 (#[.int .u64 1, .int .u64 0, .slice A1 n1 c1] : Array Value).size from HA8'.out.there)
  have HA9 := Lib.hid (HA8'.out.stored (vs := [.int .u64 1, .int .u64 0, .slice A1 n1 c1]) rfl)
  have HZ := Lib.hid (show (Try.prog.info? 83).map (·.size) = some (#[.int .u64 1, .int .u64 0, .slice A1 n1 c1] : Array Value).size by kernel_rfl)
  go_wp2_with (refine wpList_store_mid rfl 83 (.tmp 8) (.tmp 42) rfl b8 0 #[.int .u64 1, .int .u64 0, .slice A1 n1 c1] rfl rfl HT.out HZ.out (all_oneCell_toArray dec_res_ok_one) ?_)
  have HLV := run_loadVar_mid (P := Try.prog) (w3.setCells b8 0 [.int .u64 1, .int .u64 0, .slice A1 n1 c1]) b8 0 83 [.int .u64 1, .int .u64 0, .slice A1 n1 c1] _ HA9.out.range Try.underlying83 rfl (by kernel_rfl)
  refine bodyPost_ret (v := .tuple #[.agg #[.int .u64 1, .int .u64 0, .slice A1 n1 c1], .int .i64 0]) (by simp [results, Try.results45, asAddr, HLV]) rfl ⟨rfl, Below.grown HGw3.out (grown_setCells b8 [.int .u64 1, .int .u64 0, .slice A1 n1 c1] 0 w3) HGw3.out.size (fun k e => by injection e with e; rw [← e]; exact Hb8.out)⟩
end Go.Proofs.Ytafhkjljalmheaa
