/- Reading at hand: a number, a text; an event's bytes, decoded. -/
import Derived.Test.YtafhkjljalmheaaProtoV2
namespace Go.Proofs.Ytafhkjljalmheaa
open Go.RowKit
set_option linter.unusedVariables false
section
variable {g : Nat} {st st' : BinP.St} {base : Nat × Nat} {w : World}
theorem rdi {v : Nat} {i a : Int} (h : RdS w base g st) (e : BinP.pInt a st = (v, st')) (hi : (v : Int) = i) (ha : (Lit.int .i64 a).wf = true) :
    Calls Try.prog 13 #[.pointer (some ⟨g, 0, none⟩), .int .i64 a] w fun x w' => x = .returned (.int .i64 i) ∧ RdS w' base g st' ∧ w.grownBy w' (some g) := by
  have := rd_int g st base w a ha h
  simp only [e, hi] at this
  exact this
theorem rdu {v : Nat} {i : Int} (h : RdS w base g st) (e : BinP.pUint st = (v, st')) (hi : (v : Int) = i) :
    Calls Try.prog 23 #[.pointer (some ⟨g, 0, none⟩)] w fun x w' => x = .returned (.int .u64 i) ∧ RdS w' base g st' ∧ w.grownBy w' (some g) := by
  have := rd_uint g st base w h
  simp only [e, hi] at this
  exact this
theorem rdt {s : List UInt8} {b : ByteArray} {a : Int} (h : RdS w base g st) (e : BinP.pText a st = (s, st')) (hb : (⟨s.toArray⟩ : ByteArray) = b) (ha : (Lit.int .i64 a).wf = true) :
    Calls Try.prog 12 #[.pointer (some ⟨g, 0, none⟩), .int .i64 a] w fun x w' => x = .returned (.string b) ∧ RdS w' base g st' ∧ w.grownBy w' (some g) := by
  have := rd_text g st base w a ha h
  simp only [e, hb] at this
  exact this
theorem rde0 (h : RdS w base g (some [])) : Calls Try.prog 17 #[.pointer (some ⟨g, 0, none⟩)] w fun e w' => e = .returned (.int .i64 0) ∧ w = w' := rd_end g (some []) base w h
theorem rde1 (h : RdS w base g none) : Calls Try.prog 17 #[.pointer (some ⟨g, 0, none⟩)] w fun e w' => e = .returned (.int .i64 14) ∧ w = w' := rd_end g none base w h
end
theorem evL_one : ∀ v ∈ evL, v.oneCell' = true := by intro v hv; simp only [evL, List.mem_cons, List.not_mem_nil, or_false] at hv; rcases hv with rfl | rfl | rfl | rfl | rfl | rfl | rfl <;> rfl
/-- the event that is none -/
def zeL : List Value := [.int .i64 0, .int .u64 0, .int .i64 0, .string ⟨#[]⟩, .string ⟨#[]⟩, .string ⟨#[]⟩, .slice none 0 0]
theorem zeL_one : ∀ v ∈ zeL, v.oneCell' = true := by intro v hv; simp only [zeL, List.mem_cons, List.not_mem_nil, or_false] at hv; rcases hv with rfl | rfl | rfl | rfl | rfl | rfl | rfl <;> rfl
set_option maxHeartbeats 2000000 in
theorem dec_event (A : Option Addr) (n c : Nat) (w : World) (h : Sl w w.heap.size A n c eb) :
    Calls Try.prog 49 #[.slice A n c] w fun e w' => e = .returned (.tuple #[.agg evL.toArray, .int .i64 0]) ∧ Grew w w' := by
  obtain ⟨w1, hw1⟩ : ∃ W, W = w.alloc (.cells #[.int .i64 0, .int .u64 0, .int .i64 0, .string ⟨#[]⟩, .string ⟨#[]⟩, .string ⟨#[]⟩, .slice none 0 0] 78) := ⟨_, rfl⟩
  obtain ⟨b2, hb2⟩ : ∃ b, b = w.heap.size := ⟨_, rfl⟩
  have HG1 := Lib.hid (show Grew w w1 by rw [hw1]; exact grew_alloc w _)
  have HA1 := Lib.hid (show ArrV w1 b2 zeL by rw [hw1, hb2]; exact ArrV.made w _ _)
  have HB := Lib.hid (show b2 < w1.heap.size ∧ w.heap.size ≤ b2 by rw [hw1, hb2]; simp)
  have HR := Lib.hid (bin_read A n c eb w1.heap.size w1 h.1 (h.grew HG1.out).2.2.2 (Nat.le_refl _) (by have h2 := h.1; have h3 : eb.length = 9 := (by decide); omega))
  have HE := Lib.hid (And.intro hw1 hb2)
  clear hw1 hb2 h
  go_enter Try.func49, Try.ntmps49
  go_upto_region 1 with fail
  rw [← HE.out.1, ← HE.out.2]
  go_upto_region 2 with (go_at_call 11; refine HR.out.mono ?_; rintro e w2 ⟨g, rfl, hR, hB⟩; have HR2 := Lib.hid hR; have HG2 := Lib.hid (show Grew w1 w2 from hB); have Hg := Lib.hid hR.base_le.1; clear hR hB)
  clear HR
  go_upto_region 3 with (first
    | (go_at_call 13; refine (rdi HR2.out (v := 0) (st' := some [1, 1, 1, 99, 1, 102, 0, 0]) (i := 0) (by decide +kernel) rfl rfl).mono ?_; rintro e w3 ⟨rfl, hR, hg⟩; have HR3 := Lib.hid hR; have HG3 := Lib.hid (new_bad w2 g hg HG2.out Hg.out.1); clear hR hg HR2)
    | (go_at_call 23; refine (rdu HR3.out (v := 1) (st' := some [1, 1, 99, 1, 102, 0, 0]) (i := 1) (by decide +kernel) rfl).mono ?_; rintro e w4 ⟨rfl, hR, hg⟩; have HR4 := Lib.hid hR; have HG4 := Lib.hid (new_bad w3 g hg HG3.out Hg.out.1); clear hR hg HR3)
    | (go_at_call 13; refine (rdi HR4.out (v := 1) (st' := some [1, 99, 1, 102, 0, 0]) (i := 1) (by decide +kernel) rfl rfl).mono ?_; rintro e w5 ⟨rfl, hR, hg⟩; have HR5 := Lib.hid hR; have HG5 := Lib.hid (new_bad w4 g hg HG4.out Hg.out.1); clear hR hg HR4)
    | (go_at_call 12; refine (rdt HR5.out (s := [99]) (b := ⟨#[99]⟩) (st' := some [1, 102, 0, 0]) (by decide +kernel) rfl rfl).mono ?_; rintro e w6 ⟨rfl, hR, hg⟩; have HR6 := Lib.hid hR; have HG6 := Lib.hid (new_bad w5 g hg HG5.out Hg.out.1); clear hR hg HR5)
    | (go_at_call 12; refine (rdt HR6.out (s := [102]) (b := ⟨#[102]⟩) (st' := some [0, 0]) (by decide +kernel) rfl rfl).mono ?_; rintro e w7 ⟨rfl, hR, hg⟩; have HR7 := Lib.hid hR; have HG7 := Lib.hid (new_bad w6 g hg HG6.out Hg.out.1); clear hR hg HR6)
    | (go_at_call 12; refine (rdt HR7.out (s := []) (b := ⟨#[]⟩) (st' := some [0]) (by decide +kernel) rfl rfl).mono ?_; rintro e w8 ⟨rfl, hR, hg⟩; have HR8 := Lib.hid hR; have HG8 := Lib.hid (new_bad w7 g hg HG7.out Hg.out.1); clear hR hg HR7))
  obtain ⟨w9, hw9⟩ : ∃ W, W = w8.alloc (.cells #[.int .i64 0, .int .u64 1, .int .i64 1, .string ⟨#[99]⟩, .string ⟨#[102]⟩, .string ⟨#[]⟩, .slice none 0 0] 78) := ⟨_, rfl⟩
  obtain ⟨b5, hb5⟩ : ∃ b, b = w8.heap.size := ⟨_, rfl⟩
  have HA5 := Lib.hid (show ArrV w9 b5 evL by rw [hw9, hb5]; exact ArrV.made w8 _ _)
  have hG89 : Grew w8 w9 := by rw [hw9]; exact grew_alloc w8 _
  have HR9 := Lib.hid (HR8.out.below hG89)
  have HG9 := Lib.hid (HG8.out.trans hG89)
  have Hgb := Lib.hid (show g ≠ b5 by have := HR8.out.base_le.2; omega)
  rw [← hw9, ← hb5]
  clear hw9 hb5 hG89 HR8
  have HQ := Lib.hid (rdi HR9.out (a := 64) (v := 0) (st' := some []) (i := 0) (by decide +kernel) rfl rfl)
  go_upto_region 4 with (go_at_call 13; refine HQ.out.mono ?_; rintro e w10 ⟨rfl, hR, hg⟩; have HR10 := Lib.hid hR; have HG10 := Lib.hid (new_bad w9 g hg HG9.out Hg.out.1); have HA10 := Lib.hid (HA5.out.other hg (fun e => Hgb.out (by injection e))); clear hR hg HR9)
  refine wp_loop_rounds 1 ?_
  rw [rounds_succ]
  obtain ⟨c0, c1, c2, c3, c4, c5, c6⟩ := ev_cells HA10.out
  have HN := Lib.hid (rde0 HR10.out)
  go_upto_region 9 with (first
    | (go_at_call 17; refine HN.out.mono ?_; rintro e w11 ⟨rfl, rfl⟩)
    | (go_at_call 51; refine (crdt_good1 w10).mono ?_; rintro e w12 ⟨rfl, hG⟩; have HG12 := Lib.hid hG; clear hG))
  clear c0 c1 c2 c3 c4 c5 c6
  obtain ⟨c0, c1, c2, c3, c4, c5, c6⟩ := ev_cells (HA10.out.grew HG12.out)
  have HA2 := Lib.hid (HA1.out.grew (HG10.out.trans HG12.out))
  have HT := Lib.hid (show w12.there b2 0 evL.toArray.size from HA2.out.there)
  have HA2' := Lib.hid (HA2.out.stored (vs := evL) rfl)
  have HZ := Lib.hid (show (Try.prog.info? 78).map (·.size) = some evL.toArray.size by kernel_rfl)
  go_wp2_with (refine wpList_store_mid rfl 78 (.tmp 2) (.tmp 46) rfl b2 0 evL.toArray rfl rfl HT.out HZ.out (all_oneCell_toArray evL_one) ?_)
  have HLV := run_loadVar_mid (P := Try.prog) (w12.setCells b2 0 evL) b2 0 78 evL _ HA2'.out.range Try.underlying78 rfl (by kernel_rfl)
  refine bodyPost_ret (v := .tuple #[.agg evL.toArray, .int .i64 0]) (by simp [results, Try.results49, asAddr, HLV]) rfl ⟨rfl, Below.grown (HG1.out.trans (HG10.out.trans HG12.out)) (grown_setCells b2 evL 0 w12) (HG1.out.trans (HG10.out.trans HG12.out)).size (fun k e => by injection e with e; rw [← e]; exact HB.out.2)⟩
end Go.Proofs.Ytafhkjljalmheaa
