/- The walk of rolodexlaw3.BinLays. -/
import Derived.Test.YtafhkjljalmheaaAwake3
import Derived.Test.YtafhkjljalmheaaBinRef
import Derived.Test.YtafhkjljalmheaaExt
import Derived.Deep.CutRange
namespace Go.Proofs.Ytafhkjljalmheaa
open Go.RowKit
set_option linter.unusedVariables false
attribute [local go_sem] ba_append
theorem GivesB.sl {w0 : World} {l : List UInt8} {e : Ending} {w' : World} (h : GivesB w0 l e w') : ∃ A n c, e = .returned (.slice A n c) ∧ Sl w' w'.heap.size A n c l ∧ Grew w0 w' := by
  obtain ⟨A, n, c, rfl, hO, hB⟩ := h
  exact ⟨A, n, c, rfl, ⟨hO.len, hO.le.1, hO.le.2, hO.row⟩, hB⟩
set_option maxRecDepth 4000 in
set_option maxHeartbeats 1000000 in
theorem binLays_walk (A0 : Option Addr) (n0 c0 : Nat) (l0 : List UInt8) (a1 : Int) (s2 : ByteArray) (w : World) (b0 : BytesIn w A0 n0 c0 l0) (z0 : n0 * 1 ≤ 140737488351232) (w1 : (Lit.int .u64 a1).wf = true) (z2 : s2.data.toList.length ≤ 140737488351232) (hup : n0 + s2.data.toList.length ≤ 1048576) :
    Calls Try.prog 4 #[.slice A0 n0 c0, .int .u64 a1, .string s2] w fun e w' => e = .returned (.bool true) ∧ Below w.heap.size w w' := by
  obtain ⟨v, rfl, hv⟩ := u64_arg w1
  obtain ⟨s, rfl, _⟩ := str_of s2
  have hz : n0 + s.length ≤ 1048576 := by simpa using hup
  clear z2 hup w1
  obtain ⟨hn, hnc, hcm, hr⟩ := b0
  subst hn
  have HV := Lib.hid hv
  unfold maxLen at hcm
  clear hv
  go_enter Try.func4, Try.ntmps4
  go_wp2_with fail
  refine (awake3 w).mono ?_
  rintro e w1 ⟨rfl, hB0⟩
  have hs0 := hB0.size
  have hr1 := hr.below hB0
  go_wp2_with (first | (refine wpList_str8 (dst := some 13) A0 l0.length c0 w.heap.size l0 rfl rfl rfl hr1 ?_) | (refine wpList_bytes8 (dst := some 14) w.heap.size l0 rfl rfl hs0 (by unfold maxLen; omega) ?_; intro cap2 w2 hO2 hB1 hs2) | (at_builtin; refine wpList_app8 rfl (.tmp 14) (.tmp 15) 25 rfl (.inl ⟨_, Try.underlying25⟩) w.heap.size _ _ _ l0 rfl (hO2.alloc _) 1 [9] (Src.slice rfl (Row.new _ _ _ _ (w2.heap.size + 1) _ rfl (by omega) _ rfl)) (.inr ⟨rfl, by omega⟩) (by simp; omega) ?_; intro A3 cap3 w3 hO3 hg3 hB3 hb3; have hcap3 := hO3.le.1))
  have hBw3 : Below w.heap.size w w3 := (hB0.trans ((hB1.mono hs0).alloc (by omega) _)).trans hB3
  have hrow3 := hO3.row
  have hle3 := hO3.le.2
  clear hO2 hg3 hB3 hb3 hB0 hB1
  refine (bin_uint A3 l0.length cap3 v l0 w3.heap.size w3 rfl hrow3.pre8 (Nat.le_refl _) (by omega) HV.out).mono ?_
  rintro e w4 ⟨A4, n4, c4, rfl, hO4, hB4⟩
  have hs4 := hB4.size
  go_wp2_with fail
  refine (bin_text A3 l0.length cap3 l0 s w3.heap.size w4 rfl (hrow3.below hB4).pre8 hs4 (by omega)).mono ?_
  rintro e w5 ⟨A5, n5, c5, rfl, hO5, hB5⟩
  have hr8 := (hO4.below_all hB5).row
  have hr9 := hO5.row
  have hr7 := hrow3.below (hB4.trans (hB5.mono hs4))
  have hBw5 : Below w.heap.size w w5 := hBw3.trans ((hB4.mono hBw3.size).trans (hB5.mono (Nat.le_trans hBw3.size hs4)))
  have hr0 := hr.below hBw5
  have hl4 := Lib.hid hO4.len
  have hl5 := Lib.hid hO5.len
  have hl3 := Lib.hid hO3.len
  have hs5 := hB5.size
  have hs50 := hBw5.size
  clear hO4 hO5 hB4 hB5 hrow3 hO3
  have he1 := BinP.enc_len v
  have he2 : (BinP.text s).length ≤ s.length + 10 := by have := BinP.enc_len s.length; simp [BinP.text]; omega
  go_upto_region 6 with fail
  refine wp_region_x [34, 44] (by kernel_rfl) (by kernel_rfl) (by kernel_rfl) ?_
  simp only [blank, List.foldl_cons, List.foldl_nil, Act.put, List.setIfInBounds_toArray, List.set_cons_succ, List.set_cons_zero]
  repeat (first
    | (refine wpX_value (v := ?_) rfl (by intros; simp) rfl rfl (fun x => ?_) ?_; rotate_left; (focus (simp [go_sem, ↓IntWalk.iteOmega]; first | done | rfl)); (simp only [Act.put, List.setIfInBounds_toArray, List.set_cons_succ, List.set_cons_zero]))
    | (refine wpX_str8 A0 l0.length c0 w.heap.size l0 rfl rfl rfl rfl rfl hs50 hr0 ?_; (simp only [Act.put, List.setIfInBounds_toArray, List.set_cons_succ, List.set_cons_zero]))
    | (refine wpX_str8 A4 n4 c4 w5.heap.size _ rfl rfl rfl rfl hl4.out (Nat.le_refl _) hr8 ?_; (simp only [Act.put, List.setIfInBounds_toArray, List.set_cons_succ, List.set_cons_zero]))
    | (refine wpX_str8 A5 n5 c5 w5.heap.size _ rfl rfl rfl rfl hl5.out (Nat.le_refl _) hr9 ?_; (simp only [Act.put, List.setIfInBounds_toArray, List.set_cons_succ, List.set_cons_zero]))
    | (refine wpX_str8 A3 (l0.length + 1) cap3 w3.heap.size _ rfl rfl rfl rfl hl3.out (Nat.le_trans hs4 hs5) hr7 ?_; (simp only [Act.put, List.setIfInBounds_toArray, List.set_cons_succ, List.set_cons_zero]))
    | (refine wpX_strM _ rfl rfl rfl rfl ?_; (simp only [Act.put, List.setIfInBounds_toArray, List.set_cons_succ, List.set_cons_zero]))
    | (refine wpX_callM (BinP.enc v) _ _ 34 rfl (by intros; simp) rfl rfl rfl (fun _ => by simp [go_sem]) (fun w' _ => (ref_enc v w' HV.out).mono fun _ _ h => h.sl) ?_; (simp only [Act.put, List.setIfInBounds_toArray, List.set_cons_succ, List.set_cons_zero]))
    | (refine wpX_callM (BinP.text s) _ _ 44 rfl (by intros; simp) rfl rfl rfl (fun _ => by simp [go_sem]) (fun w' _ => (ref_text s w' (by omega)).mono fun _ _ h => h.sl) ?_; (simp only [Act.put, List.setIfInBounds_toArray, List.set_cons_succ, List.set_cons_zero])))
  (refine wpX_nil ?_; intro xb wx hxg xl; obtain ⟨xf, xe⟩ := LikeAll.end_ xl; clear xl; subst xe; try simp only [fill, List.foldl_cons, List.foldl_nil, Act.put, List.setIfInBounds_toArray, List.set_cons_succ, List.set_cons_zero])
  go_wp2_with fail
  go_ret
  exact ⟨rfl, hBw5.trans (hxg.mono hs50)⟩
end Go.Proofs.Ytafhkjljalmheaa
