/- The walk of sha.Mac. -/
import Derived.Test.YtohgkadbajmphaaShaSum
import Derived.Test.YtohgkadbajmphaaShaP
import Derived.Laws.CopyOwn
import Derived.Deep.DeepCutAuto
import Derived.Deep.CutRange
namespace Go.Proofs.Ytohgkadbajmphaa
open Go.RowKit
set_option linter.unusedVariables false
def bzeros : Array Value := Array.replicate 64 (.int .u8 0)
theorem bz_made (W : World) : ArrV (W.alloc (.cells bzeros 98)) W.heap.size ((List.replicate 64 (0 : UInt8)).map b8) := by
  have h := ArrV.made W bzeros 98
  have e : bzeros.toList = (List.replicate 64 (0 : UInt8)).map b8 := by kernel_rfl
  rwa [e] at h
attribute [irreducible] bzeros
theorem ArrV.sl {w : World} {g n c : Nat} {l : List UInt8} (h : ArrV w g (l.map b8)) (hn : l.length = n) (hc : n ≤ c) (hm : c ≤ maxLen) : Sl w w.heap.size (some ⟨g, 0, none⟩) n c l :=
  ⟨hn, hc, hm, fun j u hu => ⟨_, rfl, h.lt, by rw [add_off, Nat.zero_add]; exact h.atSome hu⟩⟩
/-- a digest stored into 32 bytes of 0 that were just made -/
theorem digest_stored {w W : World} {g : Nat} {D C : List Value} {l : List UInt8} (hC : C = (ShaP.digest l).map b8) (h : ArrV W g ((List.replicate 32 (0 : UInt8)).map b8)) :
    W.there g 0 C.toArray.size ∧ (Try.prog.info? 23).map (·.size) = some C.toArray.size ∧ C.toArray.all (·.oneCell') = true ∧ ArrV (W.setCells g 0 C) g C ∧ C.length = 32 := by
  have hl : C.length = 32 := by rw [hC, List.length_map]; exact ShaP.digest_len l
  refine ⟨?_, ?_, ?_, h.stored (by rw [hl]; simp), hl⟩
  · have := h.there
    simp at this
    simp [hl]
    exact this
  · rw [List.size_toArray, hl]; kernel_rfl
  · rw [hC]
    exact all_oneCell_toArray (fun v hv => by obtain ⟨x, _, rfl⟩ := List.mem_map.1 hv; rfl)
theorem splice_key (kb : List UInt8) (h : kb.length ≤ 64) : splice (List.map b8 (List.replicate 64 (0 : UInt8))) 0 (List.map b8 kb) = (kb ++ List.replicate (64 - kb.length) 0).map b8 := by
  unfold splice
  rw [List.take_zero, List.nil_append, List.map_append, Nat.zero_add, List.length_map, ← List.map_drop, List.drop_replicate]
theorem pad_made (W : World) (B : Nat) (hB : B ≤ W.heap.size) : OwnB (W.alloc (.cells bzeros 5)) B (some ⟨W.heap.size, 0, none⟩) 64 64 (List.replicate 64 0) := by
  have e : bzeros = ((List.replicate 64 (0 : UInt8)).map b8).toArray := by unfold bzeros; kernel_rfl
  refine Own.made W _ 5 (0, 0) 1 64 64 _ hB (by simp) (Nat.le_refl _) (by unfold maxLen; omega) (by rw [e]; simp) (.inr rfl) (fun j u hu => ?_)
  rw [e, ← Array.getElem?_toList]
  exact hu
theorem pads_made (W : World) : OwnB ((W.alloc (.cells bzeros 5)).alloc (.cells bzeros 5)).drew W.heap.size (some ⟨W.heap.size, 0, none⟩) 64 64 (List.replicate 64 0) ∧
    OwnB ((W.alloc (.cells bzeros 5)).alloc (.cells bzeros 5)).drew W.heap.size (some ⟨W.heap.size + 1, 0, none⟩) 64 64 (List.replicate 64 0) ∧
    Below W.heap.size W ((W.alloc (.cells bzeros 5)).alloc (.cells bzeros 5)).drew := by
  have h1 := (pad_made W W.heap.size (Nat.le_refl _)).alloc (.cells bzeros 5)
  have h2 := pad_made (W.alloc (.cells bzeros 5)) W.heap.size (by simp)
  have e : (W.alloc (.cells bzeros 5)).heap.size = W.heap.size + 1 := by simp
  rw [e] at h2
  have h3 : Below W.heap.size W ((W.alloc (.cells bzeros 5)).alloc (.cells bzeros 5)) := ((Below.refl _ _).alloc (Nat.le_refl _) _).alloc (by simp) _
  exact ⟨h1.drewN 1, h2.drewN 1, h3.trans ((Grew.drewN _ 1).mono (by simp; omega))⟩
theorem grown_cell (w : World) (p : Addr) (v : Value) : w.grownBy (w.setCell p v) (some p.block) :=
  ⟨rfl, rfl, rfl, by simp [World.setCell], fun k _ hne => Below.heap_setCell w p v k (fun e => hne (by rw [e]))⟩
theorem pads_step {w : World} {B gi go k : Nat} {x y : UInt8} {l m : List UInt8} (hne : gi ≠ go) (hk : k < 64) (hi : OwnB w B (some ⟨gi, 0, none⟩) 64 64 l) (ho : OwnB w B (some ⟨go, 0, none⟩) 64 64 m) :
    OwnB ((w.setCell ⟨gi, k, none⟩ (b8 x)).setCell ⟨go, k, none⟩ (b8 y)) B (some ⟨gi, 0, none⟩) 64 64 (l.set k x) ∧
    OwnB ((w.setCell ⟨gi, k, none⟩ (b8 x)).setCell ⟨go, k, none⟩ (b8 y)) B (some ⟨go, 0, none⟩) 64 64 (m.set k y) ∧
    Below B w ((w.setCell ⟨gi, k, none⟩ (b8 x)).setCell ⟨go, k, none⟩ (b8 y)) := by
  have h1 := hi.set (j := k) hk x
  have h2 := (ho.other (grown_cell w ⟨gi, k, none⟩ (b8 x)) (fun g e => by simp [blk] at e; subst e; intro e2; injection e2 with e2; exact hne e2)).set (j := k) hk y
  refine ⟨h1.other (grown_cell _ ⟨go, k, none⟩ (b8 y)) (fun g e => by simp [blk] at e; subst e; intro e2; injection e2 with e2; exact hne e2.symm), h2, ?_⟩
  exact ((Below.refl B w).setCell (p := ⟨gi, k, none⟩) hi.base_le.1 _).setCell (p := ⟨go, k, none⟩) ho.base_le.1 _
/-- behind the two pads' making -/
def MacCut2 (w : World) (i o : Value) (wx : World) : Prop :=
  ∃ gi go, i = .slice (some ⟨gi, 0, none⟩) 64 64 ∧ o = .slice (some ⟨go, 0, none⟩) 64 64 ∧ gi ≠ go ∧ w.heap.size ≤ gi ∧ w.heap.size ≤ go ∧
    OwnB wx w.heap.size (some ⟨gi, 0, none⟩) 64 64 (List.replicate 64 0) ∧ OwnB wx w.heap.size (some ⟨go, 0, none⟩) 64 64 (List.replicate 64 0) ∧ Below w.heap.size w wx
/-- behind the test of the key's length -/
def MacCut (w : World) (key : List UInt8) (k : Value) (wx : World) : Prop :=
  ∃ A n c, k = .slice A n c ∧ Sl wx wx.heap.size A n c (ShaP.keyOf key) ∧ ArrV wx w.heap.size ((List.replicate 32 (0 : UInt8)).map b8) ∧ ArrV wx (w.heap.size + 1) ((List.replicate 64 (0 : UInt8)).map b8) ∧ Below w.heap.size w wx
set_option maxRecDepth 100000 in
set_option maxHeartbeats 1000000 in
theorem sha_mac (A1 A2 : Option Addr) (n1 c1 n2 c2 B : Nat) (key b : List UInt8) (w : World) (h1 : Sl w B A1 n1 c1 key) (h2 : Sl w B A2 n2 c2 b) (hB : B ≤ w.heap.size) (hm1 : n1 ≤ 70368744177664) (hm2 : n2 ≤ 70368744177000) :
    Calls Try.prog 23 #[.slice A1 n1 c1, .slice A2 n2 c2] w fun e w' => e = .returned (.agg ((ShaP.mac key b).map b8).toArray) ∧ Below w.heap.size w w' := by
  obtain ⟨hn1, hnc1, hcm1, hr1⟩ := id h1
  obtain ⟨hn2, hnc2, hcm2, hr2⟩ := id h2
  subst hn1
  subst hn2
  have H1 := Lib.hid h1
  have H2 := Lib.hid h2
  have HR0 := Lib.hid (dz_made w)
  obtain ⟨w1, hw1⟩ : ∃ w1, w1 = w.alloc (.cells dzeros 23) := ⟨_, rfl⟩
  obtain ⟨w2, hw2⟩ : ∃ w2, w2 = w1.alloc (.cells bzeros 98) := ⟨_, rfl⟩
  have hz1 : w1.heap.size = w.heap.size + 1 := by rw [hw1]; simp
  have HB2 := Lib.hid (show Below w.heap.size w w2 by rw [hw2, hw1]; exact ((Below.refl _ _).alloc (Nat.le_refl _) _).alloc (by simp) _)
  have HR2 := Lib.hid (show ArrV w2 w.heap.size ((List.replicate 32 (0 : UInt8)).map b8) by rw [hw2]; refine ArrV.alloc ?_ _; rw [hw1]; exact HR0.out)
  have HK2 := Lib.hid (show ArrV w2 (w.heap.size + 1) ((List.replicate 64 (0 : UInt8)).map b8) by rw [hw2, ← hz1]; exact bz_made w1)
  have HW1 := Lib.hid hw1
  have HW2 := Lib.hid hw2
  have HZ1 := Lib.hid hz1
  clear h1 h2 hr1 hr2 HR0 hw1 hw2 hz1
  unfold maxLen at hcm1 hcm2
  go_enter Try.func23, Try.ntmps23
  go_upto_region 2 with (first
    | (refine wpList_value (o := ⟨some 4, _, _, _, _, _⟩) (v := .pointer (some ⟨w.heap.size, 0, none⟩)) (w' := w.alloc (.cells dzeros 23)) rfl (by kernel_rfl) ?_; rw [← HW1.out])
    | (refine wpList_value (o := ⟨some 5, _, _, _, _, _⟩) (v := .pointer (some ⟨w1.heap.size, 0, none⟩)) (w' := w1.alloc (.cells bzeros 98)) rfl (by kernel_rfl) ?_; rw [← HW2.out]))
  go_upto_if 14 with fail
  go_cut [0] (fun k wx => MacCut w key k wx)
  case first =>
    by_cases hk : 64 < key.length
    · have hI : (64 : Int) < (key.length : Int) := by omega
      have hT := Lib.hid (sha_sum A1 key.length c1 B key w2 (H1.out.below (HB2.out.mono hB)) (by have := HB2.out.size; omega) hm1)
      obtain ⟨C, hC⟩ : ∃ C, C = (ShaP.digest key).map b8 := ⟨_, rfl⟩
      rw [← hC] at hT
      have HC := Lib.hid hC
      clear hC
      go_wp2_with fail
      refine hT.out.mono ?_
      rintro e w3 ⟨rfl, hB3⟩
      have HB3 := Lib.hid hB3
      have HD := Lib.hid (digest_stored (w := w3) (D := []) HC.out (dz_made w3))
      clear hB3
      go_wp2_with (first
        | (refine wpList_value (o := ⟨some 6, _, _, _, _, _⟩) (v := .pointer (some ⟨w3.heap.size, 0, none⟩)) (w' := w3.alloc (.cells dzeros 23)) rfl (by kernel_rfl) ?_)
        | (refine wpList_store_mid rfl 23 (.tmp 6) (.tmp 16) rfl w3.heap.size 0 C.toArray rfl rfl HD.out.1 HD.out.2.1 HD.out.2.2.1 ?_))
      go_meet
      case rel =>
        have e3 : Below w.heap.size w w3 := HB2.out.trans (HB3.out.mono HB2.out.size)
        have hR3 := HR2.out.below HB3.out HR2.out.lt
        have hK3 := HK2.out.below HB3.out HK2.out.lt
        have hgr := grown_setCells w3.heap.size C 0 (w3.alloc (.cells dzeros 23))
        have hD4 := HD.out.2.2.2.1
        rw [HC.out] at hD4 hgr ⊢
        refine ⟨_, _, _, rfl, ?_, (hR3.alloc _).other hgr (by intro e; injection e with e; have := hR3.lt; omega), (hK3.alloc _).other hgr (by intro e; injection e with e; have := hK3.lt; omega), ?_⟩
        · have := hD4.sl (n := 32) (c := 32) (ShaP.digest_len _) (by omega) (by unfold maxLen; omega)
          unfold ShaP.keyOf
          rw [if_pos hk]
          exact this
        · exact (e3.alloc e3.size _).trans (below_grown hgr (by have := e3.size; simp; omega) (fun g e => by injection e with e; have := e3.size; omega))
    · have hI : ¬ (64 : Int) < (key.length : Int) := by omega
      go_wp2_with fail
      go_meet
      case rel =>
        refine ⟨_, _, _, rfl, ?_, HR2.out, HK2.out, HB2.out⟩
        unfold ShaP.keyOf
        rw [if_neg (by omega)]
        exact (H1.out.below (HB2.out.mono hB)).more (by have := HB2.out.size; omega)
  case rest =>
    obtain ⟨A, n, c, rfl, hS, hR, hK, hBc⟩ := hcut
    have hz := HZ1.out
    rw [hz]
    obtain ⟨kb, hkb⟩ : ∃ kb : List UInt8, kb = ShaP.keyOf key := ⟨_, rfl⟩
    have hk64 : kb.length ≤ 64 := by rw [hkb]; exact ShaP.keyOf_len key
    rw [← hkb] at hS
    obtain ⟨hn, hnc, hcm, hr⟩ := hS
    subst hn
    obtain ⟨eK, hKe⟩ := hK
    have hKe' : wc.heap[w.heap.size + 1]? = some (.cells (List.map b8 (List.replicate 64 (0 : UInt8))).toArray eK (0, 0)) := hKe
    have HKB := Lib.hid hkb
    have HR := Lib.hid hR
    have HSRC : (List.map b8 kb).length = Nat.min kb.length 64 := by rw [List.length_map]; exact (Nat.min_eq_left hk64).symm
    have HSRC := Lib.hid HSRC
    have HPOS := Lib.hid (show 0 < (List.map b8 kb).length → (some (⟨w.heap.size + 1, 0, none⟩ : Addr)) = some ⟨w.heap.size + 1, 0, none⟩ ∧ ∃ ad, A = some ad ∧ ∀ j v, (List.map b8 kb)[j]? = some v → wc.cell? (ad.add j) = some v from fun h0 => by
      obtain ⟨ad, e, _, _⟩ := hr.at_ 0 h0
      refine ⟨rfl, ad, e, fun j v hv => ?_⟩
      obtain ⟨ad', e', _, hc⟩ := hr j v hv
      rw [e] at e'
      injection e' with e'
      subst e'
      exact hc)
    have HKE := Lib.hid hKe'
    have HFIT := Lib.hid (show 0 + (List.map b8 kb).length ≤ (List.map b8 (List.replicate 64 (0 : UInt8))).length by simp; omega)
    have HONE := Lib.hid (show ∀ v ∈ List.map b8 kb, v.oneCell' = true from fun v hv => by obtain ⟨x, _, rfl⟩ := List.mem_map.1 hv; rfl)
    have hIn : kb.length ≤ c := hnc
    unfold maxLen at hcm
    clear hz hkb hR hKe hKe' hr hnc
    go_upto_region 6 with (with_reducible refine wpList_copy_splice rfl (.tmp 18) (.tmp 19) 31 31 rfl 5 Try.underlying31 (by kernel_rfl) (some ⟨w.heap.size + 1, 0, none⟩) A 64 64 kb.length c rfl rfl (w.heap.size + 1) 0 (List.map b8 (List.replicate 64 (0 : UInt8))) eK HKE.out (List.map b8 kb) HSRC.out HPOS.out HFIT.out HONE.out (w.heap.size + 1) wc (Below.refl _ _) (Nat.le_refl _) ?_; intro w5 HK5 hB5)
    have HK5' := Lib.hid (show ArrV w5 (w.heap.size + 1) ((ShaP.key64 key).map b8) from ⟨eK, by rw [HK5.out, splice_key kb hk64]; unfold ShaP.key64; rw [← HKB.out]⟩)
    have HR5 := Lib.hid (HR.out.below hB5 (by omega))
    have hBw5 : Below w.heap.size w w5 := hBc.trans (hB5.mono (by omega))
    clear HK5 HKE HSRC HPOS HFIT HONE HR hB5 hBc HKB
    (simp only [Act.put, List.setIfInBounds_toArray, List.set_cons_succ, List.set_cons_zero])
    go_cut [7, 8] (fun i o wx => MacCut2 w5 i o wx)
    case first =>
      have hmk : ∀ W : World, (Instr.makeSlice 31 (.int .i64 64) (.int .i64 64)).run Try.prog W = .ok (.slice (some ⟨W.heap.size, 0, none⟩) 64 64) (W.alloc (.cells bzeros 5)) := fun W => by unfold bzeros; kernel_rfl
      go_region
      all_goals obtain ⟨hp1, hp2, hp3⟩ := pads_made w5
      · go_wp2_with fail
        go_meet
        case rel => exact ⟨_, _, rfl, rfl, by omega, Nat.le_refl _, by omega, hp1, hp2, hp3⟩
      · go_wp2_with fail
        go_meet
        case rel => exact ⟨_, _, rfl, rfl, by omega, by omega, Nat.le_refl _, hp2, hp1, hp3⟩
    case rest =>
      obtain ⟨gi, go, rfl, rfl, hne, hgi, hgo, hOi, hOo, hB6⟩ := hcut
      have hK6 := HK5'.out.below hB6 HK5'.out.lt
      have HR6 := Lib.hid (HR5.out.below hB6 HR5.out.lt)
      have hBw6 : Below w.heap.size w wc := hBw5.trans (hB6.mono hBw5.size)
      obtain ⟨L, hL⟩ : ∃ L : List UInt8, L = ShaP.key64 key := ⟨_, rfl⟩
      rw [← hL] at hK6
      have hLl : L.length = 64 := by rw [hL]; exact ShaP.key64_len key
      have HLl := Lib.hid hLl
      have HL := Lib.hid hL
      obtain ⟨C, hC⟩ : ∃ C, C = List.map b8 L := ⟨_, rfl⟩
      rw [← hC] at hK6
      have HRG := Lib.hid hK6.range
      have HIN := Lib.hid (show (Try.prog.info? 98).map (·.size) = some C.length by rw [hC, List.length_map, hLl]; kernel_rfl)
      have HC := Lib.hid hC
      have hgw : w.heap.size + 1 < w5.heap.size := HK5'.out.lt
      clear hLl hL hC hK6 HR5 HK5' hBw5
      go_wp2_with (refine wpList_load_mid rfl 98 (.tmp 5) rfl (w.heap.size + 1) 0 rfl C _ HRG.out Try.underlying98 rfl HIN.out ?_)
      have hne' : ¬ go = gi := fun e => hne e.symm
      have HB6 := Lib.hid hB6
      clear hB6
      go_loopw [24] (fun i wy => ∃ k : Nat, k ≤ 64 ∧ i = .int .i64 (k : Int) ∧ OwnB wy w5.heap.size (some ⟨gi, 0, none⟩) 64 64 (ShaP.padded L 0x36 k) ∧ OwnB wy w5.heap.size (some ⟨go, 0, none⟩) 64 64 (ShaP.padded L 0x5c k) ∧ Below w5.heap.size wc wy) (fun i _ => 64 - (intOf i).toNat)
      case atStart => exact ⟨0, Nat.zero_le _, rfl, hOi, hOo, Below.refl _ _⟩
      case round =>
        obtain ⟨k, hk, rfl, hi, ho, hBy⟩ := hrel
        by_cases hlt : k < 64
        · have hkL : k < L.length := by rw [HLl.out]; exact hlt
          obtain ⟨x, hx⟩ : ∃ x, x = L[k] := ⟨_, rfl⟩
          have hix := run_index_array (P := Try.prog) 98 5 64 C.toArray .i64 k (b8 x) Try.underlying98 (by kernel_rfl) (fun _ => by kernel_rfl) hlt (by rw [HC.out, hx]; simp [hkL])
          have x1 : bits .xor .u8 (x.toNat : Int) 54 = ((x ^^^ 0x36).toNat : Int) := u8_xor_nat' x 0x36
          have x2 : bits .xor .u8 (x.toNat : Int) 92 = ((x ^^^ 0x5c).toNat : Int) := u8_xor_nat' x 0x5c
          have l1 : k < (ShaP.padded L 0x36 k).length := by rw [ShaP.padded_len L _ k HLl.out hk]; exact hlt
          have l2 : k < (ShaP.padded L 0x5c k).length := by rw [ShaP.padded_len L _ k HLl.out hk]; exact hlt
          have c1 := hi.cell l1
          have f1 := hi.frozen (j := k) hlt
          have c2 := ho.cell l2
          have f2 := ho.frozen (j := k) hlt
          have bi := hi.base_le
          have bo := ho.base_le
          have hI : (k : Int) < 64 := by omega
          have ST := Lib.hid (pads_step (x := x ^^^ 0x36) (y := x ^^^ 0x5c) hne hlt hi ho)
          have HX := Lib.hid hx
          clear hx
          go_wp2_with fail
          go_roundw
          case rel => exact ⟨k + 1, by omega, by go_num, by rw [← ShaP.padded_set L _ k HLl.out hlt, ← HX.out]; exact ST.out.1, by rw [← ShaP.padded_set L _ k HLl.out hlt, ← HX.out]; exact ST.out.2.1, hBy.trans ST.out.2.2⟩
          case measure => simp [intOf]; omega
        · obtain rfl : k = 64 := by omega
          obtain ⟨wz, rfl⟩ : ∃ wz : World, wz = wr := ⟨_, rfl⟩
          rw [ShaP.padded_all L _ HLl.out] at hi ho
          have hB0 : Below w.heap.size w wz := hBw6.trans (hBy.mono (by omega))
          have HRz := Lib.hid (HR6.out.below hBy (by omega))
          have hr2 := (H2.out.below (hB0.mono hB)).2.2.2
          have H2l := H2.out.1
          obtain ⟨p1, hp1⟩ : ∃ p1, p1 = L.map (· ^^^ (0x36 : UInt8)) := ⟨_, rfl⟩
          obtain ⟨p2, hp2⟩ : ∃ p2, p2 = L.map (· ^^^ (0x5c : UInt8)) := ⟨_, rfl⟩
          rw [← hp1] at hi
          rw [← hp2] at ho
          have HP1 := Lib.hid hp1
          have HP2 := Lib.hid hp2
          have HO := Lib.hid ho
          clear hp1 hp2 hBy ho HB6 hOi hOo H2l
          go_wp2_with (at_builtin; refine wpList_app8 rfl (.tmp 39) (.tmp 40) 31 rfl (.inl ⟨_, Try.underlying31⟩) w5.heap.size _ _ _ _ rfl hi b.length b (Src.slice (by simp) hr2) (.inl (by omega)) (by have := hi.base_le; omega) ?_; intro A7 c7 w7 hO7 hg7 hB7 hb7)
          have HO7 := Lib.hid (HO.out.other hg7 (fun g e => by simp [blk] at e; subst e; simp [blk]; omega))
          have HR7 := Lib.hid (HRz.out.below hB7 (by omega))
          have hB70 : Below w.heap.size w w7 := hB0.trans (hB7.mono (by omega))
          have hT := Lib.hid (sha_sum A7 (64 + b.length) c7 w7.heap.size (p1 ++ b) w7 hO7.sl (Nat.le_refl _) (by omega))
          obtain ⟨C1, hC1⟩ : ∃ C, C = (ShaP.digest (p1 ++ b)).map b8 := ⟨_, rfl⟩
          rw [← hC1] at hT
          have HC1 := Lib.hid hC1
          have hsz7 : go < w7.heap.size := by have := HO7.out.base_le; omega
          clear hC1 hO7 hg7 hB7 hb7 hi HO HRz hr2 hB0
          refine hT.out.mono ?_
          rintro e w8 ⟨rfl, hB8⟩
          have HO8 := Lib.hid (HO7.out.below_all hB8)
          have HR8 := Lib.hid (HR7.out.below hB8 (by omega))
          have hB80 : Below w.heap.size w w8 := hB70.trans (hB8.mono hB70.size)
          have HD := Lib.hid (digest_stored (w := w8) (D := []) HC1.out (dz_made w8))
          have hsz8 : go < w8.heap.size := by have := hB8.size; omega
          obtain ⟨D1, hD1⟩ : ∃ D : List UInt8, D = ShaP.digest (p1 ++ b) := ⟨_, rfl⟩
          have hD1l : D1.length = 32 := by rw [hD1]; exact ShaP.digest_len _
          have hC1' : C1 = D1.map b8 := by rw [HC1.out, hD1]
          have hgr9 := grown_setCells w8.heap.size C1 0 (w8.alloc (.cells dzeros 23))
          have hA9 := HD.out.2.2.2.1
          have HO9 := Lib.hid ((HO8.out.alloc (.cells dzeros 23)).other hgr9 (fun g e => by simp [blk] at e; subst e; intro e2; injection e2; omega))
          have HR9 := Lib.hid ((HR8.out.alloc (.cells dzeros 23)).other hgr9 (by intro e; injection e; omega))
          have HB9 := Lib.hid (show Below w.heap.size w ((w8.alloc (.cells dzeros 23)).setCells w8.heap.size 0 C1) from (hB80.alloc hB80.size _).trans (below_grown hgr9 (by have := hB80.size; simp; omega) (fun g e => by injection e with e; have := hB80.size; omega)))
          have HROW := Lib.hid (show Row ((w8.alloc (.cells dzeros 23)).setCells w8.heap.size 0 C1) ((w8.alloc (.cells dzeros 23)).setCells w8.heap.size 0 C1).heap.size (some ⟨w8.heap.size, 0, none⟩) (D1.map b8) by
            have h0 : ArrV ((w8.alloc (.cells dzeros 23)).setCells w8.heap.size 0 C1) w8.heap.size (D1.map b8) := by rw [← hC1']; exact hA9
            exact (h0.sl (n := 32) (c := 32) hD1l (Nat.le_refl _) (by unfold maxLen; omega)).2.2.2)
          have HSZ := Lib.hid (show w5.heap.size ≤ ((w8.alloc (.cells dzeros 23)).setCells w8.heap.size 0 C1).heap.size by rw [size_setCells]; simp; omega)
          have HD1 := Lib.hid hD1
          have HD1l := Lib.hid hD1l
          clear hB8 hB70 HO7 HR7 hT hD1 hD1l hC1' hgr9 hA9 HO8 HR8 hB80
          go_wp2_with (first
            | (refine wpList_value (o := ⟨some 11, _, _, _, _, _⟩) (v := .pointer (some ⟨w8.heap.size, 0, none⟩)) (w' := w8.alloc (.cells dzeros 23)) rfl (by kernel_rfl) ?_)
            | (refine wpList_store_mid rfl 23 (.tmp 11) (.tmp 42) rfl w8.heap.size 0 C1.toArray rfl rfl HD.out.1 HD.out.2.1 HD.out.2.2.1 ?_)
            | (at_builtin; refine wpList_app8 rfl (.tmp 43) (.tmp 44) 31 rfl (.inl ⟨_, Try.underlying31⟩) w5.heap.size _ _ _ _ rfl HO9.out 32 D1 (Src.slice (by rw [List.length_map, HD1l.out]) HROW.out) (.inl (by omega)) HSZ.out ?_; intro A10 c10 w10 hO10 hg10 hB10 hb10))
          have HR10 := Lib.hid (HR9.out.below hB10 (by omega))
          have hB11 : Below w.heap.size w w10 := HB9.out.trans (hB10.mono (by omega))
          have hT := Lib.hid (sha_sum A10 96 c10 w10.heap.size (p2 ++ D1) w10 hO10.sl (Nat.le_refl _) (by omega))
          obtain ⟨C2, hC2⟩ : ∃ C, C = (ShaP.digest (p2 ++ D1)).map b8 := ⟨_, rfl⟩
          rw [← hC2] at hT
          have HC2 := Lib.hid hC2
          have HM := Lib.hid (show ShaP.mac key b = ShaP.digest (p2 ++ D1) by unfold ShaP.mac; rw [← HL.out, ← HP1.out, ← HP2.out, ← HD1.out])
          clear hC2 hO10 hg10 hB10 hb10
          go_wp2_with fail
          refine hT.out.mono ?_
          rintro e w11 ⟨rfl, hB12⟩
          have hR11 := HR10.out.below hB12 HR10.out.lt
          have hB13 : Below w.heap.size w w11 := hB11.trans (hB12.mono hB11.size)
          have HD2 := Lib.hid (digest_stored (w := w11) (D := []) HC2.out hR11)
          have HB14 := Lib.hid (hB13.trans (below_grown (grown_setCells w.heap.size C2 0 w11) hB13.size (fun g e => by injection e with e; omega)))
          have HLV := Lib.hid (run_loadVar_mid (P := Try.prog) _ w.heap.size 0 23 C2 _ HD2.out.2.2.2.1.range Try.underlying23 rfl (by have := HD2.out.2.1; simpa using this))
          clear hR11 hB12 hB11 hT hB13
          go_wp2_with (refine wpList_store_mid rfl 23 (.tmp 4) (.tmp 46) rfl w.heap.size 0 C2.toArray rfl rfl HD2.out.1 HD2.out.2.1 HD2.out.2.2.1 ?_)
          have hl := HLV.out
          have hres : ∀ W, W = w11.setCells w.heap.size 0 C2 → (loadVar 23 ⟨w.heap.size, 0, none⟩).run Try.prog W = .ok (.agg C2.toArray) W := fun W e => by rw [e]; exact hl
          have hres2 := hres (w11.setCells w.heap.size 0 C2.toArray.toList) (by simp)
          clear hres hl
          refine bodyPost_ret (v := .agg C2.toArray) (by simp [results, Try.results23, Act.put, asAddr, hres2]) rfl ⟨by rw [HM.out, HC2.out], by simpa using HB14.out⟩
end Go.Proofs.Ytohgkadbajmphaa
