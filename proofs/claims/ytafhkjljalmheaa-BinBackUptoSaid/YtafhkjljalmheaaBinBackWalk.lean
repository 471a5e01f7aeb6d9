/- The walk of rolodexlaw3.BinBack. -/
import Derived.Test.YtafhkjljalmheaaAwake3
import Derived.Test.YtafhkjljalmheaaBinPlain3
import Derived.Test.YtafhkjljalmheaaOpenN
import Derived.Test.YtafhkjljalmheaaOpenS
import Derived.Deep.CutRange
import Derived.Test.YtafhkjljalmheaaPh
namespace Go.Proofs.Ytafhkjljalmheaa
open Go.RowKit
set_option linter.unusedVariables false
attribute [local go_sem] left_some left_none endN_nil endN_cons endN_none errN_some errN_none
theorem nats_of : ∀ (l : List Int), (∀ z ∈ l, (Lit.int .u64 z).wf = true) → ∃ m : List Nat, l = m.map (fun (n : Nat) => (n : Int)) ∧ ∀ v ∈ m, v < two64
  | [], _ => ⟨[], rfl, by simp⟩
  | z :: l, h => by
    obtain ⟨m, rfl, hm⟩ := nats_of l fun y hy => h y (by simp [hy])
    obtain ⟨v, rfl, hv⟩ := u64_arg (h z (by simp))
    refine ⟨v :: m, rfl, ?_⟩
    intro y hy
    simp only [List.mem_cons] at hy
    rcases hy with rfl | hy
    · exact hv
    · exact hm y hy
theorem sizes_bulk : ∀ s : List (List UInt8), BinP.sizes s ≤ bulk_strs s
  | [] => Nat.le_refl _
  | t :: s => by have := sizes_bulk s; simp only [BinP.sizes, bulk_strs]; omega
theorem mem_bulk : ∀ (s : List (List UInt8)) (t : List UInt8), t ∈ s → t.length ≤ bulk_strs s
  | [], t, h => by cases h
  | x :: s, t, h => by
    simp only [List.mem_cons] at h
    simp only [bulk_strs]
    rcases h with rfl | h
    · omega
    · have := mem_bulk s t h; omega
/-- behind p writing calls of a statement that reads twice -/
def Ph2 (w : World) (lo : Nat × Nat) (g : Nat) (s0 s1 s2 : BinP.St) (p : Nat) (w' : World) : Prop :=
  Below w.heap.size w w' ∧ RdS w' lo g (match p with | 0 => s0 | 1 => s1 | _ => s2)
theorem Ph2.uint {C : Nat → World → Prop} {w : World} {lo : Nat × Nat} {g : Nat} {s0 s1 s2 : BinP.St} {v : Nat} {w' : World} (h : Ph2 w lo g s0 s1 s2 0 w') (hwg : w.heap.size ≤ g) (hP : BinP.pUint s0 = (v, s1)) (hC : C = Ph2 w lo g s0 s1 s2) :
    Calls Try.prog 23 #[.pointer (some ⟨g, 0, none⟩)] w' fun e w'' => e = .returned (.int .u64 (v : Int)) ∧ C (0 + 1) w'' := by
  subst hC
  refine (rd_uint g s0 lo w' h.2).mono ?_
  rw [hP]
  rintro e w'' ⟨rfl, h1, h2⟩
  exact ⟨rfl, h.1.trans (Below.of_grown h2 h.1.size hwg), h1⟩
theorem Ph2.text {C : Nat → World → Prop} {w : World} {lo : Nat × Nat} {g : Nat} {s0 s1 s2 : BinP.St} {t : List UInt8} {a : Int} {w' : World} (h : Ph2 w lo g s0 s1 s2 1 w') (hwg : w.heap.size ≤ g) (ha : (Lit.int .i64 a).wf = true) (hP : BinP.pText a s1 = (t, s2)) (hC : C = Ph2 w lo g s0 s1 s2) :
    Calls Try.prog 12 #[.pointer (some ⟨g, 0, none⟩), .int .i64 a] w' fun e w'' => e = .returned (.string ⟨t.toArray⟩) ∧ C (1 + 1) w'' := by
  subst hC
  refine (rd_text g s1 lo w' a ha h.2).mono ?_
  rw [hP]
  rintro e w'' ⟨rfl, h1, h2⟩
  exact ⟨rfl, h.1.trans (Below.of_grown h2 h.1.size hwg), h1⟩
theorem Ph2.text0 {C : Nat → World → Prop} {w : World} {lo : Nat × Nat} {g : Nat} {s0 s1 s2 : BinP.St} {t : List UInt8} {a : Int} {w' : World} (h : Ph2 w lo g s0 s1 s2 0 w') (hwg : w.heap.size ≤ g) (ha : (Lit.int .i64 a).wf = true) (hP : BinP.pText a s0 = (t, s1)) (hC : C = Ph2 w lo g s0 s1 s2) :
    Calls Try.prog 12 #[.pointer (some ⟨g, 0, none⟩), .int .i64 a] w' fun e w'' => e = .returned (.string ⟨t.toArray⟩) ∧ C (0 + 1) w'' := by
  subst hC
  refine (rd_text g s0 lo w' a ha h.2).mono ?_
  rw [hP]
  rintro e w'' ⟨rfl, h1, h2⟩
  exact ⟨rfl, h.1.trans (Below.of_grown h2 h.1.size hwg), h1⟩
set_option maxRecDepth 4000 in
set_option maxHeartbeats 1000000 in
theorem binBack_walk (A0 : Option Addr) (n0 c0 : Nat) (l0 : List Int) (A1 : Option Addr) (n1 c1 : Nat) (l1 : List (List UInt8)) (w : World) (b0 : NumsIn .u64 w A0 n0 c0 l0) (z0 : n0 * 8 ≤ 140737488351232) (b1 : StrsIn w A1 n1 c1 l1) (z1 : n1 * 16 ≤ 140737488351232) (hup : n0 + bulk_strs l1 ≤ 1048576) :
    Calls Try.prog 6 #[.slice A0 n0 c0, .slice A1 n1 c1] w fun e w' => e = .returned (.bool true) ∧ Below w.heap.size w w' := by
  obtain ⟨hn0, hnc0, hcm0, hr0, hwf0⟩ := b0
  obtain ⟨hn1, hnc1, hcm1, hr1⟩ := b1
  obtain ⟨m, rfl, hm⟩ := nats_of l0 hwf0
  have HM := Lib.hid hm
  have hsz := sizes_bulk l1
  have HB := Lib.hid (show ∀ t ∈ l1, t.length ≤ 1048576 from fun t ht => by have := mem_bulk l1 t ht; omega)
  rw [List.length_map] at hn0
  rw [List.map_map] at hr0
  subst hn0 hn1
  unfold maxLen at hcm0 hcm1
  clear hwf0 hm
  by_cases h3 : 300 < m.length
  · go_enter Try.func6, Try.ntmps6
    go_wp2_with fail
    refine (awake3 w).mono ?_
    rintro e w1 ⟨rfl, hB0⟩
    go_wp2_with fail
    go_ret
    exact ⟨rfl, hB0⟩
  · by_cases h4 : 300 < l1.length
    · go_enter Try.func6, Try.ntmps6
      go_wp2_with fail
      refine (awake3 w).mono ?_
      rintro e w1 ⟨rfl, hB0⟩
      go_wp2_with fail
      go_ret
      exact ⟨rfl, hB0⟩
    · have hbound : (BinP.lay2 m l1).length ≤ 1054576 := by have := BinP.lay2_len m l1; omega
      obtain ⟨F, hF⟩ : ∃ F, F = BinP.lay2 m l1 := ⟨_, rfl⟩
      rw [← hF] at hbound
      have HF := Lib.hid hF
      clear hF hup
      go_enter Try.func6, Try.ntmps6
      go_wp2_with fail
      refine (awake3 w).mono ?_
      rintro e w1 ⟨rfl, hB0⟩
      have hs0 := hB0.size
      go_wp2_with fail
      go_loopw [5, 6] (fun b i wr => ∃ k l A n c, i = .int .i64 (k : Nat) ∧ k ≤ 300 ∧ b = .slice A n c ∧ OwnB wr w.heap.size A n c l ∧ l ++ BinP.lay2 (m.drop k) (l1.drop k) = F ∧ Below w.heap.size w wr) (fun _ i _ => 301 - (intOf i).toNat)
      case atStart => exact ⟨0, [], none, 0, 0, rfl, by omega, rfl, Own.nil _ _ _ _, by rw [HF.out]; rfl, hB0⟩
      case round =>
        obtain ⟨k, l, A, n, c, rfl, hk, rfl, hO, hl, hB⟩ := hrel
        have hlen : n ≤ 1054576 := by have h1 := congrArg List.length hl; have := hO.len; simp at h1; omega
        have hrow := hO.row
        have hll := Lib.hid hO.len
        have HL := Lib.hid hl
        have hsr := hB.size
        clear hl hB0
        by_cases ha : k < m.length
        · obtain ⟨ad, hA, _, hcv⟩ := (hr0.below hB).at_ k (by simpa using ha)
          subst hA
          simp only [List.getElem_map, Function.comp] at hcv
          obtain ⟨v, hv⟩ : ∃ v, v = m[k] := ⟨_, rfl⟩
          rw [← hv] at hcv
          have hvb := Lib.hid (HM.out v (by rw [hv]; exact List.getElem_mem ha))
          have HD := Lib.hid (show m.drop k = v :: m.drop (k + 1) by rw [hv]; exact List.drop_eq_getElem_cons ha)
          clear hv
          by_cases hb : k < l1.length
          · obtain ⟨ad1, hA1, _, hcs⟩ := (hr1.below hB).at_ k (by simpa using hb)
            subst hA1
            simp only [List.getElem_map] at hcs
            obtain ⟨t, ht⟩ : ∃ t, t = l1[k] := ⟨_, rfl⟩
            rw [← ht] at hcs
            have HE := Lib.hid (show l1.drop k = t :: l1.drop (k + 1) by rw [ht]; exact List.drop_eq_getElem_cons hb)
            have htl : l.length + (10 + (t.length + 10)) ≤ 1054576 + 10 + 10 := by
              have h1 := congrArg List.length HL.out
              rw [HD.out, HE.out] at h1
              simp [BinP.lay2, BinP.text] at h1
              omega
            have HT := Lib.hid ht
            clear ht hO
            go_wp2_with fail
            refine (bin_uint A n c v l wr.heap.size wr hll.out hrow (Nat.le_refl _) (by omega) hvb.out).mono ?_
            rintro e w2 ⟨A2, n2, c2, rfl, hO2, hB2⟩
            have hn2 : n2 = l.length + (BinP.enc v).length := by have := hO2.len; simp at this; omega
            have hev := BinP.enc_len v
            have hl2 := Lib.hid hO2.len
            have hrow2 := hO2.row
            have hB5 := hB.trans (hB2.mono hsr)
            have hs2 := hB5.size
            obtain ⟨ad2, hA2, _, hcs2⟩ := (hr1.below hB5).at_ k (by simpa using hb)
            injection hA2 with hA2
            subst hA2
            simp only [List.getElem_map] at hcs2
            rw [← HT.out] at hcs2
            have hn2' : n2 ≤ l.length + 10 := by omega
            clear hO2 hB2 hn2 hev hcs
            go_wp2_with fail
            refine (bin_text A2 n2 c2 _ t w2.heap.size w2 hl2.out hrow2 (Nat.le_refl _) (by omega)).mono ?_
            rintro e w4 ⟨A4, n4, c4, rfl, hO4, hB6⟩
            have hO5 : OwnB w4 w.heap.size A4 n4 c4 (l ++ BinP.enc v ++ BinP.text t) := Own.lower hO4 hs2
            have hB7 := hB5.trans (hB6.mono hs2)
            clear hO4 hB5 hB6
            go_wp2_with fail
            go_roundw
            case rel => exact ⟨k + 1, _, _, _, _, by go_num, by omega, rfl, hO5, by rw [← HL.out, HD.out, HE.out]; simp [BinP.lay2], hB7⟩
            case measure => simp [intOf]; omega
          · have HE := Lib.hid (show l1.drop k = [] from List.drop_of_length_le (by omega))
            have HE' := Lib.hid (show l1.drop (k + 1) = [] from List.drop_of_length_le (by omega))
            clear hO
            go_wp2_with fail
            refine (bin_uint A n c v l wr.heap.size wr hll.out hrow (Nat.le_refl _) (by omega) hvb.out).mono ?_
            rintro e w2 ⟨A2, n2, c2, rfl, hO2, hB2⟩
            have hO5 : OwnB w2 w.heap.size A2 n2 c2 (l ++ BinP.enc v) := Own.lower hO2 hsr
            have hB7 := hB.trans (hB2.mono hsr)
            clear hO2 hB2
            go_wp2_with fail
            go_roundw
            case rel => exact ⟨k + 1, _, _, _, _, by go_num, by omega, rfl, hO5, by rw [← HL.out, HD.out, HE.out, HE'.out]; simp [BinP.lay2], hB7⟩
            case measure => simp [intOf]; omega
        · have HD := Lib.hid (show m.drop k = [] from List.drop_of_length_le (by omega))
          have HD' := Lib.hid (show m.drop (k + 1) = [] from List.drop_of_length_le (by omega))
          by_cases hb : k < l1.length
          · obtain ⟨ad1, hA1, _, hcs⟩ := (hr1.below hB).at_ k (by simpa using hb)
            subst hA1
            simp only [List.getElem_map] at hcs
            obtain ⟨t, ht⟩ : ∃ t, t = l1[k] := ⟨_, rfl⟩
            rw [← ht] at hcs
            have HE := Lib.hid (show l1.drop k = t :: l1.drop (k + 1) by rw [ht]; exact List.drop_eq_getElem_cons hb)
            have htl : l.length + t.length ≤ 1054576 := by
              have h1 := congrArg List.length HL.out
              rw [HD.out, HE.out] at h1
              simp [BinP.lay2, BinP.text] at h1
              omega
            have hln : n = l.length := hll.out.symm
            have hnb : n + t.length + 10 ≤ 140737488355328 := by omega
            clear ht hO hln
            go_wp2_with fail
            refine (bin_text A n c l t wr.heap.size wr hll.out hrow (Nat.le_refl _) hnb).mono ?_
            rintro e w4 ⟨A4, n4, c4, rfl, hO4, hB6⟩
            have hO5 : OwnB w4 w.heap.size A4 n4 c4 (l ++ BinP.text t) := Own.lower hO4 hsr
            have hB7 := hB.trans (hB6.mono hsr)
            clear hO4 hB6
            go_wp2_with fail
            go_roundw
            case rel => exact ⟨k + 1, _, _, _, _, by go_num, by omega, rfl, hO5, by rw [← HL.out, HD.out, HE.out, HD'.out]; simp [BinP.lay2], hB7⟩
            case measure => simp [intOf]; omega
          · clear hO
            go_wp2_with fail
            refine (bin_read A n c l wr.heap.size wr hll.out hrow (Nat.le_refl _) (by omega)).mono ?_
            rintro e w3 ⟨g, rfl, hrd3, hB3⟩
            have hB4 := hB.trans (hB3.mono hsr)
            have hfin : l = F := by rw [← HL.out, List.drop_of_length_le (by omega), List.drop_of_length_le (by omega), BinP.lay2_nil, List.append_nil]
            rw [hfin, HF.out] at hrd3
            have hg3 := hrd3.base_le
            simp only at hg3
            obtain ⟨lo, hlo⟩ : ∃ lo, lo = (wr.heap.size, w3.heap.size) := ⟨_, rfl⟩
            rw [← hlo] at hrd3
            have hwg : w.heap.size ≤ g := by omega
            clear hrow hB hB3 hfin hll HL
            go_wp2_with fail
            go_loopw [8] (fun i wr => ∃ k, i = .int .i64 (k : Nat) ∧ k ≤ 300 ∧ RdS wr lo g (some (BinP.lay2 (m.drop k) (l1.drop k))) ∧ Below w.heap.size w wr) (fun i _ => 301 - (intOf i).toNat)
            case atStart => exact ⟨0, rfl, by omega, hrd3, hB4⟩
            case round =>
              obtain ⟨k, rfl, hk, hrd, hB⟩ := hrel
              clear hrd3 hB4
              by_cases ha : k < m.length
              · obtain ⟨ad, hA, hab, hcv⟩ := hr0.at_ k (by simpa using ha)
                subst hA
                simp only [List.getElem_map, Function.comp] at hcv
                obtain ⟨v, hv⟩ : ∃ v, v = m[k] := ⟨_, rfl⟩
                rw [← hv] at hcv
                have hvb := HM.out v (by rw [hv]; exact List.getElem_mem ha)
                have HD := Lib.hid (show m.drop k = v :: m.drop (k + 1) by rw [hv]; exact List.drop_eq_getElem_cons ha)
                clear hv
                have hki : (k : Int) < (m.length : Int) := by omega
                by_cases hb : k < l1.length
                · obtain ⟨ad1, hA1, hab1, hcs⟩ := hr1.at_ k (by simpa using hb)
                  subst hA1
                  simp only [List.getElem_map] at hcs
                  obtain ⟨t, ht⟩ : ∃ t, t = l1[k] := ⟨_, rfl⟩
                  rw [← ht] at hcs
                  have HE := Lib.hid (show l1.drop k = t :: l1.drop (k + 1) by rw [ht]; exact List.drop_eq_getElem_cons hb)
                  have htl : t.length ≤ 1048576 := HB.out t (by rw [ht]; exact List.getElem_mem hb)
                  have htz : t.length < two64 := by have := two64_eq; omega
                  clear ht
                  have hkl : (k : Int) < (l1.length : Int) := by omega
                  rw [HD.out, HE.out] at hrd
                  have htw : (Lit.int .i64 (t.length : Int)).wf = true := WalkArith.wf_i64 (by omega)
                  have P := Lib.hid (show BinP.pUint (some (BinP.lay2 (v :: m.drop (k + 1)) (t :: l1.drop (k + 1)))) = (v, some (BinP.text t ++ BinP.lay2 (m.drop (k + 1)) (l1.drop (k + 1)))) by rw [BinP.lay2]; exact BinP.pUint_enc v _ hvb)
                  have PT := Lib.hid (show BinP.pText (t.length : Int) (some (BinP.text t ++ BinP.lay2 (m.drop (k + 1)) (l1.drop (k + 1)))) = (t, some (BinP.lay2 (m.drop (k + 1)) (l1.drop (k + 1)))) from BinP.pText_text _ _ _ htz (Int.le_refl _))
                  clear hvb
                  go_wp2_with fail
                  obtain ⟨C, hC⟩ : ∃ C : Nat → World → Prop, C = Ph2 w lo g (some (BinP.lay2 (v :: m.drop (k + 1)) (t :: l1.drop (k + 1)))) (some (BinP.text t ++ BinP.lay2 (m.drop (k + 1)) (l1.drop (k + 1)))) (some (BinP.lay2 (m.drop (k + 1)) (l1.drop (k + 1)))) := ⟨_, rfl⟩
                  have hcell : ∀ x : AnyOf C, x.1.2.cell? (ad.add k) = some (.int .u64 (v : Int)) := by
                    subst hC
                    exact fun x => (x.2.1.cell (p := ad.add k) (by rw [add_block]; exact hab)).trans hcv
                  have hcell1 : ∀ x : AnyOf C, x.1.2.cell? (ad1.add k) = some (.string ⟨t.toArray⟩) := by
                    subst hC
                    exact fun x => (x.2.1.cell (p := ad1.add k) (by rw [add_block]; exact hab1)).trans hcs
                  have HC := Lib.hid hC
                  have hd : decide (k < m.length) = true := by simp; omega
                  have hdi : decide ((k : Int) < (m.length : Int)) = true := by simp; omega
                  have hd2 : decide (k < l1.length) = true := by simp; omega
                  have hdi2 : decide ((k : Int) < (l1.length : Int)) = true := by simp; omega
                  have hdd := And.intro hcell (And.intro hcell1 (And.intro hd (And.intro hdi (And.intro hd2 hdi2))))
                  refine wp_region_p C [6, 25] (by kernel_rfl) (by kernel_rfl) (by kernel_rfl) (by rw [hC]; exact ⟨⟨hB.os, hB.tape, hB.output, hB.size, hB.block⟩, hrd⟩) ?_
                  clear hC
                  repeat (first
                    | (refine wpP_value (v := ?_) rfl rfl (fun x => ?_) ?_; rotate_left; (focus (simp [go_sem, hdd, ↓IntWalk.iteOmega]; first | done | (with_reducible rfl))); (simp only [Act.put, List.setIfInBounds_toArray, List.set_cons_succ, List.set_cons_zero]))
                    | (refine wpP_skip rfl ?_; (simp only [Act.put, List.setIfInBounds_toArray, List.set_cons_succ, List.set_cons_zero]))
                    | (refine wpP_call (.int .u64 (v : Int)) _ _ rfl rfl (fun _ => by simp [go_sem]) (fun w' hw' => Ph2.uint (by rw [HC.out] at hw'; exact hw') hwg P.out HC.out) ?_; (simp only [Act.put, List.setIfInBounds_toArray, List.set_cons_succ, List.set_cons_zero]))
                    | (refine wpP_call (.string ⟨t.toArray⟩) _ _ rfl rfl (fun _ => by simp [go_sem]) (fun w' hw' => Ph2.text (a := (t.length : Int)) (by rw [HC.out] at hw'; exact hw') hwg htw PT.out HC.out) ?_; (simp only [Act.put, List.setIfInBounds_toArray, List.set_cons_succ, List.set_cons_zero])))
                  refine wpP_nil ?_
                  intro w5 hw5
                  rw [HC.out] at hw5
                  obtain ⟨hB5, hrd5⟩ := hw5
                  simp only at hrd5
                  clear hrd hB HC
                  go_wp2_with fail
                  go_roundw
                  case rel => exact ⟨k + 1, by go_num, by omega, hrd5, hB5⟩
                  case measure => simp [intOf]; omega
                · have HE := Lib.hid (show l1.drop k = [] from List.drop_of_length_le (by omega))
                  have HE' := Lib.hid (show l1.drop (k + 1) = [] from List.drop_of_length_le (by omega))
                  rw [HD.out, HE.out] at hrd
                  have P := Lib.hid (show BinP.pUint (some (BinP.lay2 (v :: m.drop (k + 1)) [])) = (v, some (BinP.lay2 (m.drop (k + 1)) [])) by rw [BinP.lay2]; exact BinP.pUint_enc v _ hvb)
                  clear hvb
                  go_wp2_with fail
                  obtain ⟨C, hC⟩ : ∃ C : Nat → World → Prop, C = Ph2 w lo g (some (BinP.lay2 (v :: m.drop (k + 1)) [])) (some (BinP.lay2 (m.drop (k + 1)) [])) none := ⟨_, rfl⟩
                  have hcell : ∀ x : AnyOf C, x.1.2.cell? (ad.add k) = some (.int .u64 (v : Int)) := by
                    subst hC
                    exact fun x => (x.2.1.cell (p := ad.add k) (by rw [add_block]; exact hab)).trans hcv
                  have HC := Lib.hid hC
                  have hd : decide (k < m.length) = true := by simp; omega
                  have hdi : decide ((k : Int) < (m.length : Int)) = true := by simp; omega
                  have hd2 : decide (k < l1.length) = false := by simp; omega
                  have hdi2 : decide ((k : Int) < (l1.length : Int)) = false := by simp; omega
                  have hdd := And.intro hcell (And.intro hd (And.intro hdi (And.intro hd2 hdi2)))
                  refine wp_region_p C [6, 25] (by kernel_rfl) (by kernel_rfl) (by kernel_rfl) (by rw [hC]; exact ⟨⟨hB.os, hB.tape, hB.output, hB.size, hB.block⟩, hrd⟩) ?_
                  clear hC
                  repeat (first
                    | (refine wpP_value (v := ?_) rfl rfl (fun x => ?_) ?_; rotate_left; (focus (simp [go_sem, hdd, ↓IntWalk.iteOmega]; first | done | (with_reducible rfl))); (simp only [Act.put, List.setIfInBounds_toArray, List.set_cons_succ, List.set_cons_zero]))
                    | (refine wpP_skip rfl ?_; (simp only [Act.put, List.setIfInBounds_toArray, List.set_cons_succ, List.set_cons_zero]))
                    | (refine wpP_call (.int .u64 (v : Int)) _ _ rfl rfl (fun _ => by simp [go_sem]) (fun w' hw' => Ph2.uint (by rw [HC.out] at hw'; exact hw') hwg P.out HC.out) ?_; (simp only [Act.put, List.setIfInBounds_toArray, List.set_cons_succ, List.set_cons_zero])))
                  refine wpP_nil ?_
                  intro w5 hw5
                  rw [HC.out] at hw5
                  obtain ⟨hB5, hrd5⟩ := hw5
                  simp only at hrd5
                  clear hrd hB HC
                  go_wp2_with fail
                  go_roundw
                  case rel => exact ⟨k + 1, by go_num, by omega, by rw [HE'.out]; exact hrd5, hB5⟩
                  case measure => simp [intOf]; omega
              · have HD := Lib.hid (show m.drop k = [] from List.drop_of_length_le (by omega))
                have HD' := Lib.hid (show m.drop (k + 1) = [] from List.drop_of_length_le (by omega))
                by_cases hb : k < l1.length
                · obtain ⟨ad1, hA1, hab1, hcs⟩ := hr1.at_ k (by simpa using hb)
                  subst hA1
                  simp only [List.getElem_map] at hcs
                  obtain ⟨t, ht⟩ : ∃ t, t = l1[k] := ⟨_, rfl⟩
                  rw [← ht] at hcs
                  have HE := Lib.hid (show l1.drop k = t :: l1.drop (k + 1) by rw [ht]; exact List.drop_eq_getElem_cons hb)
                  have htl : t.length ≤ 1048576 := HB.out t (by rw [ht]; exact List.getElem_mem hb)
                  have htz : t.length < two64 := by have := two64_eq; omega
                  clear ht
                  have hkl : (k : Int) < (l1.length : Int) := by omega
                  rw [HD.out, HE.out] at hrd
                  have htw : (Lit.int .i64 (t.length : Int)).wf = true := WalkArith.wf_i64 (by omega)
                  have PT := Lib.hid (show BinP.pText (t.length : Int) (some (BinP.lay2 [] (t :: l1.drop (k + 1)))) = (t, some (BinP.lay2 [] (l1.drop (k + 1)))) by rw [BinP.lay2]; exact BinP.pText_text _ _ _ htz (Int.le_refl _))
                  go_wp2_with fail
                  obtain ⟨C, hC⟩ : ∃ C : Nat → World → Prop, C = Ph2 w lo g (some (BinP.lay2 [] (t :: l1.drop (k + 1)))) (some (BinP.lay2 [] (l1.drop (k + 1)))) none := ⟨_, rfl⟩
                  have hcell1 : ∀ x : AnyOf C, x.1.2.cell? (ad1.add k) = some (.string ⟨t.toArray⟩) := by
                    subst hC
                    exact fun x => (x.2.1.cell (p := ad1.add k) (by rw [add_block]; exact hab1)).trans hcs
                  have HC := Lib.hid hC
                  have hd : decide (k < m.length) = false := by simp; omega
                  have hdi : decide ((k : Int) < (m.length : Int)) = false := by simp; omega
                  have hd2 : decide (k < l1.length) = true := by simp; omega
                  have hdi2 : decide ((k : Int) < (l1.length : Int)) = true := by simp; omega
                  have hdd := And.intro hcell1 (And.intro hd (And.intro hdi (And.intro hd2 hdi2)))
                  refine wp_region_p C [6, 25] (by kernel_rfl) (by kernel_rfl) (by kernel_rfl) (by rw [hC]; exact ⟨⟨hB.os, hB.tape, hB.output, hB.size, hB.block⟩, hrd⟩) ?_
                  clear hC
                  repeat (first
                    | (refine wpP_value (v := ?_) rfl rfl (fun x => ?_) ?_; rotate_left; (focus (simp [go_sem, hdd, ↓IntWalk.iteOmega]; first | done | (with_reducible rfl))); (simp only [Act.put, List.setIfInBounds_toArray, List.set_cons_succ, List.set_cons_zero]))
                    | (refine wpP_skip rfl ?_; (simp only [Act.put, List.setIfInBounds_toArray, List.set_cons_succ, List.set_cons_zero]))
                    | (refine wpP_call (.string ⟨t.toArray⟩) _ _ rfl rfl (fun _ => by simp [go_sem]) (fun w' hw' => Ph2.text0 (a := (t.length : Int)) (by rw [HC.out] at hw'; exact hw') hwg htw PT.out HC.out) ?_; (simp only [Act.put, List.setIfInBounds_toArray, List.set_cons_succ, List.set_cons_zero])))
                  refine wpP_nil ?_
                  intro w5 hw5
                  rw [HC.out] at hw5
                  obtain ⟨hB5, hrd5⟩ := hw5
                  simp only at hrd5
                  clear hrd hB HC
                  go_wp2_with fail
                  go_roundw
                  case rel => exact ⟨k + 1, by go_num, by omega, by rw [HD'.out]; exact hrd5, hB5⟩
                  case measure => simp [intOf]; omega
                · rw [List.drop_of_length_le (by omega), List.drop_of_length_le (by omega), BinP.lay2_nil] at hrd
                  go_wp2_with fail
                  refine (rd_end g _ _ _ hrd).mono ?_
                  rintro e w7 ⟨rfl, rfl⟩
                  go_wp2_with fail
                  refine (rd_left g _ _ _ hrd).mono ?_
                  rintro e w7 ⟨rfl, rfl⟩
                  go_wp2_with fail
                  go_ret
                  exact ⟨rfl, hB⟩
end Go.Proofs.Ytafhkjljalmheaa
