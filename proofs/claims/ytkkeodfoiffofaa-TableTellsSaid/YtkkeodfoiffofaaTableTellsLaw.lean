/- The walk of rolodexlaw8.TableTells. -/
import Derived.Test.YtkkeodfoiffofaaAwake8
import Derived.Test.YtkkeodfoiffofaaTabD
import Derived.Test.YtkkeodfoiffofaaTabA
import Derived.Test.YtkkeodfoiffofaaOpenI
import Derived.Test.YtkkeodfoiffofaaSl
import Derived.Test.YtkkeodfoiffofaaOpen
namespace Go.Proofs.Ytkkeodfoiffofaa
open Go.RowKit
set_option linter.unusedVariables false
attribute [local go_sem] Oper.semAt_some u8_xor_part
theorem ownB_take {w : World} {base n c m : Nat} {A : Option Addr} {l : List UInt8} (h : OwnB w base A n c l) (hm : m ≤ n) : OwnB w base A m c (l.take m) := by
  have := Own.pre h hm
  rw [Nat.mul_one, ← List.map_take] at this
  exact this
set_option maxRecDepth 100000 in
set_option maxHeartbeats 4000000 in
theorem tableTells_walk (A0 : Option Addr) (n0 c0 : Nat) (l0 : List It) (a1 a2 a3 a4 : Int) (w : World) (b0 : ItemsIn w A0 n0 c0 l0) (z0 : n0 * 48 ≤ 140737488351232) (w1 : (Lit.int .i64 a1).wf = true) (w2 : (Lit.int .i64 a2).wf = true) (w3 : (Lit.int .u32 a3).wf = true) (w4 : (Lit.int .i64 a4).wf = true) :
    Calls Try.prog 8 #[.slice A0 n0 c0, .int .i64 a1, .int .i64 a2, .int .u32 a3, .int .i64 a4] w fun e w' => e = .returned (.bool true) ∧ Below w.heap.size w w' := by
  obtain ⟨s, rfl⟩ := u32_arg w3
  have HAw := Lib.hid (awake8 w)
  have HI0 := Lib.hid b0.is
  have HQ0 := Lib.hid b0.seq
  have HW1 := Lib.hid w1
  have HW2 := Lib.hid w2
  have HW4 := Lib.hid w4
  clear b0 w1 w2 w3 w4 z0
  go_enter Try.func8, Try.ntmps8
  go_upto_region 3 with (go_at_call 28; ((with_reducible refine HAw.out.mono ?_); rintro e w1 ⟨rfl, hG⟩; have HG1 := Lib.hid (show Grew w w1 from hG); clear hG))
  by_cases h0 : 60 < n0
  · have i0 : (60 : Int) < (n0 : Int) := by omega
    go_wp2_with fail
    go_ret
    exact ⟨rfl, HG1.out⟩
  have i0 : ¬ (60 : Int) < (n0 : Int) := by omega
  by_cases h1 : a1 < 1
  · go_wp2_with fail
    go_ret
    exact ⟨rfl, HG1.out⟩
  by_cases h2 : 1000 < a1
  · go_wp2_with fail
    go_ret
    exact ⟨rfl, HG1.out⟩
  have HSo := Lib.hid (ref_sorted A0 n0 c0 l0 w1 (HI0.out.grew HG1.out) (by omega))
  have HMa := Lib.hid (fun W (hG : Grew w W) => law_may A0 n0 c0 l0 W (HI0.out.grew hG) (by omega))
  cases hs : ItP.srt l0 with
  | false =>
    rw [hs] at HSo
    clear hs
    go_wp2_with (go_at_call 35; ((with_reducible refine HSo.out.mono ?_); rintro e w2 ⟨rfl, hG⟩; have HG2 := Lib.hid (Grew.trans HG1.out hG); clear hG))
    go_ret
    exact ⟨rfl, HG2.out⟩
  | true =>
    rw [hs] at HSo
    have HS := Lib.hid hs
    clear hs
    cases hm : l0.all ItP.may with
    | false =>
      rw [hm] at HMa
      clear hm
      go_wp2_with (first
        | (go_at_call 35; ((with_reducible refine HSo.out.mono ?_); rintro e w2 ⟨rfl, hG⟩; have HG2 := Lib.hid (Grew.trans HG1.out hG); clear hG))
        | (go_at_call 36; ((with_reducible refine (HMa.out _ HG2.out).mono ?_); rintro e w3 ⟨rfl, hG⟩; have HG3 := Lib.hid (Grew.trans HG2.out hG); clear hG)))
      go_ret
      exact ⟨rfl, HG3.out⟩
    | true =>
      rw [hm] at HMa
      have HE : Hid (TabP.buildE l0 a1 = 0) := Lib.hid (by
        have hg : TabP.goodL l0 = true := by rw [goodL_eq, HS.out, hm]; rfl
        have := HI0.out.len
        unfold TabP.buildE
        rw [if_neg (by omega), if_neg (by rw [hg]; simp), if_neg (by omega)])
      clear hm
      have HB := Lib.hid (fun W (hG : Grew w W) => build_is (HI0.out.grew hG) HQ0.out HW1.out HE.out)
      go_upto_region 8 with (first
        | (go_at_call 35; ((with_reducible refine HSo.out.mono ?_); rintro e w2 ⟨rfl, hG⟩; have HG2 := Lib.hid (Grew.trans HG1.out hG); clear hG))
        | (go_at_call 36; ((with_reducible refine (HMa.out _ HG2.out).mono ?_); rintro e w3 ⟨rfl, hG⟩; have HG3 := Lib.hid (Grew.trans HG2.out hG); clear hG))
        | (go_at_call 29; ((with_reducible refine (HB.out _ HG3.out).mono ?_); rintro e w4 ⟨Ab, nb, cb, rfl, hO, hG⟩; have HO := Lib.hid hO; have HG4 := Lib.hid (Grew.trans HG3.out hG); have HW34 := Lib.hid hG.size; clear hO hG)))
      have hnb := HO.out.len
      have hbl := build_le (l := l0) (a := a1)
      have hge := TabP.le4_build HE.out
      have HCut := Lib.hid (fun m (h : m < (TabP.buildB l0 a1).length) => TabP.open_cut HE.out h)
      have HTold := Lib.hid (fun p (h : p + 4 ≤ (TabP.buildB l0 a1).length) (h2 : s ≠ 0#32) => TabP.open_told HE.out h h2)
      obtain ⟨bs, hbs⟩ : ∃ b, b = TabP.buildB l0 a1 := ⟨_, rfl⟩
      rw [← hbs] at hnb hbl hge HO HCut HTold
      have hle := HO.out.le
      clear hbs HE HB HMa HSo HS HAw
      have hpre : ∀ Q : Prop, ((0 < a4 ∧ a4 ≤ (nb : Int)) → Q) → (¬ (0 < a4 ∧ a4 ≤ (nb : Int)) → Q) → Q := fun Q h1 h2 => (Classical.em _).elim h1 h2
      have HO7 := Lib.hid (fun m (hm : m < nb) => show Calls Try.prog 31 #[.slice Ab m cb] w4 fun e w' => e = .returned (.tuple #[.pointer none, .int .i64 7]) ∧ Grew w4 w' from by
        have h1 := open_own (ownB_take HO.out (Nat.le_of_lt hm)) (by rw [List.length_take]; omega) (HCut.out m (by omega))
        exact h1)
      have hcc : a4 ≤ 0 ∨ ((0 < a4 ∧ a4 ≤ (nb : Int)) ∨ (0 < a4 ∧ (nb : Int) < a4)) := by omega
      rcases hcc with hc | hc | hc
      all_goals first
        | (have i1 : ¬ (0 : Int) < a4 := by omega
           go_upto_region 12 with fail
           have HG45 := Lib.hid (Grew.refl w4))
        | (have i1 : (0 : Int) < a4 := hc.1
           have i2 : ¬ a4 ≤ (nb : Int) := by omega
           go_upto_region 12 with fail
           have HG45 := Lib.hid (Grew.refl w4))
        | (obtain ⟨m, hm⟩ : ∃ m : Nat, (nb : Int) - a4 = (m : Int) := ⟨((nb : Int) - a4).toNat, by omega⟩
           have i1 : (0 : Int) < a4 := hc.1
           have i2 : a4 ≤ (nb : Int) := hc.2
           have i3 : m < nb := by omega
           go_upto_region 12 with (go_at_call 31; ((with_reducible refine (HO7.out m i3).mono ?_); rintro e w5 ⟨rfl, hG⟩; have HG45 := Lib.hid (show Grew w4 w5 from hG); clear hG))
           clear i3 hm)
      all_goals
        clear hc i1 HO7 HCut
        have HOa := Lib.hid (show OwnB _ w.heap.size Ab nb cb bs from Own.lower (HO.out.below_all HG45.out) HG3.out.size)
        have HG5 := Lib.hid (Grew.trans HG4.out HG45.out)
        by_cases g1 : a2 < 0
        · go_wp2_with fail
          go_ret
          exact ⟨rfl, HG5.out⟩
        by_cases g2 : (nb : Int) - 4 < a2
        · go_wp2_with fail
          go_ret
          exact ⟨rfl, HG5.out⟩
        by_cases g3 : s = 0#32
        · have e2 : (bv32 s == 0) = true := by rw [g3]; rfl
          clear g3
          go_wp2_with fail
          go_ret
          exact ⟨rfl, HG5.out⟩
        have e2 : (bv32 s == 0) = false := by rw [beq_eq_false_iff_ne, ne_eq, show (0 : Int) = bv32 0#32 from rfl, u32_inj]; exact g3
        obtain ⟨p, rfl⟩ := Int.eq_ofNat_of_zero_le (show 0 ≤ a2 by omega)
        have hp4 : p + 4 ≤ bs.length := by omega
        have HN := Lib.hid (HTold.out p hp4 g3)
        subst hnb
        obtain ⟨ad, hA, hx1, hx2⟩ := HOa.out.row.at_ 0 (by simp; omega)
        subst hA
        clear hx1 hx2 HTold g3 HO
        go_wp2_with fail
        go_loopw [15] (fun i wr => ∃ k : Nat, k ≤ 4 ∧ i = .int .i64 k ∧ OwnB wr w.heap.size (some ad) bs.length cb (told bs p s k) ∧ Below w.heap.size w wr) (fun i _ => 4 - (intOf i).toNat)
        case atStart => exact ⟨0, by omega, rfl, HOa.out, HG5.out⟩
        case round =>
          obtain ⟨k, hk, rfl, hO, hB⟩ := hrel
          by_cases hlt : k < 4
          · have hl := told_len bs p s k
            obtain ⟨t, ht⟩ : ∃ t, t = told bs p s k := ⟨_, rfl⟩
            rw [← ht] at hO hl
            have HTK := Lib.hid ht
            have HL := Lib.hid hl
            have hk2 : p + k < t.length := by omega
            obtain ⟨q1, q2, q3, q4, q5⟩ := hO.at_ hk2 (t[p + k] ^^^ byteOf s k)
            have HQ5 := Lib.hid q5
            clear ht hl hO q5
            go_wp2
            go_roundw
            case rel =>
              refine ⟨k + 1, by omega, by go_num, ?_, hB.setCell q3 _⟩
              rw [told, ← HTK.out, List.getD_eq_getElem?_getD, List.getElem?_eq_getElem hk2]
              have e6 : b8 (t[p + k] ^^^ byteOf s k) = .int .u8 ((t[p + k].toNat ^^^ (byteOf s k).toNat : Nat) : Int) := by simp [b8, UInt8.toNat_xor]
              have := HQ5.out
              rw [e6] at this
              exact this
            case measure => simp [intOf]; omega
          · obtain rfl : k = 4 := by omega
            have HB := Lib.hid hB
            have HOp := Lib.hid (show Calls Try.prog 31 #[.slice (some ad) bs.length cb] wr fun e w' => e = .returned (.tuple #[.pointer none, .int .i64 7]) ∧ Grew wr w' from
              open_own hO (by rw [told_len]; omega) HN.out)
            clear hO hB
            go_wp2_with (go_at_call 31; ((with_reducible refine HOp.out.mono ?_); rintro e w6 ⟨rfl, hG⟩; have HG6 := Lib.hid hG; clear hG))
            go_ret
            exact ⟨rfl, HB.out.trans (HG6.out.mono HB.out.size)⟩
end Go.Proofs.Ytkkeodfoiffofaa
namespace Go.Proofs.Ytkkeodfoiffofaa.lawTableTells
open Go.ChangeShapes Go.WideShapes Go.ChangeAt Go.RowKit
open Go.ChangeMaps (open_string shut_string)
set_option linter.unusedVariables false
set_option maxRecDepth 100000 in
theorem contract (H : Type) (enc : TypeId × Value → H) (W : World) (base : Nat) (args : Array Value) (ds gs : List (DataW H)) (before : List MemPlace)
    (hval : ∀ (j : Nat) t v, Try.f8.params[j]? = some t → args[j]? = some v → Value.okWide Try.prog W .any base t v)
    (hW : DataW.Whole enc Try.prog Try.f8.params.toList Rows.tableTellsSpec.vars false W args.toList ds gs before)
    (hsz : (DataW.weightsEach Try.prog (Try.f8.params.toList ++ Rows.tableTellsSpec.plain.varTypes Try.prog) (ds ++ gs)).all (· ≤ reachBytes) = true) :
    Calls Try.prog 8 args W fun e W' => ∃ v, e = .returned v ∧ Rows.tableTellsSpec.post enc Try.prog Try.f8 false true false false W args v W' := by
  have hW' := hW
  obtain ⟨p, q, hA0, hV, rfl, hfz, hnd⟩ := hW
  have hA : DataW.TrodAll enc Try.prog W 0 (fun _ => true) true Try.f8.params.toList args.toList ds p := hA0
  rw [Try.params8] at hA hval hsz
  obtain ⟨v0, vs0, d0, ds0, p0, q0, hargs, rfl, rfl, h0, r0⟩ := trodAll_cons hA
  obtain ⟨v1, vs1, d1, ds1, p1, q1, rfl, rfl, rfl, h1, r1⟩ := trodAll_cons r0
  obtain ⟨v2, vs2, d2, ds2, p2, q2, rfl, rfl, rfl, h2, r2⟩ := trodAll_cons r1
  obtain ⟨v3, vs3, d3, ds3, p3, q3, rfl, rfl, rfl, h3, r3⟩ := trodAll_cons r2
  obtain ⟨v4, vs4, d4, ds4, p4, q4, rfl, rfl, rfl, h4, r4⟩ := trodAll_cons r3
  obtain ⟨rfl, rfl, rfl⟩ := trodAll_nil r4
  obtain rfl : args = #[v0, v1, v2, v3, v4] := by cases args; simp_all
  obtain ⟨rfl, rfl⟩ := trodVars_none hV
  obtain ⟨A0, n0, c0, rfl⟩ := okWide_slice Try.underlying32 (hval 0 32 v0 rfl rfl)
  have k0 := h0
  have lt0 : ∀ x ∈ p0, x.block < W.heap.size := by obtain ⟨m, hm⟩ := k0; exact DataW.trod_lt m _ _ _ hm
  obtain ⟨fuel0, hf0⟩ := h0
  obtain ⟨l0, b0, u0, hd0⟩ := open_items   hf0
  have z0 : n0 * 48 ≤ 140737488351232 := by
    rcases hd0 with ⟨_, h⟩ | ⟨es, sp, h, hl⟩
    · omega
    · have hb : Try.prog.bytesOf 29 = 48 := by kernel_rfl
      have := sized_slice hsz (j := 0) (t := 32) (e := 29) (elems := es) (spare := sp) rfl (by simpa using h) Try.underlying32
      rw [hb] at this
      unfold reachBytes at this
      omega
  obtain ⟨a1, rfl, rfl, rfl, w1⟩ := open_int Try.underlying3 (hval 1 3 v1 rfl rfl) h1
  obtain ⟨a2, rfl, rfl, rfl, w2⟩ := open_int Try.underlying3 (hval 2 3 v2 rfl rfl) h2
  obtain ⟨a3, rfl, rfl, rfl, w3⟩ := open_int Try.underlying61 (hval 3 61 v3 rfl rfl) h3
  obtain ⟨a4, rfl, rfl, rfl, w4⟩ := open_int Try.underlying3 (hval 4 3 v4 rfl rfl) h4
  clear hA0
  refine (tableTells_walk A0 n0 c0 l0 a1 a2 a3 a4 W b0 z0 w1 w2 w3 w4).mono fun e W' ⟨he, bel⟩ => ?_
  subst he
  exact ⟨_, rfl, _, _, _, [], _, [], hW', trodAll_mk1 (shut_bool Try.underlying4 _), (trodAll_cons_mk (Below.trod laidOut (by kernel_rfl) (of_decide_eq_true (by kernel_rfl)) k0 bel lt0) (trodAll_cons_mk (shut_int Try.underlying3 w1) (trodAll_cons_mk (shut_int Try.underlying3 w2) (trodAll_cons_mk (shut_int Try.underlying61 w3) (trodAll_cons_mk (shut_int Try.underlying3 w4) trodAll_mk0))))), rfl, bel.frame _, fun h => by cases h⟩
set_option maxRecDepth 100000 in
theorem lifted (os : Os) (started : os.Started) (H : Type) (enc : TypeId × Value → H) :
    ReturnsInHanded {} Try.checked os 8 .any (Rows.tableTellsSpec.pre6 enc Try.prog Try.f8 Rows.tableTellsRow.domain false) (Rows.tableTellsSpec.post enc Try.prog Try.f8 false true false false) := by
  refine returnsInHanded_of_change_sized (C := Try.checked) ownKnob_none started (by kernel_rfl) Try.func8
    (ChangeSpec.witness6 (enc := enc) (C := Try.checked) false ⟨#[], #[.slice none 0 0, .int .i64 0, .int .i64 0, .int .u32 0, .int .i64 0], []⟩ 8 (by kernel_rfl) (by kernel_rfl) (by kernel_rfl) (by kernel_rfl)) ?_
  intro W base args ds gs before hval hW _ hsz _
  exact contract H enc W base args ds gs before hval hW hsz
theorem over : Rows.tableTellsRow.holds Try.pinned (OpenSpec.ofChange Rows.tableTellsSpec) :=
  OpenClaim.holds_of_wide 8 Try.f8 rfl rfl rfl rfl rfl rfl rfl ⟨rfl, rfl, rfl, rfl, rfl⟩ rfl rfl rfl rfl rfl (by kernel_rfl) Try.func8 (by kernel_rfl)
    (of_decide_eq_true (by kernel_rfl)) (by unfold Func.isWrapper; first | (rw [if_pos (by decide +kernel)]; kernel_rfl) | (rw [if_neg (by decide +kernel)]; exact ⟨rfl, rfl⟩))
    (fun os started H enc _ => lifted os started H enc)
theorem proved : Rows.TableTellsSaid := over
#print axioms proved
end Go.Proofs.Ytkkeodfoiffofaa.lawTableTells
