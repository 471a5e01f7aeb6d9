/- slices' stable sort of items, of any length. -/
import Derived.Test.YtemckkcbakccnaaSymGen
namespace Go.Proofs.Ytemckkcbakccnaa
open Go.RowKit
set_option linter.unusedVariables false
open SymP SrtP
/-- made of sorted blocks of s, the last one may be shorter -/
inductive Blk (s : Nat) : List It → Prop
  | last {T : List It} : WS T → T.length ≤ s → Blk s T
  | cons {B T : List It} : WS B → B.length = s → Blk s T → Blk s (B ++ T)
def Cl (s : Nat) (R : List It) : Prop := ∀ T, Blk s T → Blk s (R ++ T)
theorem Cl.nil (s : Nat) : Cl s [] := fun T h => h
theorem Cl.add {s : Nat} {R B : List It} (h : Cl s R) (hB : WS B) (hl : B.length = s) : Cl s (R ++ B) := fun T hT => by
  rw [List.append_assoc]
  exact h _ (.cons hB hl hT)
theorem blk_two {s : Nat} {T : List It} (hs : 0 < s) (h : Blk s T) (hl : 2 * s ≤ T.length) : ∃ X Y T', T = X ++ (Y ++ T') ∧ X.length = s ∧ Y.length = s ∧ WS X ∧ WS Y ∧ Blk s T' := by
  cases h with
  | last _ h2 => omega
  | @cons B T1 h1 h2 h3 =>
    rw [List.length_append] at hl
    cases h3 with
    | last g1 g2 => exact ⟨B, T1, [], by rw [List.append_nil], h2, by omega, h1, g1, .last List.Pairwise.nil (Nat.zero_le _)⟩
    | @cons B2 T2 g1 g2 g3 => exact ⟨B, B2, T2, rfl, h2, g2, h1, g1, g3⟩
theorem blk_one {s : Nat} {T : List It} (h : Blk s T) (hl : T.length ≤ s) : WS T := by
  cases h with
  | last h1 _ => exact h1
  | @cons B T1 h1 h2 h3 =>
    rw [List.length_append] at hl
    obtain rfl := List.length_eq_zero_iff.1 (show T1.length = 0 by omega)
    rwa [List.append_nil]
theorem blk_part {s : Nat} {T : List It} (h : Blk s T) (hl : s < T.length) (hl2 : T.length < 2 * s) : ∃ X Y, T = X ++ Y ∧ X.length = s ∧ Y ≠ [] ∧ WS X ∧ WS Y := by
  cases h with
  | last _ h2 => omega
  | @cons B T1 h1 h2 h3 =>
    rw [List.length_append] at hl hl2
    exact ⟨B, T1, rfl, h2, (fun e => by rw [e] at hl; simp at hl; omega), h1, blk_one h3 (by omega)⟩
set_option maxRecDepth 100000 in
set_option maxHeartbeats 2000000 in
theorem stable_items (A : Option Addr) (n c base : Nat) (l : List It) (w : World) (h : OwnI w base A n c l) (hn : n ≤ 1000000) :
    Calls Try.prog 36 #[.slice A n c, .int .i64 (n : Int), cmpV] w fun e w' => (∃ v, e = .returned v) ∧ OwnI w' base A n c (isort l) ∧ w.grownBy w' (blk A) := by
  have hl := h.len
  have hcap := h.le
  unfold maxLen at hcap
  have HO := Lib.hid h
  have HL := Lib.hid hl
  clear h hl
  go_enter Try.func36, Try.ntmps36
  go_wp2_with fail
  go_loopw [7, 8] (fun av bv wy => ∃ (r : Nat) (R Q T : List It), l = Q ++ T ∧ r = R.length ∧ R.length = Q.length ∧ r + T.length = n ∧ Eqc R Q ∧ Cl 20 R ∧ OwnI wy base A n c (R ++ T) ∧ av = .int .i64 (r : Int) ∧ bv = .int .i64 ((r : Int) + 20) ∧ w.grownBy wy (blk A)) (fun a _ _ => n - (intOf a).toNat)
  case atStart => exact ⟨0, [], [], l, rfl, rfl, rfl, by rw [Nat.zero_add]; exact HL.out, Eqc.refl _, Cl.nil _, HO.out, rfl, rfl, grown_of_grew (Grew.refl _) _⟩
  case round =>
    obtain ⟨r, R, Q, T, hE, hr, hRQ, hrn, hq, hcl, hO, rfl, rfl, hG⟩ := hrel
    have HO1 := Lib.hid hO
    have HG1 := Lib.hid hG
    have HE := Lib.hid hE
    have HR := Lib.hid (And.intro hr (And.intro hRQ hrn))
    have HQ := Lib.hid hq
    have HCL := Lib.hid hcl
    have hrn1 : r ≤ n := by omega
    clear hO hG hE hr hRQ hrn hq hcl HO HL
    by_cases hlt : r + 20 ≤ n
    · have i1 : (r : Int) + 20 ≤ (n : Int) := by omega
      have l1 : (T.take 20).length = 20 := by rw [List.length_take]; have := HR.out; omega
      have HI := Lib.hid (ins_sort A n c base r (r + 20) R (T.take 20) (T.drop 20) wr (by simpa using HO1.out) HR.out.1.symm (by rw [l1]) hn)
      rw [show ((r + 20 : Nat) : Int) = (r : Int) + 20 by omega] at HI
      have HL1 := Lib.hid l1
      clear l1
      go_wp2_with (go_at_call 44; ((with_reducible refine HI.out.mono ?_); rintro e w2 ⟨⟨v, rfl⟩, hO, hG⟩; have HO2 := Lib.hid hO; have HG2 := Lib.hid hG; clear hO hG))
      go_roundw
      case rel =>
        have k := isort_ok (T.take 20)
        have kl := eqc_len k
        rw [HL1.out] at kl
        exact ⟨r + 20, R ++ isort (T.take 20), Q ++ T.take 20, T.drop 20, by rw [HE.out]; simp, by rw [List.length_append, kl, ← HR.out.1], by rw [List.length_append, kl, List.length_append, HL1.out, HR.out.2.1], by have := HR.out; rw [List.length_drop]; have := HL1.out; rw [List.length_take] at this; omega, HQ.out.append k.2, HCL.out.add k.1 kl, HO2.out, by go_num, by go_num, HG1.out.trans HG2.out⟩
      case measure => simp [intOf]; omega
    · have i1 : ¬ (r : Int) + 20 ≤ (n : Int) := by omega
      have HI := Lib.hid (ins_sort A n c base r n R T [] wr (by simpa using HO1.out) HR.out.1.symm HR.out.2.2 hn)
      go_wp2_with (go_at_call 44; ((with_reducible refine HI.out.mono ?_); rintro e w2 ⟨⟨v, rfl⟩, hO, hG⟩; have HO2 := Lib.hid hO; have HG2 := Lib.hid hG; clear hO hG))
      have k := isort_ok T
      have HD0 := Lib.hid (show Blk 20 (R ++ isort T) from HCL.out _ (.last k.1 (by rw [eqc_len k]; have := HR.out; omega)))
      have HQ0 := Lib.hid (show Eqc (R ++ isort T) l by rw [HE.out]; exact HQ.out.append k.2)
      have HO3 := Lib.hid (show OwnI w2 base A n c (R ++ isort T) by simpa using HO2.out)
      have HG3 := Lib.hid (HG1.out.trans HG2.out)
      obtain ⟨D0, hD0⟩ : ∃ D0, D0 = R ++ isort T := ⟨_, rfl⟩
      rw [← hD0] at HD0 HQ0 HO3
      clear hD0 k HI HO1 HG1 HE HR HQ HCL HO2 HG2 hrn1 hlt
      go_loopw [6, 7, 8, 9] (fun sv _ _ _ wy => ∃ (s : Nat) (D : List It), sv = .int .i64 (s : Int) ∧ 0 < s ∧ s ≤ 4000000 ∧ D.length = n ∧ Blk s D ∧ Eqc D l ∧ OwnI wy base A n c D ∧ w.grownBy wy (blk A)) (fun s _ _ _ _ => n - (intOf s).toNat)
      case atStart => exact ⟨20, D0, rfl, by omega, by omega, HO3.out.len, HD0.out, HQ0.out, HO3.out, HG3.out⟩
      case round =>
        obtain ⟨s, D, rfl, hs, hs4, hDl, hB, hq, hO, hG⟩ := hrel
        have HB := Lib.hid hB
        have HQ := Lib.hid hq
        have HO4 := Lib.hid hO
        have HG4 := Lib.hid hG
        have HDl := Lib.hid hDl
        clear hB hq hO hG hDl HD0 HQ0 HO3 HG3
        by_cases hsn : s < n
        · have i2 : (s : Int) < (n : Int) := by omega
          go_wp2_with fail
          go_loopw [7, 8] (fun av bv wy => ∃ (r : Nat) (R Q T : List It), D = Q ++ T ∧ r = R.length ∧ R.length = Q.length ∧ r + T.length = n ∧ Eqc R Q ∧ Cl (2 * s) R ∧ Blk s T ∧ OwnI wy base A n c (R ++ T) ∧ av = .int .i64 (r : Int) ∧ bv = .int .i64 ((r : Int) + 2 * (s : Int)) ∧ w.grownBy wy (blk A)) (fun a _ _ => n - (intOf a).toNat)
          case atStart => exact ⟨0, [], [], D, rfl, rfl, rfl, by rw [Nat.zero_add]; exact HDl.out, Eqc.refl _, Cl.nil _, HB.out, HO4.out, rfl, by go_num, HG4.out⟩
          case round =>
            obtain ⟨r, R, Q, T, hE, hr, hRQ, hrn, hq, hcl, hBT, hO, rfl, rfl, hG⟩ := hrel
            have HO5 := Lib.hid hO
            have HG5 := Lib.hid hG
            have HE := Lib.hid hE
            have HR := Lib.hid (And.intro hr (And.intro hRQ hrn))
            have HQ5 := Lib.hid hq
            have HCL := Lib.hid hcl
            have HBT := Lib.hid hBT
            have hrn1 : r ≤ n := by omega
            clear hO hG hE hr hRQ hrn hq hcl hBT HO4 HG4
            by_cases hlt : r + 2 * s ≤ n
            · have i3 : (r : Int) + 2 * (s : Int) ≤ (n : Int) := by omega
              obtain ⟨X, Y, T', hT, hX, hY, wX, wY, hT'⟩ := blk_two hs HBT.out (by have := HR.out; omega)
              have HS := Lib.hid (sym_merge _ A n c base (r : Int) ((r : Int) + (s : Int)) ((r : Int) + 2 * (s : Int)) R X Y T' wr (Nat.le_refl _) (by have := HO5.out; rw [hT] at this; simpa using this) (fun e => by rw [e] at hX; simp at hX; omega) (fun e => by rw [e] at hY; simp at hY; omega) wX wY (by have := HR.out.1; omega) (by have := HR.out.1; omega) (by have := HR.out.1; omega) hn)
              have HT := Lib.hid (And.intro hT (And.intro hX (And.intro hY hT')))
              clear hT hX hY wX wY hT'
              go_wp2_with (go_at_call 45; ((with_reducible refine HS.out.mono ?_); rintro e w3 ⟨R1, ⟨v, rfl⟩, hK, hO, hG⟩; have HK := Lib.hid hK; have HO6 := Lib.hid hO; have HG6 := Lib.hid hG; clear hO hG hK))
              go_roundw
              case rel =>
                have k := HK.out
                have kl : R1.length = 2 * s := by rw [eqc_len k, List.length_append]; have := HT.out; omega
                exact ⟨r + 2 * s, R ++ R1, Q ++ (X ++ Y), T', by rw [HE.out, HT.out.1]; simp, by rw [List.length_append, kl, ← HR.out.1], by rw [List.length_append, kl, List.length_append, List.length_append]; have := HR.out; have := HT.out; omega, by have := HR.out; have h9 := congrArg List.length HT.out.1; simp only [List.length_append] at h9; have := HT.out; omega, HQ5.out.append k.2, HCL.out.add k.1 kl, HT.out.2.2.2, HO6.out, by go_num, by go_num, HG5.out.trans HG6.out⟩
              case measure => simp [intOf]; omega
            · have i3 : ¬ (r : Int) + 2 * (s : Int) ≤ (n : Int) := by omega
              by_cases hm : r + s < n
              · have i4 : (r : Int) + (s : Int) < (n : Int) := by omega
                obtain ⟨X, Y, hT, hX, hY, wX, wY⟩ := blk_part HBT.out (by have := HR.out; omega) (by have := HR.out; omega)
                have hTl := congrArg List.length hT
                rw [List.length_append] at hTl
                have HS := Lib.hid (sym_merge _ A n c base (r : Int) ((r : Int) + (s : Int)) (n : Int) R X Y [] wr (Nat.le_refl _) (by have := HO5.out; rw [hT] at this; simpa using this) (fun e => by rw [e] at hX; simp at hX; omega) hY wX wY (by have := HR.out.1; omega) (by have := HR.out.1; omega) (by have := HR.out; omega) hn)
                have HT := Lib.hid (And.intro hT (And.intro hX hTl))
                clear hT hX hY wX wY hTl
                go_wp2_with (go_at_call 45; ((with_reducible refine HS.out.mono ?_); rintro e w3 ⟨R1, ⟨v, rfl⟩, hK, hO, hG⟩; have HK := Lib.hid hK; have HO6 := Lib.hid hO; have HG6 := Lib.hid hG; clear hO hG hK))
                go_roundw
                case rel =>
                  have k := HK.out
                  have kl : R1.length = T.length := by rw [eqc_len k, ← HT.out.1]
                  exact ⟨2 * s, R ++ R1, by go_num, by omega, by omega, by rw [List.length_append, kl]; have := HR.out; omega, HCL.out _ (.last k.1 (by rw [kl]; have := HR.out; omega)), Eqc.trans (by rw [HE.out]; exact HQ5.out.append (by rw [HT.out.1]; exact k.2)) HQ.out, by simpa using HO6.out, HG5.out.trans HG6.out⟩
                case measure => simp [intOf]; omega
              · have i4 : ¬ (r : Int) + (s : Int) < (n : Int) := by omega
                have hw := blk_one HBT.out (by have := HR.out; omega)
                have HW := Lib.hid hw
                clear hw
                go_wp2_with fail
                go_roundw
                case rel =>
                  exact ⟨2 * s, R ++ T, by go_num, by omega, by omega, by rw [List.length_append]; have := HR.out; omega, HCL.out _ (.last HW.out (by have := HR.out; omega)), Eqc.trans (by rw [HE.out]; exact HQ5.out.append (Eqc.refl _)) HQ.out, HO5.out, HG5.out⟩
                case measure => simp [intOf]; omega
        · have i2 : ¬ (s : Int) < (n : Int) := by omega
          have hw := blk_one HB.out (by have := HDl.out; omega)
          have HE := Lib.hid (okr_isort ⟨hw, HQ.out⟩)
          clear hw
          go_wp2_with fail
          go_end0
          exact ⟨⟨_, rfl⟩, by rw [← HE.out]; exact HO4.out, HG4.out⟩
set_option maxHeartbeats 1000000 in
theorem sort_items (A : Option Addr) (n c base : Nat) (l : List It) (w : World) (h : OwnI w base A n c l) (hn : n ≤ 1000000) :
    Calls Try.prog 22 #[.slice A n c, cmpV] w fun e w' => (∃ v, e = .returned v) ∧ OwnI w' base A n c (isort l) ∧ w.grownBy w' (blk A) := by
  have HC := Lib.hid (stable_items A n c base l w h hn)
  clear h
  go_enter Try.func22, Try.ntmps22
  go_wp2_with (go_at_call 36; ((with_reducible refine HC.out.mono ?_); rintro e w2 ⟨⟨v, rfl⟩, hO, hG⟩; have HO := Lib.hid hO; have HG := Lib.hid hG; clear hO hG))
  go_end0
  exact ⟨⟨_, rfl⟩, HO.out, HG.out⟩
end Go.Proofs.Ytemckkcbakccnaa
