/- The walk of rolodexlaw9.MemOrder. -/
import Derived.Test.YtkkeodfoiffofaaMemTwo
import Derived.Test.YtkkeodfoiffofaaAwake9
import Derived.Test.YtkkeodfoiffofaaItemEq
import Derived.Test.YtkkeodfoiffofaaOpenI
namespace Go.Proofs.Ytkkeodfoiffofaa
open Go.RowKit
set_option linter.unusedVariables false
open MemP
attribute [local go_sem] Oper.semAt_some
/-- the item of place i, with i for its number -/
def famO (l : List It) (i : Nat) : It := { l.getD i ItP.none0 with seq := i }
theorem famO_seq (l : List It) (i : Nat) : (famO l i).seq = i := rfl
/-- the place that is put as number i, from behind, k places on -/
def backO (n k i : Nat) : Nat := n - 1 - (i + k) % n
theorem back_all {n k : Nat} (hn : 0 < n) (i : Nat) : i < n ↔ ∃ i', i' < n ∧ i = backO n k i' := by
  constructor
  · intro hi
    refine ⟨(n - 1 - i + (n - k % n)) % n, Nat.mod_lt _ hn, ?_⟩
    unfold backO
    have h1 : ((n - 1 - i + (n - k % n)) % n + k) % n = n - 1 - i := by
      have hk := Nat.mod_lt k hn
      have hk2 := Nat.div_add_mod k n
      have e : n - 1 - i + (n - k % n) + k = n - 1 - i + n * (k / n + 1) := by rw [Nat.mul_add, Nat.mul_one]; omega
      rw [Nat.add_mod ((n - 1 - i + (n - k % n)) % n) k n, Nat.mod_mod, ← Nat.add_mod, e, Nat.add_mul_mod_self_left, Nat.mod_eq_of_lt (by omega)]
    rw [h1]
    omega
  · rintro ⟨i', _, rfl⟩
    unfold backO
    omega
set_option maxRecDepth 100000 in
set_option maxHeartbeats 2000000 in
theorem memOrder_walk (A0 : Option Addr) (n0 c0 : Nat) (l0 : List It) (a1 : Int) (w : World) (b0 : ItemsIn w A0 n0 c0 l0) (z0 : n0 * 48 ≤ 140737488351232) (w1 : (Lit.int .i64 a1).wf = true) :
    Calls Try.prog 5 #[.slice A0 n0 c0, .int .i64 a1] w fun e w' => e = .returned (.bool true) ∧ Below w.heap.size w w' := by
  have hl := b0.is.len
  have hm := b0.is.le
  have HI := Lib.hid b0.is
  have HAw := Lib.hid (awake9 w)
  clear b0
  go_enter Try.func5, Try.ntmps5
  go_upto_region 3 with (go_at_call 13; ((with_reducible refine HAw.out.mono ?_); rintro e w1 ⟨rfl, hG⟩; have HG1 := Lib.hid (show Grew w w1 from hG); clear hG))
  by_cases hbig : 200 < n0
  · have i1 : (200 : Int) < (n0 : Int) := by omega
    go_wp2_with fail
    go_ret
    exact ⟨rfl, HG1.out⟩
  have i1 : ¬ (200 : Int) < (n0 : Int) := by omega
  by_cases hz : n0 = 0
  · have i2 : ((n0 : Int) == 0) = true := by rw [hz]; rfl
    go_wp2_with fail
    go_ret
    exact ⟨rfl, HG1.out⟩
  have i2 : ((n0 : Int) == 0) = false := by rw [beq_eq_false_iff_ne]; omega
  have i3 : ¬ (n0 : Int) = 0 := by omega
  have HNa := Lib.hid (memL_new w1)
  go_upto_region 6 with (go_at_call 14; ((with_reducible refine HNa.out.mono ?_); rintro e w2 ⟨ha, rfl, hM, hG⟩; have HM2 := Lib.hid hM; have HG12 := Lib.hid hG; have HG2 := Lib.hid (HG1.out.trans hG); clear hM hG))
  have HNb := Lib.hid (memL_new w2)
  go_upto_region 7 with (go_at_call 14; ((with_reducible refine HNb.out.mono ?_); rintro e w3 ⟨hb, rfl, hM, hG⟩; have HT3 := Lib.hid (Two.new HM2.out hG hM); have HG3 := Lib.hid (HG2.out.trans hG); have hs3 := hG.size; clear hM hG))
  obtain ⟨Ba, hBa⟩ : ∃ b, b = w1.heap.size := ⟨_, rfl⟩
  obtain ⟨Bb, hBb⟩ : ∃ b, b = w2.heap.size := ⟨_, rfl⟩
  rw [← hBa, ← hBb] at HT3
  have hwa : w.heap.size ≤ Ba := by rw [hBa]; exact HG1.out.size
  have hwb : w.heap.size ≤ Bb := by rw [hBb]; exact HG2.out.size
  have hBa3 : Ba ≤ w3.heap.size := by rw [hBa]; exact Nat.le_trans HG12.out.size hs3
  have hBb3 : Bb ≤ w3.heap.size := by rw [hBb]; exact hs3
  have HBs := Lib.hid (And.intro hwa hwb)
  have HB3 := Lib.hid (And.intro hBa3 hBb3)
  clear hBa hBb hwa hwb hBa3 hBb3 hs3 HNa HNb HM2 HG2 HG12 HAw
  obtain ⟨r, hr⟩ : ∃ r, r = Int.tmod a1 (n0 : Int) := ⟨_, rfl⟩
  have r1 : -(n0 : Int) < r := by rw [hr]; have := Int.lt_tmod_of_pos a1 (show (0 : Int) < n0 by omega); omega
  have r2 : r < (n0 : Int) := by rw [hr]; exact Int.tmod_lt_of_pos a1 (by omega)
  have e1 : Int.tmod a1 (n0 : Int) = r := hr.symm
  clear hr
  go_upto_if 30 with fail
  go_cut [7] from 13 (fun k wy => ∃ kk : Nat, kk < n0 ∧ k = .int .i64 (kk : Int) ∧ wy = w3)
  case first =>
    by_cases i4 : r < 0
    · go_wp2_with fail
      go_meet
      case rel => exact ⟨(r + n0).toNat, by omega, by rw [Int.toNat_of_nonneg (by omega)], rfl⟩
    · go_wp2_with fail
      go_meet
      case rel => exact ⟨r.toNat, by omega, by rw [Int.toNat_of_nonneg (by omega)], rfl⟩
  case rest =>
  obtain ⟨kk, hkk, rfl, rfl⟩ := hcut
  clear r1 r2 e1
  go_upto_block 0 with fail
  go_cut [] from 13 (fun wy => ∃ la, Two wy Ba ha la Bb hb [] ∧ Holds (famO l0) (fun i => i < n0) n0 la ∧ Below w.heap.size w wy ∧ Ba ≤ wy.heap.size ∧ Bb ≤ wy.heap.size)
  case first =>
    go_wp2_with fail
    go_loopw [8] (fun i wy => ∃ (k : Nat) (la : List (It × Nat)), k ≤ n0 ∧ i = .int .i64 (k : Int) ∧ Two wy Ba ha la Bb hb [] ∧ Holds (famO l0) (fun i => i < k) k la ∧ Below w.heap.size w wy ∧ Ba ≤ wy.heap.size ∧ Bb ≤ wy.heap.size) (fun i _ => n0 - (intOf i).toNat)
    case atStart => exact ⟨0, [], Nat.zero_le _, rfl, HT3.out, by simpa using holds_nil (famO l0), HG3.out, HB3.out.1, HB3.out.2⟩
    case round =>
      obtain ⟨k, la, hk, rfl, hT, hH, hB, hBa, hBb⟩ := hrel
      have HT := Lib.hid hT
      have HH := Lib.hid hH
      have HB := Lib.hid hB
      have HBab := Lib.hid (And.intro hBa hBb)
      clear hT hH hB hBa hBb
      have i0 : (0 : Int) ≤ (k : Int) := by omega
      by_cases hlt : k < n0
      · obtain ⟨y, hy⟩ : ∃ y, l0[k]? = some y := ⟨_, List.getElem?_eq_getElem (by omega)⟩
        obtain ⟨g1, o1, rfl, hb1, hr1⟩ := HI.out.at hy
        obtain ⟨q0, q1, q2, q3⟩ := range_cells (range_below hr1 HB.out hb1)
        have i5 : (k : Int) < (n0 : Int) := by omega
        have hf : famO l0 k = { y with seq := k } := by unfold famO; rw [List.getD_eq_getElem?_getD, hy]; rfl
        have HP : Hid (∀ W, Grew wr W → Calls Try.prog 15 #[.pointer (some ⟨ha.b, 0, none⟩), .agg #[.string ⟨y.key.toArray⟩, .int .u64 (k : Int), .bool y.gone, .string ⟨y.val.toArray⟩]] W fun e w' => e = .returned (.int .i64 (putR la (famO l0 k)).1) ∧ Two w' Ba ha (putR la (famO l0 k)).2 Bb hb [] ∧ Kept Ba W w') := Lib.hid fun W hW => by
          have := two_put (famO l0 k) (HT.out.grew hW) (Nat.le_trans HBab.out.1 hW.size) (by have := HH.out.1; omega) (by have := HH.out.2.1; omega)
          rwa [show iv (famO l0 k) = .agg #[.string ⟨y.key.toArray⟩, .int .u64 (k : Int), .bool y.gone, .string ⟨y.val.toArray⟩] by rw [hf]] at this
        have HH2 := Lib.hid (show Holds (famO l0) (fun i => i < k + 1) (k + 1) (putR la (famO l0 k)).2 from (holds_put HH.out (fun i _ => rfl) rfl).mono fun i => by omega)
        clear hr1 hy hf
        go_wp2_with (go_at_call 15; ((with_reducible refine (HP.out _ (grew_new _ _)).mono ?_); rintro e w5 ⟨rfl, hT, hK⟩))
        go_roundw
        case rel => exact ⟨k + 1, _, hlt, by go_num, hT, HH2.out, HB.out.trans ((grew_new _ _).mono HB.out.size |>.trans (hK.below.mono HBs.out.1)), Nat.le_trans HBab.out.1 (Nat.le_trans (grew_new _ _).size hK.below.size), Nat.le_trans HBab.out.2 (Nat.le_trans (grew_new _ _).size hK.below.size)⟩
        case measure => simp [intOf]; omega
      · obtain rfl : k = n0 := by omega
        have i5 : ¬ (k : Int) < (k : Int) := by omega
        go_wp2_with fail
        go_meet
        case rel => exact ⟨la, HT.out, HH.out, HB.out, HBab.out⟩
  case rest =>
  obtain ⟨la, hT, hHa, hB, hBa, hBb⟩ := hcut
  have HT0 := Lib.hid hT
  have HHa := Lib.hid hHa
  have HB0 := Lib.hid hB
  have HBab0 := Lib.hid (And.intro hBa hBb)
  clear hT hHa hB hBa hBb HT3 HG3 HB3
  go_upto_block 2 with fail
  go_cut [] from 13 (fun wy => ∃ lb, Two wy Ba ha la Bb hb lb ∧ Holds (famO l0) (fun i => ∃ i', i' < n0 ∧ i = backO n0 kk i') n0 lb ∧ Below w.heap.size w wy)
  case first =>
    go_wp2_with fail
    go_loopw [10] (fun i wy => ∃ (k : Nat) (lb : List (It × Nat)), k ≤ n0 ∧ i = .int .i64 (k : Int) ∧ Two wy Ba ha la Bb hb lb ∧ Holds (famO l0) (fun i => ∃ i', i' < k ∧ i = backO n0 kk i') k lb ∧ Below w.heap.size w wy ∧ Bb ≤ wy.heap.size) (fun i _ => n0 - (intOf i).toNat)
    case atStart => exact ⟨0, [], Nat.zero_le _, rfl, HT0.out, by simpa using holds_nil (famO l0), HB0.out, HBab0.out.2⟩
    case round =>
      obtain ⟨k, lb, hk, rfl, hT, hH, hB, hBb⟩ := hrel
      have HT := Lib.hid hT
      have HH := Lib.hid hH
      have HB := Lib.hid hB
      have HBb := Lib.hid hBb
      clear hT hH hB hBb
      have i0 : (0 : Int) ≤ (k : Int) := by omega
      by_cases hlt : k < n0
      · obtain ⟨m, hm2⟩ : ∃ m, m = (k + kk) % n0 := ⟨_, rfl⟩
        have hmn : m < n0 := by rw [hm2]; exact Nat.mod_lt _ (by omega)
        have e1 : Int.tmod ((k : Int) + (kk : Int)) (n0 : Int) = (m : Int) := by rw [hm2, Int.natCast_emod, Int.natCast_add]; exact Int.tmod_eq_emod_of_nonneg (by omega)
        have e2 : ((k : Int) + (kk : Int)) % (n0 : Int) = (m : Int) := by rw [hm2, Int.natCast_emod, Int.natCast_add]
        obtain ⟨jj, hjj⟩ : ∃ j, j = backO n0 kk k := ⟨_, rfl⟩
        have hjm : jj = n0 - 1 - m := by rw [hjj, hm2]; rfl
        have e3 : (n0 : Int) - 1 - (m : Int) = (jj : Int) := by omega
        have HJ := Lib.hid hjj
        clear hjj hm2
        obtain ⟨y, hy⟩ : ∃ y, l0[jj]? = some y := ⟨_, List.getElem?_eq_getElem (by omega)⟩
        obtain ⟨g1, o1, rfl, hb1, hr1⟩ := HI.out.at hy
        obtain ⟨q0, q1, q2, q3⟩ := range_cells (range_below hr1 HB.out hb1)
        have i5 : (k : Int) < (n0 : Int) := by omega
        have i6 : (0 : Int) ≤ (jj : Int) := by omega
        have i7 : (jj : Int) < (n0 : Int) := by omega
        have hf : famO l0 jj = { y with seq := jj } := by unfold famO; rw [List.getD_eq_getElem?_getD, hy]; rfl
        have HP : Hid (∀ W, Grew wr W → Calls Try.prog 15 #[.pointer (some ⟨hb.b, 0, none⟩), .agg #[.string ⟨y.key.toArray⟩, .int .u64 (jj : Int), .bool y.gone, .string ⟨y.val.toArray⟩]] W fun e w' => e = .returned (.int .i64 (putR lb (famO l0 jj)).1) ∧ Two w' Bb hb (putR lb (famO l0 jj)).2 Ba ha la ∧ Kept Bb W w') := Lib.hid fun W hW => by
          have := two_put (famO l0 jj) (HT.out.grew hW).swap (Nat.le_trans HBb.out hW.size) (by have := HH.out.1; omega) (by have := HH.out.2.1; omega)
          rwa [show iv (famO l0 jj) = .agg #[.string ⟨y.key.toArray⟩, .int .u64 (jj : Int), .bool y.gone, .string ⟨y.val.toArray⟩] by rw [hf]] at this
        have HH2 := Lib.hid (show Holds (famO l0) (fun i => ∃ i', i' < k + 1 ∧ i = backO n0 kk i') (k + 1) (putR lb (famO l0 jj)).2 from (holds_put HH.out (fun i _ => rfl) rfl).mono fun i => by
          constructor
          · rintro (⟨i', a, b⟩ | a)
            · exact ⟨i', by omega, b⟩
            · exact ⟨k, by omega, by rw [a]; exact HJ.out⟩
          · rintro ⟨i', a, b⟩
            by_cases c : i' < k
            · exact .inl ⟨i', c, b⟩
            · exact .inr (by rw [b, HJ.out, show i' = k by omega]))
        clear hr1 hy hf hjm
        go_wp2_with (go_at_call 15; ((with_reducible refine (HP.out _ (grew_new _ _)).mono ?_); rintro e w5 ⟨rfl, hT, hK⟩))
        go_roundw
        case rel => exact ⟨k + 1, _, hlt, by go_num, hT.swap, HH2.out, HB.out.trans ((grew_new _ _).mono HB.out.size |>.trans (hK.below.mono HBs.out.2)), Nat.le_trans HBb.out (Nat.le_trans (grew_new _ _).size hK.below.size)⟩
        case measure => simp [intOf]; omega
      · obtain rfl : k = n0 := by omega
        have i5 : ¬ (k : Int) < (k : Int) := by omega
        go_wp2_with fail
        go_meet
        case rel => exact ⟨lb, HT.out, HH.out, HB.out⟩
  case rest =>
  obtain ⟨lb, hT, hHb, hB⟩ := hcut
  have HEQ := Lib.hid (holds_same HHa.out hHb (back_all (by omega)) hT.fst.srt hT.snd.srt)
  have hla := HHa.out.1
  have hlb := hHb.1
  have HT := Lib.hid hT
  have HB := Lib.hid hB
  obtain ⟨X, hX⟩ : ∃ X, X = tailI (la.map (·.1)) ⟨[], m64 - 1, false, []⟩ := ⟨_, rfl⟩
  obtain ⟨C, hC⟩ : ∃ C, C = costs (la.map (·.1)) := ⟨_, rfl⟩
  obtain ⟨L, hL⟩ : ∃ L, L = la.length := ⟨_, rfl⟩
  have hlen : lb.length = L := by have := congrArg List.length HEQ.out; rw [hL]; simpa using this.symm
  have HAa : Hid (Calls Try.prog 19 #[.pointer (some ⟨ha.b, 0, none⟩)] wc (GivesI wc X)) := Lib.hid (by rw [hX]; exact allL hT.fst (by omega))
  have HAb : Hid (∀ W, Grew wc W → Calls Try.prog 19 #[.pointer (some ⟨hb.b, 0, none⟩)] W (GivesI W X)) := Lib.hid fun W hW => by rw [hX, HEQ.out]; exact allL (hT.snd.grew hW) (by omega)
  have HSa : Hid (∀ (W : World) (A1 A2 : Option Addr) (n1 c1 n2 c2 : Nat), Is W W.heap.size A1 n1 c1 X → Is W W.heap.size A2 n2 c2 X → Calls Try.prog 20 #[.slice A1 n1 c1, .slice A2 n2 c2] W fun e w' => e = .returned (.bool true) ∧ Grew W w') := Lib.hid fun W A1 A2 n1 c1 n2 c2 h1 h2 => (ref_same A1 A2 n1 c1 n2 c2 X X W h1 h2).mono fun e w' h => ⟨by rw [h.1, decide_eq_true rfl], h.2⟩
  have HBya : Hid (∀ W, Grew wc W → Calls Try.prog 22 #[.pointer (some ⟨ha.b, 0, none⟩)] W fun e w' => e = .returned (.int .i64 (C : Int)) ∧ W = w') := Lib.hid fun W hW => by rw [hC]; exact bytesL (hT.fst.grew hW)
  have HByb : Hid (∀ W, Grew wc W → Calls Try.prog 22 #[.pointer (some ⟨hb.b, 0, none⟩)] W fun e w' => e = .returned (.int .i64 (C : Int)) ∧ W = w') := Lib.hid fun W hW => by rw [hC, HEQ.out]; exact bytesL (hT.snd.grew hW)
  have HLna : Hid (∀ W, Grew wc W → Calls Try.prog 21 #[.pointer (some ⟨ha.b, 0, none⟩)] W fun e w' => e = .returned (.int .i64 (L : Int)) ∧ W = w') := Lib.hid fun W hW => by rw [hL]; exact lenL (hT.fst.grew hW)
  have HLnb : Hid (∀ W, Grew wc W → Calls Try.prog 21 #[.pointer (some ⟨hb.b, 0, none⟩)] W fun e w' => e = .returned (.int .i64 (L : Int)) ∧ W = w') := Lib.hid fun W hW => by rw [← hlen]; exact lenL (hT.snd.grew hW)
  clear hT hHb hB hlen hX hC hL hla hlb
  go_wp2_with (first
    | (go_at_call 19; ((with_reducible refine HAa.out.mono ?_); rintro e w5 ⟨A1, n1, c1, rfl, hO1, hG5⟩; have HO1 := Lib.hid hO1; have HG5 := Lib.hid hG5; clear hO1 hG5))
    | (go_at_call 19; ((with_reducible refine (HAb.out _ HG5.out).mono ?_); rintro e w6 ⟨A2, n2, c2, rfl, hO2, hG6⟩; have HI1 := Lib.hid ((HO1.out.below_all hG6).is (Nat.le_refl _)); have HI2 := Lib.hid (hO2.is (Nat.le_refl _)); have HG6 := Lib.hid (HG5.out.trans hG6); clear hO2 hG6))
    | (go_at_call 20; ((with_reducible refine (HSa.out _ _ _ _ _ _ _ HI1.out HI2.out).mono ?_); rintro e w7 ⟨rfl, hG7⟩; have HG7 := Lib.hid (HG6.out.trans hG7); clear hG7))
    | (go_at_call 22; ((with_reducible refine (HBya.out _ HG7.out).mono ?_); rintro e w8 ⟨rfl, rfl⟩))
    | (go_at_call 22; ((with_reducible refine (HByb.out _ HG7.out).mono ?_); rintro e w8 ⟨rfl, rfl⟩))
    | (go_at_call 21; ((with_reducible refine (HLna.out _ HG7.out).mono ?_); rintro e w8 ⟨rfl, rfl⟩))
    | (go_at_call 21; ((with_reducible refine (HLnb.out _ HG7.out).mono ?_); rintro e w8 ⟨rfl, rfl⟩)))
  go_ret
  exact ⟨rfl, HB.out.trans (HG7.out.mono HB.out.size)⟩
end Go.Proofs.Ytkkeodfoiffofaa
