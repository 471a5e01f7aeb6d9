/- The walk of rolodexlaw9.MemKnown. -/
import Derived.Test.YtkkeodfoiffofaaAwake9
namespace Go.Proofs.Ytkkeodfoiffofaa
open Go.RowKit
set_option linter.unusedVariables false
open MemP
attribute [local go_sem] Oper.semAt_some
def ka : It := ⟨[97], 1, false, []⟩
def kb : It := ⟨[98], 1, false, []⟩
def kc : It := ⟨[99], 1, false, []⟩
def kd : It := ⟨[100], 1, false, []⟩
def kn : It := ⟨[], 1, false, []⟩
def kg : It := ⟨[101], 0, true, [120]⟩
theorem putK1 : putR [] ka = (0, [(ka, 1)]) := by decide +kernel
theorem putK2 : putR [(ka, 1)] kb = (0, [(ka, 1), (kb, 1)]) := by decide +kernel
theorem putK3 : putR [(ka, 1), (kb, 1)] kc = (0, [(ka, 1), (kb, 1), (kc, 1)]) := by decide +kernel
theorem putK4 : putR [(ka, 1), (kb, 1), (kc, 1)] kd = (0, [(ka, 1), (kb, 1), (kc, 1), (kd, 2)]) := by decide +kernel
theorem putK5 : putR [(ka, 1), (kb, 1), (kc, 1), (kd, 2)] ka = (12, [(ka, 1), (kb, 1), (kc, 1), (kd, 2)]) := by decide +kernel
theorem putK6 : putR [(ka, 1), (kb, 1), (kc, 1), (kd, 2)] kn = (1, [(ka, 1), (kb, 1), (kc, 1), (kd, 2)]) := by decide +kernel
theorem putK7 : putR [(ka, 1), (kb, 1), (kc, 1), (kd, 2)] kg = (1, [(ka, 1), (kb, 1), (kc, 1), (kd, 2)]) := by decide +kernel
/-- a put's contract, its answer and its items named -/
theorem putL {w : World} {B : Nat} {hd : Nd} {l l' : List (It × Nat)} {x : It} {v : Value} {c : Int} (h : MemL w B hd l) (hB : B ≤ w.heap.size) (hn : l.length ≤ 1000000) (hc : costs (l.map (·.1)) ≤ 1000000000000) (hr : putR l x = (c, l')) (hv : iv x = v) :
    Hid (Calls Try.prog 15 #[.pointer (some ⟨hd.b, 0, none⟩), v] w fun e w' => e = .returned (.int .i64 c) ∧ MemL w' B hd l' ∧ Kept B w w') := Lib.hid (by
  have := memL_put B hd l x w h hB hn hc
  rw [hr, hv] at this
  exact this)
/-- two cells of a slice of ints of one's own -/
theorem own_cell {W : World} {base n c : Nat} {A : Option Addr} {xs : List Value} {t : TypeId} (h : Own W base t 1 A n c xs) (hx : 0 < xs.length) : ∃ g o, A = some ⟨g, o, none⟩ ∧ ∀ (j : Nat) (u : Value), xs[j]? = some u → W.cell? ⟨g, o + j, none⟩ = some u := by
  have hr := h.row (Nat.le_refl _)
  obtain ⟨a, rfl, _, hc⟩ := hr 0 _ (List.getElem?_eq_getElem hx)
  have hs := spot_none hc
  obtain ⟨g, o, s⟩ := a
  have hs' : s = none := by
    cases s with
    | none => rfl
    | some _ => simp [Addr.add] at hs
  subst hs'
  refine ⟨g, o, rfl, fun j u hu => ?_⟩
  obtain ⟨a, e, _, hc⟩ := hr j u hu
  cases e
  rw [add_off] at hc
  exact hc
set_option maxRecDepth 100000 in
set_option maxHeartbeats 1000000 in
theorem memKnown_walk (w : World) : Calls Try.prog 3 #[] w fun e w' => e = .returned (.bool true) ∧ Below w.heap.size w w' := by
  go_enter Try.func3, Try.ntmps3
  have HAw := Lib.hid (awake9 w)
  go_upto_region 3 with (go_at_call 13; ((with_reducible refine HAw.out.mono ?_); rintro e w1 ⟨rfl, hG⟩; have HG1 := Lib.hid (show Grew w w1 from hG); clear hG))
  have HNw := Lib.hid (memL_new w1)
  go_upto_region 4 with (go_at_call 14; ((with_reducible refine HNw.out.mono ?_); rintro e w2 ⟨hd, rfl, hM, hG⟩; have HM2 := Lib.hid hM; have HG2 := Lib.hid (HG1.out.trans hG); clear hM hG))
  obtain ⟨B, hB⟩ : ∃ b, b = w1.heap.size := ⟨_, rfl⟩
  rw [← hB] at HM2
  have hBw2 : B ≤ w2.heap.size := by
    obtain ⟨ns, h1, _⟩ := HM2.out
    have := h1.lt hd.b ⟨hd, by simp, .inl rfl⟩
    omega
  have HBw := Lib.hid (show w.heap.size ≤ B by rw [hB]; exact HG1.out.size)
  clear hB HNw HAw
  have HP1 := putL HM2.out hBw2 (by simp) (by simp [costs]) putK1 (v := .agg #[.string ⟨#[97]⟩, .int .u64 1, .bool false, .string ⟨#[]⟩]) rfl
  go_upto_region 5 with (go_at_call 15; ((with_reducible refine HP1.out.mono ?_); rintro e w3 ⟨rfl, hM, hK⟩; have HM3 := Lib.hid hM; have HG3 := Lib.hid (show Grew w w3 from Below.trans HG2.out (hK.below.mono HBw.out)); have hB3 := Nat.le_trans hBw2 hK.below.size; clear hM hK))
  have HP2 := putL HM3.out hB3 (by simp) (by simp [costs, cost, ka]) putK2 (v := .agg #[.string ⟨#[98]⟩, .int .u64 1, .bool false, .string ⟨#[]⟩]) rfl
  go_upto_region 6 with (go_at_call 15; ((with_reducible refine HP2.out.mono ?_); rintro e w4 ⟨rfl, hM, hK⟩; have HM4 := Lib.hid hM; have HG4 := Lib.hid (show Grew w w4 from Below.trans HG3.out (hK.below.mono HBw.out)); have hB4 := Nat.le_trans hB3 hK.below.size; clear hM hK))
  have HP3 := putL HM4.out hB4 (by simp) (by simp [costs, cost, ka, kb]) putK3 (v := .agg #[.string ⟨#[99]⟩, .int .u64 1, .bool false, .string ⟨#[]⟩]) rfl
  go_upto_region 7 with (go_at_call 15; ((with_reducible refine HP3.out.mono ?_); rintro e w5 ⟨rfl, hM, hK⟩; have HM5 := Lib.hid hM; have HG5 := Lib.hid (show Grew w w5 from Below.trans HG4.out (hK.below.mono HBw.out)); have hB5 := Nat.le_trans hB4 hK.below.size; clear hM hK))
  have HP4 := putL HM5.out hB5 (by simp) (by simp [costs, cost, ka, kb, kc]) putK4 (v := .agg #[.string ⟨#[100]⟩, .int .u64 1, .bool false, .string ⟨#[]⟩]) rfl
  go_upto_region 8 with (go_at_call 15; ((with_reducible refine HP4.out.mono ?_); rintro e w6 ⟨rfl, hM, hK⟩; have HM6 := Lib.hid hM; have HG6 := Lib.hid (show Grew w w6 from Below.trans HG5.out (hK.below.mono HBw.out)); have hB6 := Nat.le_trans hB5 hK.below.size; clear hM hK))
  clear HP1 HP2 HP3 HP4 HM2 HM3 HM4 HM5 HG2 HG3 HG4 HG5
  have HHt := Lib.hid (heightsL HM6.out (by simp))
  go_upto_region 9 with (go_at_call 16; ((with_reducible refine HHt.out.mono ?_); rintro e w7 ⟨A2, c2, rfl, hO, hG⟩; have HO := Lib.hid hO; have HM7 := Lib.hid (HM6.out.grew hG); have HG7 := Lib.hid (HG6.out.trans hG); have hB7 := Nat.le_trans hB6 hG.size; clear hO hG))
  clear HHt HM6 HG6
  obtain ⟨gH, oH, rfl, hq⟩ := own_cell HO.out (by simp [htsL])
  have q2 : w7.cell? ⟨gH, oH + 2, none⟩ = some (.int .i64 1) := hq 2 _ rfl
  have q3 : w7.cell? ⟨gH, oH + 3, none⟩ = some (.int .i64 2) := hq 3 _ rfl
  clear hq
  have HP5 := putL HM7.out hB7 (by simp) (by simp [costs, cost, ka, kb, kc, kd]) putK5 (v := .agg #[.string ⟨#[97]⟩, .int .u64 1, .bool false, .string ⟨#[]⟩]) rfl
  have HP6 := Lib.hid fun W h hb => putL (w := W) (B := B) (hd := hd) h hb (by simp) (by simp [costs, cost, ka, kb, kc, kd]) putK6 (v := .agg #[.string ⟨#[]⟩, .int .u64 1, .bool false, .string ⟨#[]⟩]) rfl
  have HP7 := Lib.hid fun W h hb => putL (w := W) (B := B) (hd := hd) h hb (by simp) (by simp [costs, cost, ka, kb, kc, kd]) putK7 (v := .agg #[.string ⟨#[101]⟩, .int .u64 0, .bool true, .string ⟨#[120]⟩]) rfl
  go_wp2_with (first
    | (go_at_call 15; ((with_reducible refine HP5.out.mono ?_); rintro e w8 ⟨rfl, hM, hK⟩; have HM8 := Lib.hid hM; have HG8 := Lib.hid (show Grew w w8 from Below.trans HG7.out (hK.below.mono HBw.out)); have hB8 := Nat.le_trans hB7 hK.below.size; clear hM hK))
    | (go_at_call 15; ((with_reducible refine (HP6.out _ HM8.out hB8).out.mono ?_); rintro e w9 ⟨rfl, hM, hK⟩; have HM9 := Lib.hid hM; have HG9 := Lib.hid (show Grew w w9 from Below.trans HG8.out (hK.below.mono HBw.out)); have hB9 := Nat.le_trans hB8 hK.below.size; clear hM hK))
    | (go_at_call 15; ((with_reducible refine (HP7.out _ HM9.out hB9).out.mono ?_); rintro e w10 ⟨rfl, hM, hK⟩; have HG10 := Lib.hid (show Grew w w10 from Below.trans HG9.out (hK.below.mono HBw.out)); clear hM hK)))
  go_ret
  exact ⟨rfl, HG10.out⟩
end Go.Proofs.Ytkkeodfoiffofaa
