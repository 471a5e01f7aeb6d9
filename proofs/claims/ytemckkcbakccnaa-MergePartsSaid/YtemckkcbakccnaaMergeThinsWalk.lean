/- The walk of rolodexlaw10.MergeThins. -/
import Derived.Test.YtemckkcbakccnaaAwake10
import Derived.Test.YtemckkcbakccnaaRefSeen
import Derived.Test.YtemckkcbakccnaaRefThin
import Derived.Test.YtemckkcbakccnaaOpenI
import Derived.Test.YtemckkcbakccnaaOpenN
namespace Go.Proofs.Ytemckkcbakccnaa
open Go.RowKit
set_option linter.unusedVariables false
theorem ns_of {w : World} {A : Option Addr} {n c : Nat} {l : List Int} (h : NumsIn .u64 w A n c l) : ∃ ms : List Nat, Ns w w.heap.size A n c ms ∧ (∀ m ∈ ms, m < m64) ∧ l = ms.map fun (m : Nat) => (m : Int) := by
  have hz : ∀ z ∈ l, 0 ≤ z ∧ z ≤ 18446744073709551615 := fun z hz => wf_u64 (h.wf z hz)
  have e : l = (l.map Int.toNat).map fun (m : Nat) => (m : Int) := by
    rw [List.map_map]
    have : l.map (fun x => x) = l.map ((fun (m : Nat) => (m : Int)) ∘ Int.toNat) := List.map_congr_left fun z hz' => by
      have := (hz z hz').1
      show z = ((z.toNat : Nat) : Int)
      omega
    simpa using this
  refine ⟨l.map Int.toNat, ⟨by rw [List.length_map]; exact h.len, h.le, h.max, ?_⟩, ?_, e⟩
  · have hr := h.row
    rw [e, List.map_map] at hr
    exact hr
  · intro m hm
    obtain ⟨z, hz', rfl⟩ := List.mem_map.1 hm
    have := hz z hz'
    rw [m64_eq]
    omega
theorem Ns.to {w : World} {B n c : Nat} {A : Option Addr} {l : List Nat} (h : Ns w B A n c l) (hi : Nat) (hhi : hi ≤ n) : Ns w B A hi c (l.take hi) := by
  have hl := h.len
  have hc := h.le
  refine ⟨by rw [List.length_take]; omega, by omega, h.max, ?_⟩
  have := Row.take h.row hi
  rwa [← List.map_take] at this
theorem run_toU (A : Option Addr) (n c hi : Nat) (hhi : hi ≤ c) (hnc : n ≤ c) (hcm : c ≤ maxLen) (W : World) :
    (Instr.slice 41 (.slice A n c) none (some (.int .i64 (hi : Int))) none).run Try.prog W = .ok (.slice A hi c) W := by
  have hu := Try.underlying41
  simp [go_sem, hu, hhi]
abbrev qI : It := ⟨[113], 0, false, []⟩
set_option maxRecDepth 100000 in
set_option maxHeartbeats 4000000 in
theorem mergeThins_walk (A0 : Option Addr) (n0 c0 : Nat) (l0 : List It) (A1 : Option Addr) (n1 c1 : Nat) (l1 : List Int) (a2 : Bool) (a3 : Int) (w : World) (b0 : ItemsIn w A0 n0 c0 l0) (z0 : n0 * 48 ≤ 140737488351232) (b1 : NumsIn .u64 w A1 n1 c1 l1) (z1 : n1 * 8 ≤ 140737488351232) (w3 : (Lit.int .u64 a3).wf = true) :
    Calls Try.prog 5 #[.slice A0 n0 c0, .slice A1 n1 c1, .bool a2, .int .u64 a3] w fun e w' => e = .returned (.bool true) ∧ Below w.heap.size w w' := by
  have hl := b0.is.len
  have hm := b0.is.le
  obtain ⟨ms, hN, hmm, _⟩ := ns_of b1
  have hkl := hN.len
  obtain ⟨q, hq⟩ : ∃ q : Nat, a3 = (q : Int) := ⟨a3.toNat, by have := wf_u64 w3; omega⟩
  subst hq
  have HI := Lib.hid b0.is
  have HKl := Lib.hid b0.kln
  have HN := Lib.hid hN
  have HAw := Lib.hid (awake10 w)
  clear b0 b1 z0 z1 w3 hN hmm
  go_enter Try.func5, Try.ntmps5
  go_upto_region 3 with (go_at_call 9; ((with_reducible refine HAw.out.mono ?_); rintro e w2 ⟨rfl, hB⟩; have HB2 := Lib.hid hB; clear hB))
  by_cases hbig : 80 < n0
  · have i1 : (80 : Int) < (n0 : Int) := by omega
    go_wp2_with fail
    go_ret
    exact ⟨rfl, HB2.out⟩
  have i1 : ¬ (80 : Int) < (n0 : Int) := by omega
  by_cases hbig2 : 20 < n1
  · have i2 : (20 : Int) < (n1 : Int) := by omega
    go_wp2_with fail
    go_ret
    exact ⟨rfl, HB2.out⟩
  have i2 : ¬ (20 : Int) < (n1 : Int) := by omega
  have hb0 := run_build0
  have hbu : ∀ W : World, (Instr.buildSlice 41 0 #[]).run Try.prog W = .ok (.slice (some ⟨W.heap.size, 0, none⟩) 0 0) (W.alloc (.cells #[] 27)) := fun _ => by kernel_rfl
  have HRow := Lib.hid ((HI.out.below HB2.out).row)
  go_upto_region 6 with (first
    | (at_builtin; refine wpList_appI rfl (.tmp 23) (.tmp 24) rfl w2.heap.size _ 0 0 [] rfl (OwnI.empty w2 w2.heap.size (Nat.le_refl _)) A0 n0 c0 w.heap.size l0 rfl hl (Row.below HRow.out ((Below.refl _ _).alloc HB2.out.size _)) (by omega) (by simp) ?_; intro A3 c3 w3 hO3 hg3 hB3 hor3; have HO3 := Lib.hid (show OwnI w3 w2.heap.size A3 n0 c3 l0 by simpa using hO3); have HG3 := Lib.hid (show Grew w2 w3 from ((Below.refl _ _).alloc (Nat.le_refl _) _).trans hB3); clear hO3 hg3 hB3 hor3)
    | (at_builtin; refine wpList_appI rfl (.tmp 25) (.tmp 27) rfl w2.heap.size A3 n0 c3 l0 rfl (HO3.out.alloc _) (some ⟨w3.heap.size, 0, none⟩) 1 1 (w3.heap.size + 1) [qI] rfl rfl (IRow.one w3 qI _ _) (by omega) (by have := HG3.out.size; simp; omega) ?_; intro A4 c4 w4 hO4 hg4 hB4 hor4; have HO4 := Lib.hid hO4; have HG4 := Lib.hid (show Grew w2 w4 from (HG3.out.alloc HG3.out.size _).trans hB4); have hsl := (fun W => run_toI A4 (n0 + 1) c4 n0 (by have := hO4.le; omega) hO4.le.1 hO4.le.2 (n0 : Int) rfl W); clear hO4 hg4 hB4 hor4))
  clear hsl HRow
  have HRow := Lib.hid ((HN.out.below HB2.out).row)
  go_upto_region 7 with (first
    | (at_builtin; refine wpList_appU rfl (.tmp 32) (.tmp 33) rfl w4.heap.size _ 0 0 [] rfl (OwnU.empty w4 w4.heap.size (Nat.le_refl _)) A1 n1 c1 w.heap.size ms rfl hkl (Row.below HRow.out ((HG4.out.mono HB2.out.size).alloc (Nat.le_trans HB2.out.size HG4.out.size) _)) (by omega) (by simp) ?_; intro A5 c5 w5 hO5 hg5 hB5; have HO5 := Lib.hid (show OwnU w5 w4.heap.size A5 n1 c5 ms by simpa using hO5); have HG5 := Lib.hid (show Grew w4 w5 from ((Below.refl _ _).alloc (Nat.le_refl _) _).trans hB5); clear hO5 hg5 hB5)
    | (at_builtin; refine wpList_appU rfl (.tmp 34) (.tmp 35) rfl w4.heap.size A5 n1 c5 ms rfl (HO5.out.alloc _) (some ⟨w5.heap.size, 0, none⟩) 1 1 (w5.heap.size + 1) [9] rfl rfl (URow.one w5 9 27 (0, 0)) (by omega) (by have := HG5.out.size; simp; omega) ?_; intro A6 c6 w6 hO6 hg6 hB6; have HO6 := Lib.hid hO6; have HG6 := Lib.hid (show Grew w4 w6 from (HG5.out.alloc HG5.out.size _).trans hB6); have hsu := (fun W => run_toU A6 (n1 + 1) c6 n1 (by have := Own.le hO6; omega) (Own.le hO6).1 (Own.le hO6).2 W); clear hO6 hg6 hB6))
  have HBw := Lib.hid (show Below w.heap.size w w6 from HB2.out.trans (Below.mono (HG4.out.trans HG6.out) HB2.out.size))
  have HIa : Hid (∀ W, Grew w6 W → Is W W.heap.size A4 n0 c4 l0) := Lib.hid fun W hW => by
    have h1 := (((HO4.out.below_all HG6.out).below_all hW).is (Nat.le_refl _)).to n0 (by omega)
    rwa [List.take_append_of_le_length (by omega), List.take_of_length_le (by omega)] at h1
  have HNk : Hid (∀ W, Grew w6 W → Ns W W.heap.size A6 n1 c6 ms) := Lib.hid fun W hW => by
    have h1 := ((HO6.out.below_all hW).ns (Nat.le_refl _)).to n1 (by omega)
    rwa [List.take_append_of_le_length (by omega), List.take_of_length_le (by omega)] at h1
  have HIl : Hid (∀ W, Grew w6 W → Is W W.heap.size A0 n0 c0 l0) := Lib.hid fun W hW => (HI.out.below (HBw.out.trans (Below.mono hW HBw.out.size))).more (Nat.le_trans HBw.out.size hW.size)
  have HNl : Hid (∀ W, Grew w6 W → Ns W W.heap.size A1 n1 c1 ms) := Lib.hid fun W hW => (HN.out.below (HBw.out.trans (Below.mono hW HBw.out.size))).more (Nat.le_trans HBw.out.size hW.size)
  have HSe : Hid (∀ W, Grew w6 W → Calls Try.prog 11 #[.slice A4 n0 c4, .int .u64 (q : Int)] W fun e w' => ∃ A n c, e = .returned (.slice A n c) ∧ OwnI w' (W.heap.size + 1) A n c (MrgP.seen l0 q) ∧ Grew W w') := Lib.hid fun W hW => mrg_seen A4 n0 c4 l0 q W (HIa.out W hW) HKl.out (by omega)
  have HTh : Hid (∀ W, Grew w6 W → Calls Try.prog 13 #[.slice A4 n0 c4, .slice A6 n1 c6, .bool a2] W fun e w' => ∃ A n c, e = .returned (.slice A n c) ∧ OwnI w' W.heap.size A n c (MrgP.thin l0 ms a2) ∧ Grew W w') := Lib.hid fun W hW => mrg_thin A4 A6 n0 c4 n1 c6 l0 ms a2 W (HIa.out W hW) (HNk.out W hW) (by omega) (by omega)
  have HRs : Hid (∀ W, Grew w6 W → Calls Try.prog 18 #[.slice A0 n0 c0, .int .u64 (q : Int)] W fun e w' => ∃ A n c, e = .returned (.slice A n c) ∧ OwnI w' W.heap.size A n c (MrgP.seen l0 q) ∧ Grew W w') := Lib.hid fun W hW => ref_seen A0 n0 c0 l0 q W (HIl.out W hW) (by omega)
  have HRt : Hid (∀ W, Grew w6 W → Calls Try.prog 19 #[.slice A0 n0 c0, .slice A1 n1 c1, .bool a2] W fun e w' => ∃ A n c, e = .returned (.slice A n c) ∧ OwnI w' W.heap.size A n c (MrgP.thin l0 ms a2) ∧ Grew W w') := Lib.hid fun W hW => by rw [MrgP.thin_eq]; exact ref_thin A0 A1 n0 c0 n1 c1 l0 ms a2 W (HIl.out W hW) (HNl.out W hW) (by omega)
  have HSm : Hid (∀ (W : World) (A B : Option Addr) (n c m d : Nat) (x : List It), Is W W.heap.size A n c x → Is W W.heap.size B m d x → Calls Try.prog 16 #[.slice A n c, .slice B m d] W fun e w' => e = .returned (.bool true) ∧ Grew W w') := Lib.hid fun W A B n c m d x h1 h2 => (ref_same A B n c m d x x W h1 h2).mono fun e w' h => ⟨by rw [h.1, decide_eq_true rfl], h.2⟩
  obtain ⟨SS, hSS⟩ : ∃ SS, SS = MrgP.seen l0 q := ⟨_, rfl⟩
  obtain ⟨TT, hTT⟩ : ∃ TT, TT = MrgP.thin l0 ms a2 := ⟨_, rfl⟩
  rw [← hSS] at HSe HRs
  rw [← hTT] at HTh HRt
  have HGr := Lib.hid (Grew.refl w6)
  clear hsu hbu hb0 HRow HO4 HO6 HG3 HG4 HG5 HG6 HO3 HO5 HB2 HI HKl HN HAw HNl HNk hSS hTT
  go_wp2_with (first
    | (go_at_call 11; ((with_reducible refine (HSe.out _ HGr.out).mono ?_); rintro e w7 ⟨A7, n7, c7, rfl, hO, hG⟩; have HOs := Lib.hid hO; have HGr := Lib.hid (Grew.trans HGr.out hG); clear hO hG))
    | (go_at_call 13; ((with_reducible refine (HTh.out _ HGr.out).mono ?_); rintro e w8 ⟨A8, n8, c8, rfl, hO, hG⟩; have HOt := Lib.hid hO; have HGr := Lib.hid (Grew.trans HGr.out hG); have HOs := Lib.hid (HOs.out.below_all hG); clear hO hG))
    | (go_at_call 18; ((with_reducible refine (HRs.out _ HGr.out).mono ?_); rintro e w10 ⟨A10, n10, c10, rfl, hO, hG⟩; have HOr := Lib.hid hO; have HGr := Lib.hid (Grew.trans HGr.out hG); have HOs := Lib.hid (HOs.out.below_all hG); have HOt := Lib.hid (HOt.out.below_all hG); clear hO hG))
    | (go_at_call 19; ((with_reducible refine (HRt.out _ HGr.out).mono ?_); rintro e w12 ⟨A12, n12, c12, rfl, hO, hG⟩; have HOq := Lib.hid hO; have HGr := Lib.hid (Grew.trans HGr.out hG); have HOs := Lib.hid (HOs.out.below_all hG); have HOt := Lib.hid (HOt.out.below_all hG); clear hO hG))
    | (go_at_call 16; ((first
        | (with_reducible refine (HSm.out _ _ _ _ _ _ _ _ (HIa.out _ HGr.out) (HIl.out _ HGr.out)).mono ?_)
        | (with_reducible refine (HSm.out _ _ _ _ _ _ _ _ (HOs.out.is (Nat.le_refl _)) (HOr.out.is (Nat.le_refl _))).mono ?_)
        | (with_reducible refine (HSm.out _ _ _ _ _ _ _ _ (HOt.out.is (Nat.le_refl _)) (HOq.out.is (Nat.le_refl _))).mono ?_)); rintro e w9 ⟨rfl, hG⟩; have HGr := Lib.hid (Grew.trans HGr.out hG); have HOs := Lib.hid (HOs.out.below_all hG); have HOt := Lib.hid (HOt.out.below_all hG); clear hG)))
  go_ret
  exact ⟨rfl, HBw.out.trans (Below.mono HGr.out HBw.out.size)⟩
end Go.Proofs.Ytemckkcbakccnaa
