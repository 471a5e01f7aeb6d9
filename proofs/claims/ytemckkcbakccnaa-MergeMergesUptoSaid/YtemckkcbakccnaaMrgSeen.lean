/- The walk of merge.Seen. -/
import Derived.Test.YtemckkcbakccnaaMapB
import Derived.Test.YtemckkcbakccnaaMrgPlain
import Derived.Test.YtemckkcbakccnaaRefSorted
import Derived.Test.YtemckkcbakccnaaItemBox
namespace Go.Proofs.Ytemckkcbakccnaa
open Go.RowKit
set_option linter.unusedVariables false
namespace MrgP
def metS (q : Nat) (pre : List It) (k : List UInt8) : Bool := pre.any fun y => decide (y.key = k) && decide (y.seq ≤ q)
theorem first_met (q : Nat) (pre : List It) (x : It) : first q pre x = (decide (x.seq ≤ q) && !metS q pre x.key) := by
  unfold first metS
  rw [← List.not_any_eq_all_not]
theorem metS_add (q : Nat) {l : List It} {i : Nat} {x : It} (hx : l[i]? = some x) (k : List UInt8) : metS q (l.take (i + 1)) k = (metS q (l.take i) k || (decide (x.key = k) && decide (x.seq ≤ q))) := by
  unfold metS
  rw [List.take_add_one, hx, List.any_append]
  simp
end MrgP
set_option maxRecDepth 100000 in
set_option maxHeartbeats 2000000 in
theorem mrg_seen (A : Option Addr) (n c : Nat) (l : List It) (q : Nat) (w : World) (h : Is w w.heap.size A n c l) (hk : ∀ x ∈ l, x.key.length ≤ maxLen) (hn : n ≤ 1000000) :
    Calls Try.prog 11 #[.slice A n c, .int .u64 (q : Int)] w fun e w' => ∃ A' n' c', e = .returned (.slice A' n' c') ∧ OwnI w' (w.heap.size + 1) A' n' c' (MrgP.seen l q) ∧ Below w.heap.size w w' := by
  have hl := h.len
  have hm := h.le
  have hx := h.max
  unfold maxLen at hx
  have HI := Lib.hid h
  have HK := Lib.hid hk
  clear h hk
  have hmm := @run_makeMap Try.prog
  go_enter Try.func11, Try.ntmps11
  go_wp2_with fail
  go_loopw [5, 12] (fun o i wy => ∃ (k : Nat) (A2 : Option Addr) (n2 c2 : Nat), k ≤ n ∧ i = .int .i64 (k : Int) ∧ o = .slice A2 n2 c2 ∧ Met wy w.heap.size k (MrgP.metS q (l.take k)) ∧ OwnI wy (w.heap.size + 1) A2 n2 c2 (MrgP.seen (l.take k) q) ∧ Below w.heap.size w wy ∧ w.heap.size + 1 ≤ wy.heap.size) (fun _ i _ => n - (intOf i).toNat)
  case atStart => exact ⟨0, none, 0, 0, Nat.zero_le _, rfl, rfl, met_made w, OwnI.nil _ _, (Below.refl _ _).alloc (Nat.le_refl _) _, by simp⟩
  case round =>
    obtain ⟨k, A2, n2, c2, hk, rfl, rfl, hM, hO, hB, hS⟩ := hrel
    have HM := Lib.hid hM
    have HO := Lib.hid hO
    have HB := Lib.hid hB
    have HS := Lib.hid hS
    have hn2 : n2 ≤ k := by
      have := MrgP.pick_le (MrgP.seenB q) (l.take k) []
      have h2 := hO.len
      unfold MrgP.seen at h2
      rw [h2, List.length_take] at this
      omega
    clear hM hO hB hS
    have i0 : (0 : Int) ≤ (k : Int) := by omega
    by_cases hlt : k < n
    · obtain ⟨x, hx⟩ : ∃ y, l[k]? = some y := ⟨_, List.getElem?_eq_getElem (by omega)⟩
      obtain ⟨g1, o1, rfl, hb1, hr1⟩ := HI.out.at hx
      obtain ⟨q0, q1, q2, q3⟩ := range_cells (range_below hr1 HB.out hb1)
      have HKx := Lib.hid (HK.out x (List.mem_of_getElem? hx))
      have HSA : Hid (MrgP.seen (l.take (k + 1)) q = MrgP.seen (l.take k) q ++ (if (decide (x.seq ≤ q) && !MrgP.metS q (l.take k) x.key && !x.gone) = true then [x] else [])) := Lib.hid (by have := MrgP.pick_add (MrgP.seenB q) hx; unfold MrgP.seenB at this; rw [MrgP.first_met] at this; exact this)
      have HMA := Lib.hid (MrgP.metS_add q hx)
      have i1 : (k : Int) < (n : Int) := by omega
      clear hr1 hx hb1
      obtain ⟨w1, hw1⟩ : ∃ W, W = wr.alloc (.cells #[.string ⟨x.key.toArray⟩, .int .u64 (x.seq : Int), .bool x.gone, .string ⟨x.val.toArray⟩] 29) := ⟨_, rfl⟩
      obtain ⟨b1, hb1⟩ : ∃ b, b = wr.heap.size := ⟨_, rfl⟩
      have HX := Lib.hid (show IBox w1 b1 x by rw [hw1, hb1]; exact IBox.new wr x)
      have HM1 := Lib.hid (show Met w1 w.heap.size k (MrgP.metS q (l.take k)) by rw [hw1]; exact HM.out.alloc _)
      have HO1 := Lib.hid (show OwnI w1 (w.heap.size + 1) A2 n2 c2 (MrgP.seen (l.take k) q) by rw [hw1]; exact HO.out.alloc _)
      have HB1 := Lib.hid (show Below w.heap.size w w1 by rw [hw1]; exact HB.out.alloc HB.out.size _)
      have HS1 := Lib.hid (show w.heap.size + 1 ≤ w1.heap.size by rw [hw1]; have := HS.out; simp; omega)
      have HL1 := Lib.hid (show w.heap.size + 1 ≤ b1 by rw [hb1]; exact HS.out)
      have HW1 := Lib.hid (And.intro hw1 hb1)
      clear hw1 hb1 HM HO HB HS
      go_upto_region 6 with fail
      rw [← HW1.out.1, ← HW1.out.2]
      clear HW1 q0 q1 q2 q3
      obtain ⟨q0, q1, q2, q3⟩ := range_cells HX.out.range
      by_cases hq : x.seq ≤ q
      · have i2 : ¬ (q : Int) < (x.seq : Int) := by omega
        have hlk := HM1.out.look x.key HKx.out
        obtain ⟨m, hm⟩ : ∃ m, m = MrgP.metS q (l.take k) x.key := ⟨_, rfl⟩
        rw [← hm] at hlk HSA
        have HMm := Lib.hid hm
        clear hm
        cases m
        · go_upto_region 7 with fail
          go_upto_region 8 with (at_mapUpdate; refine wpList_met rfl (.tmp 26) (.tmp 28) (.const (.bool true)) rfl rfl HM1.out (by unfold maxLen; omega) x.key HKx.out rfl rfl ?_; intro w2 hM2 hg2)
          have HX2 := Lib.hid (HX.out.keep (hg2.block b1 HX.out.lt (by have := HL1.out; simp; omega)))
          have HO2 := Lib.hid (show OwnI w2 (w.heap.size + 1) A2 n2 c2 (MrgP.seen (l.take k) q) from Own.grown HO1.out hg2 (.inr fun e => by have := (Own.lt HO1.out _ e).1; omega))
          have HB2 := Lib.hid (HB1.out.grown hg2 HB1.out.size (fun j hj => by cases hj; exact Nat.le_refl _))
          have HS2 := Lib.hid (Nat.le_trans HS1.out hg2.size)
          have HM2 := Lib.hid (hM2.congr (T := MrgP.metS q (l.take (k + 1))) fun key => by
            rw [HMA.out key, decide_eq_true hq, Bool.and_true, Bool.or_comm]
            congr 1
            exact decide_eq_decide.2 eq_comm)
          clear hM2 hg2 hlk q0 q1 q2 q3
          obtain ⟨q0, q1, q2, q3⟩ := range_cells HX2.out.range
          by_cases hg : x.gone = true
          · rw [hg] at q2
            have HSA := Lib.hid (show MrgP.seen (l.take (k + 1)) q = MrgP.seen (l.take k) q by rw [HSA.out, hg]; simp)
            clear hg
            go_wp2_with fail
            go_roundw
            case rel => exact ⟨k + 1, A2, n2, c2, hlt, by go_num, rfl, HM2.out, by rw [HSA.out]; exact HO2.out, HB2.out, HS2.out⟩
            case measure => simp [intOf]; omega
          · have hg : x.gone = false := by simpa using hg
            have HG := Lib.hid hg
            rw [hg] at q2
            have HSA := Lib.hid (show MrgP.seen (l.take (k + 1)) q = MrgP.seen (l.take k) q ++ [x] by rw [HSA.out, hg, decide_eq_true hq]; simp)
            clear hg
            go_upto_region 9 with fail
            have HR1 := Lib.hid (show IRow (w2.alloc (.cells #[.string ⟨x.key.toArray⟩, .int .u64 (x.seq : Int), .bool false, .string ⟨x.val.toArray⟩] 29)) (w2.heap.size + 1) (some ⟨w2.heap.size, 0, none⟩) [x] by have := IRow.one w2 x 29 (0, 0); rwa [HG.out] at this)
            have hbs := HS2.out
            go_wp2_with (at_builtin; refine wpList_appI rfl (.tmp 32) (.tmp 34) rfl (w.heap.size + 1) A2 n2 c2 _ rfl (HO2.out.alloc _) (some ⟨w2.heap.size, 0, none⟩) 1 1 (w2.heap.size + 1) [x] rfl rfl HR1.out (by omega) (by simp; omega) ?_; intro A3 c3 w3 hO3 hg3 hB3 hor3)
            go_roundw
            case rel =>
              refine ⟨k + 1, A3, _, c3, hlt, by go_num, rfl, (HM2.out.alloc _).kept hg3 (fun e => ?_), by rw [HSA.out]; exact hO3, (HB2.out.alloc HB2.out.size _).trans (hB3.mono (Nat.le_succ _)), Nat.le_trans HS2.out (by have := hg3.size; simp at this; omega)⟩
              have := (Own.lt HO2.out _ e.symm).1
              omega
            case measure => simp [intOf]; omega
        · have HSA := Lib.hid (show MrgP.seen (l.take (k + 1)) q = MrgP.seen (l.take k) q by rw [HSA.out]; simp)
          have HM2 := Lib.hid (HM1.out.congr (T := MrgP.metS q (l.take (k + 1))) fun key => by
            rw [HMA.out key]
            by_cases e : x.key = key
            · subst e; rw [← HMm.out]; rfl
            · simp [e])
          go_wp2_with fail
          go_roundw
          case rel => exact ⟨k + 1, A2, n2, c2, hlt, by go_num, rfl, HM2.out.mono (Nat.le_succ _), by rw [HSA.out]; exact HO1.out, HB1.out, HS1.out⟩
          case measure => simp [intOf]; omega
      · have i2 : (q : Int) < (x.seq : Int) := by omega
        have HSA := Lib.hid (show MrgP.seen (l.take (k + 1)) q = MrgP.seen (l.take k) q by rw [HSA.out, decide_eq_false hq]; simp)
        have HM2 := Lib.hid (HM1.out.congr (T := MrgP.metS q (l.take (k + 1))) fun key => by rw [HMA.out key, decide_eq_false hq]; simp)
        go_wp2_with fail
        go_roundw
        case rel => exact ⟨k + 1, A2, n2, c2, hlt, by go_num, rfl, HM2.out.mono (Nat.le_succ _), by rw [HSA.out]; exact HO1.out, HB1.out, HS1.out⟩
        case measure => simp [intOf]; omega
    · obtain rfl : k = n := by omega
      have HT := Lib.hid (show l.take k = l from List.take_of_length_le (by omega))
      have i1 : ¬ (k : Int) < (k : Int) := by omega
      go_wp2_with fail
      go_ret
      exact ⟨A2, n2, c2, rfl, by have := HO.out; rwa [HT.out] at this, HB.out⟩
end Go.Proofs.Ytemckkcbakccnaa
