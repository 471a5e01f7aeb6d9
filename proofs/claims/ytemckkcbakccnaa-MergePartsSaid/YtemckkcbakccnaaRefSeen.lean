/- The walk of rolodexref8.Seen. -/
import Derived.Test.YtemckkcbakccnaaMrgSeen
namespace Go.Proofs.Ytemckkcbakccnaa
open Go.RowKit
set_option linter.unusedVariables false
/-- is x, of what stands ahead of place m, the first one told at q? -/
def firstB (l : List It) (q : Nat) (x : It) (m : Nat) : Bool := decide (x.seq ≤ q) && !MrgP.metS q (l.take m) x.key
theorem firstB_zero (l : List It) (q : Nat) (x : It) : firstB l q x 0 = decide (x.seq ≤ q) := by simp [firstB, MrgP.metS]
theorem firstB_add {l : List It} {q m : Nat} {x z : It} (hz : l[m]? = some z) : firstB l q x (m + 1) = (firstB l q x m && !(decide (z.key = x.key) && decide (z.seq ≤ q))) := by
  unfold firstB
  rw [MrgP.metS_add q hz, Bool.not_or, Bool.and_assoc]
set_option maxRecDepth 100000 in
set_option maxHeartbeats 4000000 in
theorem ref_seen (A : Option Addr) (n c : Nat) (l : List It) (q : Nat) (w : World) (h : Is w w.heap.size A n c l) (hn : n ≤ 1000000) :
    Calls Try.prog 18 #[.slice A n c, .int .u64 (q : Int)] w fun e w' => ∃ A' n' c', e = .returned (.slice A' n' c') ∧ OwnI w' w.heap.size A' n' c' (MrgP.seen l q) ∧ Below w.heap.size w w' := by
  have hl := h.len
  have hm := h.le
  have hx := h.max
  unfold maxLen at hx
  have HI := Lib.hid h
  have HE := Lib.hid (OwnI.empty w w.heap.size (Nat.le_refl _))
  clear h
  have hmk : ∀ W : World, (Instr.makeSlice 23 (.int .i64 0) (.int .i64 0)).run Try.prog W = .ok (.slice (some ⟨W.heap.size, 0, none⟩) 0 0) (W.alloc (.cells #[] 29)) := fun _ => by kernel_rfl
  go_enter Try.func18, Try.ntmps18
  go_wp2_with fail
  go_loopw [5, 6] (fun o i wy => ∃ (k : Nat) (A2 : Option Addr) (n2 c2 : Nat), k ≤ n ∧ i = .int .i64 (k : Int) ∧ o = .slice A2 n2 c2 ∧ OwnI wy w.heap.size A2 n2 c2 (MrgP.seen (l.take k) q) ∧ Below w.heap.size w wy) (fun _ i _ => n - (intOf i).toNat)
  case atStart => exact ⟨0, some ⟨w.heap.size, 0, none⟩, 0, 0, Nat.zero_le _, rfl, rfl, HE.out, (Below.refl _ _).alloc (Nat.le_refl _) _⟩
  case round =>
    obtain ⟨k, A2, n2, c2, hk, rfl, rfl, hO, hB⟩ := hrel
    have HO := Lib.hid hO
    have HB := Lib.hid hB
    have hn2 : n2 ≤ k := by
      have := MrgP.pick_le (MrgP.seenB q) (l.take k) []
      have h2 := hO.len
      unfold MrgP.seen at h2
      rw [h2, List.length_take] at this
      omega
    clear hO hB
    have i0 : (0 : Int) ≤ (k : Int) := by omega
    by_cases hlt : k < n
    · obtain ⟨x, hx⟩ : ∃ y, l[k]? = some y := ⟨_, List.getElem?_eq_getElem (by omega)⟩
      obtain ⟨g1, o1, rfl, hb1, hr1⟩ := HI.out.at hx
      obtain ⟨q0, q1, q2, q3⟩ := range_cells (range_below hr1 HB.out hb1)
      have HRx := Lib.hid (fun W (hW : Below w.heap.size w W) => range_cells (range_below hr1 hW hb1))
      have HSA : Hid (MrgP.seen (l.take (k + 1)) q = MrgP.seen (l.take k) q ++ (if (firstB l q x k && !x.gone) = true then [x] else [])) := Lib.hid (by have := MrgP.pick_add (MrgP.seenB q) hx; unfold MrgP.seenB at this; rw [MrgP.first_met] at this; exact this)
      have HF0 := Lib.hid (firstB_zero l q x)
      have i1 : (k : Int) < (n : Int) := by omega
      clear hr1 hx hb1
      go_wp2_with fail
      go_loopw [7, 8] (fun f j wy => ∃ m : Nat, m ≤ k ∧ j = .int .i64 (m : Int) ∧ f = .bool (firstB l q x m) ∧ Grew wr wy) (fun _ j _ => k - (intOf j).toNat)
      case atStart => exact ⟨0, Nat.zero_le _, rfl, by rw [HF0.out], Grew.refl _⟩
      case round =>
        obtain ⟨m, hm, rfl, rfl, hG2⟩ := hrel
        have HG2 := Lib.hid hG2
        have HBw := Lib.hid (HB.out.trans (Below.mono hG2 HB.out.size))
        clear hG2
        have i20 : (0 : Int) ≤ (m : Int) := by omega
        obtain ⟨r0, r1, r2, r3⟩ := HRx.out _ HBw.out
        by_cases hlt2 : m < k
        · obtain ⟨z, hz⟩ : ∃ y, l[m]? = some y := ⟨_, List.getElem?_eq_getElem (by omega)⟩
          obtain ⟨g2, o2, e2, hb2, hr2⟩ := HI.out.at hz
          cases e2
          obtain ⟨p0, p1, p2, p3⟩ := range_cells (range_below hr2 HBw.out hb2)
          have HFA := Lib.hid (firstB_add (q := q) (x := x) hz)
          have i25 : (m : Int) < (k : Int) := by omega
          have i26 : (m : Int) < (n : Int) := by omega
          obtain ⟨b, hb⟩ : ∃ b, b = firstB l q x m := ⟨_, rfl⟩
          rw [← hb] at HFA ⊢
          clear hz hr2 hb2 hb
          cases b
          · have HFA := Lib.hid (show firstB l q x (m + 1) = false by rw [HFA.out]; rfl)
            go_upto_region 9 with fail
            go_quiet (fail)
            go_wp2_with fail
            go_roundw
            case rel => exact ⟨m + 1, hlt2, by go_num, by rw [HFA.out], Grew.trans HG2.out (Grew.drewN _ _)⟩
            case measure => simp [intOf]; omega
          · by_cases hkey : z.key = x.key
            · have t1 : (z.key == x.key) = true := by simpa using hkey
              by_cases hseq : z.seq ≤ q
              · have t2 : (z.seq : Int) ≤ (q : Int) := by omega
                have HFA := Lib.hid (show firstB l q x (m + 1) = false by rw [HFA.out, decide_eq_true hkey, decide_eq_true hseq]; rfl)
                clear hkey
                go_upto_region 9 with fail
                go_quiet (fail)
                go_wp2_with fail
                go_roundw
                case rel => exact ⟨m + 1, hlt2, by go_num, by rw [HFA.out], Grew.trans HG2.out (Grew.drewN _ _)⟩
                case measure => simp [intOf]; omega
              · have t2 : ¬ (z.seq : Int) ≤ (q : Int) := by omega
                have HFA := Lib.hid (show firstB l q x (m + 1) = true by rw [HFA.out, decide_eq_false hseq, Bool.and_false]; rfl)
                clear hkey
                go_upto_region 9 with fail
                go_quiet (fail)
                go_wp2_with fail
                go_roundw
                case rel => exact ⟨m + 1, hlt2, by go_num, by rw [HFA.out], Grew.trans HG2.out (Grew.drewN _ _)⟩
                case measure => simp [intOf]; omega
            · have t1 : (z.key == x.key) = false := by simpa using hkey
              have HFA := Lib.hid (show firstB l q x (m + 1) = true by rw [HFA.out, decide_eq_false hkey, Bool.false_and]; rfl)
              clear hkey
              go_upto_region 9 with fail
              go_quiet (fail)
              go_wp2_with fail
              go_roundw
              case rel => exact ⟨m + 1, hlt2, by go_num, by rw [HFA.out], Grew.trans HG2.out (Grew.drewN _ _)⟩
              case measure => simp [intOf]; omega
        · obtain rfl : m = k := by omega
          have i25 : ¬ (m : Int) < (m : Int) := by omega
          have HO2 := Lib.hid (HO.out.below_all HG2.out)
          obtain ⟨b, hb⟩ : ∃ b, b = firstB l q x m := ⟨_, rfl⟩
          rw [← hb] at HSA ⊢
          clear hb
          cases b
          · have HSA := Lib.hid (show MrgP.seen (l.take (m + 1)) q = MrgP.seen (l.take m) q by rw [HSA.out]; simp)
            go_wp2_with fail
            go_roundw
            case rel => exact ⟨m + 1, A2, n2, c2, hlt, by go_num, rfl, by rw [HSA.out]; exact HO2.out, HBw.out⟩
            case measure => simp [intOf]; omega
          · by_cases hg : x.gone = true
            · rw [hg] at r2
              have HSA := Lib.hid (show MrgP.seen (l.take (m + 1)) q = MrgP.seen (l.take m) q by rw [HSA.out, hg]; simp)
              clear hg
              go_wp2_with fail
              go_roundw
              case rel => exact ⟨m + 1, A2, n2, c2, hlt, by go_num, rfl, by rw [HSA.out]; exact HO2.out, HBw.out⟩
              case measure => simp [intOf]; omega
            · have hg : x.gone = false := by simpa using hg
              have HSA := Lib.hid (show MrgP.seen (l.take (m + 1)) q = MrgP.seen (l.take m) q ++ [x] by rw [HSA.out, hg]; simp)
              rw [hg] at r2
              have HR1 := fun W => Lib.hid (show IRow (World.alloc W (.cells #[.string ⟨x.key.toArray⟩, .int .u64 (x.seq : Int), .bool false, .string ⟨x.val.toArray⟩] 29)) (W.heap.size + 1) (some ⟨W.heap.size, 0, none⟩) [x] by have := IRow.one W x 29 (0, 0); rwa [hg] at this)
              clear hg
              have hbs := HBw.out.size
              go_wp2_with (at_builtin; refine wpList_appI rfl (.tmp 61) (.tmp 66) rfl w.heap.size A2 n2 c2 _ rfl (HO2.out.alloc _) (some ⟨wr.heap.size, 0, none⟩) 1 1 (wr.heap.size + 1) [x] rfl rfl (HR1 _).out (by omega) (by simp; omega) ?_; intro A3 c3 w3 hO3 hg3 hB3 hor3)
              go_roundw
              case rel => exact ⟨m + 1, A3, _, c3, hlt, by go_num, rfl, by rw [HSA.out]; exact hO3, (HBw.out.alloc HBw.out.size _).trans hB3⟩
              case measure => simp [intOf]; omega
    · obtain rfl : k = n := by omega
      have HT := Lib.hid (show l.take k = l from List.take_of_length_le (by omega))
      have i1 : ¬ (k : Int) < (k : Int) := by omega
      go_wp2_with fail
      go_ret
      exact ⟨A2, n2, c2, rfl, by have := HO.out; rwa [HT.out] at this, HB.out⟩
end Go.Proofs.Ytemckkcbakccnaa
