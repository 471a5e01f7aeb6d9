/- The walk of rolodexref8.From. -/
import Derived.Test.YtkkeodfoiffofaaItemSl
namespace Go.Proofs.Ytkkeodfoiffofaa
open Go.RowKit
set_option linter.unusedVariables false
theorem from_add {l : List It} {k : Nat} {y : It} (hy : l[k]? = some y) (key : List UInt8) : ItP.from_ (l.take (k + 1)) key = ItP.from_ (l.take k) key ++ (if Op.bytesLess y.key key = true then [] else [y]) := by
  unfold ItP.from_
  rw [List.take_add_one, hy, List.filter_append]
  congr 1
  by_cases h : Op.bytesLess y.key key = true <;> simp [ItP.lessK, h]
theorem from_le (l : List It) (key : List UInt8) : (ItP.from_ l key).length ≤ l.length := List.length_filter_le _ _
set_option maxRecDepth 100000 in
set_option maxHeartbeats 2000000 in
theorem ref_from (A : Option Addr) (n c : Nat) (l : List It) (key : List UInt8) (w : World) (h : Is w w.heap.size A n c l) (hn : n ≤ 1000000) :
    Calls Try.prog 26 #[.slice A n c, sv key] w fun e w' => ∃ A' n' c', e = .returned (.slice A' n' c') ∧ OwnI w' w.heap.size A' n' c' (ItP.from_ l key) ∧ Below w.heap.size w w' := by
  have hl := h.len
  have hm := h.le
  have hx := h.max
  unfold maxLen at hx
  have HI := Lib.hid h
  have HE := Lib.hid (OwnI.empty w w.heap.size (Nat.le_refl _))
  clear h
  have hmk : ∀ W : World, (Instr.makeSlice 32 (.int .i64 0) (.int .i64 0)).run Try.prog W = .ok (.slice (some ⟨W.heap.size, 0, none⟩) 0 0) (W.alloc (.cells #[] 29)) := fun _ => by kernel_rfl
  go_enter Try.func26, Try.ntmps26
  go_wp2_with fail
  go_loopw [5, 6] (fun o i wy => ∃ (k : Nat) (A2 : Option Addr) (n2 c2 : Nat), k ≤ n ∧ i = .int .i64 (k : Int) ∧ o = .slice A2 n2 c2 ∧ OwnI wy w.heap.size A2 n2 c2 (ItP.from_ (l.take k) key) ∧ Below w.heap.size w wy) (fun _ i _ => n - (intOf i).toNat)
  case atStart => exact ⟨0, some ⟨w.heap.size, 0, none⟩, 0, 0, Nat.zero_le _, rfl, rfl, HE.out, (Below.refl _ _).alloc (Nat.le_refl _) _⟩
  case round =>
    obtain ⟨k, A2, n2, c2, hk, rfl, rfl, hO, hB⟩ := hrel
    have HO := Lib.hid hO
    have HB := Lib.hid hB
    have hn2 := from_le (l.take k) key
    rw [hO.len, List.length_take] at hn2
    clear hO hB
    have i0 : (0 : Int) ≤ (k : Int) := by omega
    by_cases hlt : k < n
    · obtain ⟨y, hy⟩ : ∃ y, l[k]? = some y := ⟨_, List.getElem?_eq_getElem (by omega)⟩
      obtain ⟨g1, o1, rfl, hb1, hr1⟩ := HI.out.at hy
      obtain ⟨q0, q1, q2, q3⟩ := range_cells (range_below hr1 HB.out hb1)
      have HA := Lib.hid (from_add hy key)
      have i1 : (k : Int) < (n : Int) := by omega
      clear hr1 hy
      by_cases ha : Op.bytesLess y.key key = true
      · have HA := Lib.hid (show ItP.from_ (l.take (k + 1)) key = ItP.from_ (l.take k) key by rw [HA.out, if_pos ha, List.append_nil])
        go_wp2_with fail
        go_roundw
        case rel => exact ⟨k + 1, A2, n2, c2, hlt, by go_num, rfl, by rw [HA.out]; exact HO.out, HB.out⟩
        case measure => simp [intOf]; omega
      · have ha : Op.bytesLess y.key key = false := by simpa using ha
        have HA := Lib.hid (show ItP.from_ (l.take (k + 1)) key = ItP.from_ (l.take k) key ++ [y] by rw [HA.out, if_neg (by rw [ha]; decide)])
        have hBs := HB.out.size
        go_wp2_with (at_builtin; refine wpList_appI rfl (.tmp 21) (.tmp 26) rfl w.heap.size A2 n2 c2 _ rfl (HO.out.alloc _) (some ⟨wr.heap.size, 0, none⟩) 1 1 (wr.heap.size + 1) [y] rfl rfl (IRow.one wr y _ _) (by omega) (by simp; omega) ?_; intro A3 c3 w3 hO3 hg3 hB3 hor3)
        go_roundw
        case rel => exact ⟨k + 1, A3, _, c3, hlt, by go_num, rfl, by rw [HA.out]; exact hO3, (HB.out.alloc HB.out.size _).trans hB3⟩
        case measure => simp [intOf]; omega
    · obtain rfl : k = n := by omega
      have HT := Lib.hid (show l.take k = l from List.take_of_length_le (by omega))
      have i1 : ¬ (k : Int) < (k : Int) := by omega
      go_wp2_with fail
      go_ret
      exact ⟨A2, n2, c2, rfl, by have := HO.out; rwa [HT.out] at this, HB.out⟩
end Go.Proofs.Ytkkeodfoiffofaa
