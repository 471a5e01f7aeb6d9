/- slices.Clone, IndexFunc, ContainsFunc of numbers of 64 bits; Thin's own question. -/
import Derived.Test.YtemckkcbakccnaaNums
import Derived.Test.YtemckkcbakccnaaItemBox
namespace Go.Proofs.Ytemckkcbakccnaa
open Go.RowKit
set_option linter.unusedVariables false
theorem urow_none {w : World} {B : Nat} {l : List Nat} (h : Row w B none (l.map u64v)) : l = [] := by
  rcases l with _ | ⟨x, r⟩
  · rfl
  · obtain ⟨_, e, _⟩ := h 0 (u64v x) rfl
    cases e
set_option maxHeartbeats 400000 in
theorem clone_u (A : Option Addr) (n c : Nat) (l : List Nat) (w : World) (h : Ns w w.heap.size A n c l) (hn : n ≤ 1000000) :
    Calls Try.prog 26 #[.slice A n c] w fun e w' => ∃ A' n' c', e = .returned (.slice A' n' c') ∧ OwnU w' w.heap.size A' n' c' l ∧ Below w.heap.size w w' := by
  have hl := h.len
  have hm := h.le
  have hx := h.max
  unfold maxLen at hx
  rcases A with _ | ad
  · obtain rfl := urow_none h.row
    obtain rfl : n = 0 := by simpa using hl.symm
    clear h
    have hnil := fun W => Lib.run_eql_slice_nil (P := Try.prog) W 41 27 none 0 c 0 0 Try.underlying41
    go_enter Try.func26, Try.ntmps26
    go_wp2_with fail
    go_ret
    exact ⟨none, 0, 0, rfl, OwnU.nil _ _, Below.refl _ _⟩
  · have HR := Lib.hid h.row
    have HE := Lib.hid (OwnU.empty w w.heap.size (Nat.le_refl _))
    clear h
    have hnil := fun W => Lib.run_eql_slice_nil (P := Try.prog) W 41 27 (some ad) n c 0 0 Try.underlying41
    have hb0 : ∀ W : World, (Instr.buildSlice 41 0 #[]).run Try.prog W = .ok (.slice (some ⟨W.heap.size, 0, none⟩) 0 0) (W.alloc (.cells #[] 27)) := fun _ => by kernel_rfl
    go_enter Try.func26, Try.ntmps26
    go_wp2_with (at_builtin; refine wpList_appU rfl (.tmp 5) (.tmp 6) rfl w.heap.size _ 0 0 [] rfl HE.out (some ad) n c w.heap.size l rfl hl (HR.out.below ((Below.refl _ _).alloc (Nat.le_refl _) _)) (by omega) (by simp) ?_; intro A3 c3 w3 hO3 hg3 hB3)
    go_ret
    exact ⟨A3, _, c3, rfl, by simpa using hO3, ((Below.refl _ _).alloc (Nat.le_refl _) _).trans hB3⟩
/-- is a number at or above x's, and below the one that hides it? -/
def thinQ (x : It) (hidden : Bool) (next : Nat) (m : Nat) : Bool := decide (x.seq ≤ m) && (!hidden || decide (m < next))
set_option maxHeartbeats 400000 in
theorem thin_ask (x : It) (hidden : Bool) (next m bx bh bn : Nat) (w : World) (hbx : IBox w bx x) (hbh : w.cell? ⟨bh, 0, none⟩ = some (.bool hidden)) (hbn : w.cell? ⟨bn, 0, none⟩ = some (.int .u64 (next : Int))) :
    Calls Try.prog 28 #[.int .u64 (m : Int), .pointer (some ⟨bx, 0, none⟩), .pointer (some ⟨bh, 0, none⟩), .pointer (some ⟨bn, 0, none⟩)] w fun e w' => e = .returned (.bool (thinQ x hidden next m)) ∧ w = w' := by
  obtain ⟨q0, q1, q2, q3⟩ := range_cells hbx.range
  unfold thinQ
  by_cases h1 : x.seq ≤ m
  · have i1 : (x.seq : Int) ≤ (m : Int) := by omega
    rw [decide_eq_true h1]
    cases hidden
    · go_enter Try.func28, Try.ntmps28
      go_wp2_with fail
      go_ret
      exact ⟨rfl, rfl⟩
    · by_cases h2 : m < next
      · have i2 : (m : Int) < (next : Int) := by omega
        rw [decide_eq_true h2]
        go_enter Try.func28, Try.ntmps28
        go_wp2_with fail
        go_ret
        exact ⟨by simp, rfl⟩
      · have i2 : ¬ (m : Int) < (next : Int) := by omega
        rw [decide_eq_false h2]
        go_enter Try.func28, Try.ntmps28
        go_wp2_with fail
        go_ret
        exact ⟨by simp, rfl⟩
  · have i1 : ¬ (x.seq : Int) ≤ (m : Int) := by omega
    rw [decide_eq_false h1]
    go_enter Try.func28, Try.ntmps28
    go_wp2_with fail
    go_ret
    exact ⟨by simp, rfl⟩
theorem any_take_add {p : Nat → Bool} {l : List Nat} {k m : Nat} (hm : l[k]? = some m) : (l.take (k + 1)).any p = ((l.take k).any p || p m) := by
  rw [List.take_add_one, hm, List.any_append]
  simp
set_option maxRecDepth 100000 in
set_option maxHeartbeats 1000000 in
theorem index_u (A : Option Addr) (n c : Nat) (l : List Nat) (p : Nat → Bool) (x : It) (hidden : Bool) (next bx bh bn : Nat) (hp : ∀ m, p m = thinQ x hidden next m) (w : World) (h : Ns w w.heap.size A n c l) (hbx : IBox w bx x) (hbh : w.cell? ⟨bh, 0, none⟩ = some (.bool hidden)) (hbn : w.cell? ⟨bn, 0, none⟩ = some (.int .u64 (next : Int))) (hn : n ≤ 1000000) :
    Calls Try.prog 40 #[.slice A n c, .func (.func 28) #[] #[.pointer (some ⟨bx, 0, none⟩), .pointer (some ⟨bh, 0, none⟩), .pointer (some ⟨bn, 0, none⟩)]] w fun e w' => (∃ r : Int, e = .returned (.int .i64 r) ∧ decide (0 ≤ r) = l.any p) ∧ w = w' := by
  have hl := h.len
  have hm := h.le
  have hx := h.max
  unfold maxLen at hx
  have HI := Lib.hid h
  have HQ := Lib.hid (fun m => thin_ask x hidden next m bx bh bn w hbx hbh hbn)
  have HP := Lib.hid hp
  clear h hbx hbh hbn hp
  go_enter Try.func40, Try.ntmps40
  go_wp2_with fail
  go_loopw [8] (fun i wy => ∃ k : Nat, k ≤ n ∧ i = .int .i64 (k : Int) ∧ (l.take k).any p = false ∧ w = wy) (fun i _ => n - (intOf i).toNat)
  case atStart => exact ⟨0, Nat.zero_le _, rfl, by simp, rfl⟩
  case round =>
    obtain ⟨k, hk, rfl, ha, rfl⟩ := hrel
    have HA := Lib.hid ha
    clear ha
    have i0 : (0 : Int) ≤ (k : Int) := by omega
    by_cases hlt : k < n
    · obtain ⟨m, hm⟩ : ∃ y, l[k]? = some y := ⟨_, List.getElem?_eq_getElem (by omega)⟩
      obtain ⟨g1, o1, rfl, hb1, q1⟩ := HI.out.at hm
      have HT := Lib.hid (any_take_add (p := p) hm)
      have HM := Lib.hid (List.mem_of_getElem? hm)
      have HR := Lib.hid (HQ.out m)
      have i1 : (k : Int) < (n : Int) := by omega
      obtain ⟨b, hb⟩ : ∃ b, b = p m := ⟨_, rfl⟩
      rw [← HP.out m, ← hb] at HR
      rw [← hb, HA.out, Bool.false_or] at HT
      have HPm := Lib.hid hb
      clear hm hb1 hb
      cases b
      · go_wp2_with (go_at_call 28; ((with_reducible refine HR.out.mono ?_); rintro e w' ⟨rfl, rfl⟩))
        go_roundw
        case rel => exact ⟨k + 1, hlt, by go_num, HT.out, by trivial⟩
        case measure => simp [intOf]; omega
      · go_wp2_with (go_at_call 28; ((with_reducible refine HR.out.mono ?_); rintro e w' ⟨rfl, rfl⟩))
        go_ret
        exact ⟨⟨(k : Int), rfl, by rw [decide_eq_true i0]; exact (List.any_eq_true.2 ⟨m, HM.out, HPm.out.symm⟩).symm⟩, rfl⟩
    · obtain rfl : k = n := by omega
      have HT := Lib.hid (show l.take k = l from List.take_of_length_le (by omega))
      have i1 : ¬ (k : Int) < (k : Int) := by omega
      go_wp2_with fail
      go_ret
      exact ⟨⟨-1, rfl, by have := HA.out; rw [HT.out] at this; rw [this]; rfl⟩, rfl⟩
set_option maxHeartbeats 400000 in
theorem contains_u (A : Option Addr) (n c : Nat) (l : List Nat) (x : It) (hidden : Bool) (next bx bh bn : Nat) (w : World) (h : Ns w w.heap.size A n c l) (hbx : IBox w bx x) (hbh : w.cell? ⟨bh, 0, none⟩ = some (.bool hidden)) (hbn : w.cell? ⟨bn, 0, none⟩ = some (.int .u64 (next : Int))) (hn : n ≤ 1000000) :
    Calls Try.prog 27 #[.slice A n c, .func (.func 28) #[] #[.pointer (some ⟨bx, 0, none⟩), .pointer (some ⟨bh, 0, none⟩), .pointer (some ⟨bn, 0, none⟩)]] w fun e w' => e = .returned (.bool (l.any (thinQ x hidden next))) ∧ w = w' := by
  have HR := Lib.hid (index_u A n c l (thinQ x hidden next) x hidden next bx bh bn (fun _ => rfl) w h hbx hbh hbn hn)
  clear h hbx hbh hbn
  obtain ⟨b, hb⟩ : ∃ b, b = l.any (thinQ x hidden next) := ⟨_, rfl⟩
  rw [← hb] at HR ⊢
  clear hb
  go_enter Try.func27, Try.ntmps27
  go_wp2_with (go_at_call 40; ((with_reducible refine HR.out.mono ?_); rintro e w' ⟨⟨r, rfl, hr⟩, rfl⟩))
  go_ret
  exact ⟨by simp [← hr], rfl⟩
end Go.Proofs.Ytemckkcbakccnaa
