/- The walks of merge.Merge and merge.Walk. -/
import Derived.Test.YtemckkcbakccnaaItemCptW
import Derived.Test.YtemckkcbakccnaaItemBack
import Derived.Test.YtemckkcbakccnaaMrgSorted
import Derived.Test.YtemckkcbakccnaaSymStable
namespace Go.Proofs.Ytemckkcbakccnaa
open Go.RowKit
set_option linter.unusedVariables false
open SrtP
namespace MrgP
def mergeL (ll : List (List It)) : List It := if ll.all ItP.srt = true then compactP (isort ll.flatten) else []
def mergeE (ll : List (List It)) : Int := if ll.all ItP.srt = true then 0 else 15
end MrgP
theorem all_take_add {ll : List (List It)} {k : Nat} {l : List It} (hl : ll[k]? = some l) : (ll.take (k + 1)).all ItP.srt = ((ll.take k).all ItP.srt && ItP.srt l) := by
  rw [List.take_add_one, hl, List.all_append]
  simp
theorem all_not {ll : List (List It)} {k : Nat} (h : (ll.take k).all ItP.srt = false) : ll.all ItP.srt = false := by
  rw [← List.take_append_drop k ll, List.all_append, h, Bool.false_and]
theorem len_flat {ll : List (List It)} {l : List It} (h : l ∈ ll) : l.length ≤ ll.flatten.length := by
  induction ll with
  | nil => cases h
  | cons a r ih =>
    rw [List.flatten_cons, List.length_append]
    rcases List.mem_cons.1 h with rfl | h
    · omega
    · have := ih h; omega
set_option maxRecDepth 100000 in
set_option maxHeartbeats 2000000 in
theorem mrg_merge (A : Option Addr) (n c : Nat) (ll : List (List It)) (w : World) (hr : LRowI w w.heap.size A ll) (hn : ll.length = n) (hm : n ≤ 1000000) (hz : ll.flatten.length ≤ 1000000) :
    Calls Try.prog 10 #[.slice A n c] w fun e w' => ∃ A' n' c', e = .returned (.tuple #[.slice A' n' c', .int .i64 (MrgP.mergeE ll)]) ∧ OwnI w' w.heap.size A' n' c' (MrgP.mergeL ll) ∧ Below w.heap.size w w' := by
  have HR := Lib.hid hr
  have HCc : Hid (∀ W, Grew w W → Calls Try.prog 21 #[.slice A n c] W fun e w' => ∃ A' n' c', e = .returned (.slice A' n' c') ∧ OwnI w' W.heap.size A' n' c' ll.flatten ∧ Grew W w') := Lib.hid fun W hW => concatI A n c w.heap.size ll W hn (by unfold maxLen; omega) (hr.below hW) hW.size (by omega)
  clear hr
  go_enter Try.func10, Try.ntmps10
  go_wp2_with fail
  go_loopw [9] (fun i wy => ∃ k : Nat, k ≤ n ∧ i = .int .i64 (k : Int) ∧ (ll.take k).all ItP.srt = true ∧ Grew w wy) (fun i _ => n - (intOf i).toNat)
  case atStart => exact ⟨0, Nat.zero_le _, rfl, by simp, Grew.refl _⟩
  case round =>
    obtain ⟨k, hk, rfl, hs, hG⟩ := hrel
    have HS := Lib.hid hs
    have HG := Lib.hid hG
    clear hs hG
    have i0 : (0 : Int) ≤ (k : Int) := by omega
    by_cases hlt : k < n
    · obtain ⟨l, hl⟩ : ∃ l, ll[k]? = some l := ⟨_, List.getElem?_eq_getElem (by omega)⟩
      obtain ⟨ad, A', c', rfl, hab, hc, hIs⟩ := (HR.out.below HG.out) k l hl
      have HA := Lib.hid (all_take_add hl)
      have hln : l.length ≤ 1000000 := Nat.le_trans (len_flat (List.mem_of_getElem? hl)) hz
      obtain ⟨b, hb⟩ : ∃ b, b = ItP.srt l := ⟨_, rfl⟩
      have HSr : Hid (Calls Try.prog 20 #[.slice A' l.length c'] wr fun e w' => e = .returned (.bool b) ∧ Grew wr w') := Lib.hid (by rw [hb]; exact mrg_sorted A' l.length c' l wr (hIs.more HG.out.size) (by omega))
      rw [← hb, HS.out, Bool.true_and] at HA
      have i1 : (k : Int) < (n : Int) := by omega
      clear hl hIs hab hb
      cases b
      · have HF := Lib.hid (all_not HA.out)
        go_wp2_with (go_at_call 20; ((with_reducible refine HSr.out.mono ?_); rintro e w2 ⟨rfl, hG⟩; have HG2 := Lib.hid hG; clear hG))
        go_ret2
        exact ⟨none, 0, 0, by unfold MrgP.mergeE; rw [HF.out]; rfl, by unfold MrgP.mergeL; rw [HF.out]; exact OwnI.nil _ _, HG.out.trans HG2.out⟩
      · go_wp2_with (go_at_call 20; ((with_reducible refine HSr.out.mono ?_); rintro e w2 ⟨rfl, hG⟩; have HG2 := Lib.hid hG; clear hG))
        go_roundw
        case rel => exact ⟨k + 1, hlt, by go_num, HA.out, HG.out.trans HG2.out⟩
        case measure => simp [intOf]; omega
    · obtain rfl : k = n := by omega
      have HT := Lib.hid (show ll.all ItP.srt = true by have := HS.out; rwa [List.take_of_length_le (by omega)] at this)
      have i1 : ¬ (k : Int) < (k : Int) := by omega
      go_wp2_with (first
        | (go_at_call 21; ((with_reducible refine (HCc.out _ HG.out).mono ?_); rintro e w2 ⟨A2, n2, c2, rfl, hO, hG⟩; have HO2 := Lib.hid hO; have HG2 := Lib.hid hG; have hn2 : n2 ≤ 1000000 := (by have := hO.len; omega); clear hO hG))
        | (go_at_call 22; ((refine (sort_items A2 n2 c2 _ _ w2 HO2.out hn2).mono ?_); rintro e w3 ⟨⟨v, rfl⟩, hO, hG⟩; have HO3 := Lib.hid hO; have HG3 := Lib.hid hG; clear hO hG))
        | (go_at_call 24; ((refine (compact_items A2 n2 c2 _ _ w3 HO3.out (by omega)).mono ?_); rintro e w4 ⟨m, rfl, hO, hG⟩; have HO4 := Lib.hid hO; have HG4 := Lib.hid hG; clear hO hG)))
      go_ret2
      have hge : ∀ g, blk A2 = some g → wr.heap.size ≤ g := fun g e => (Own.lt HO2.out g e).1
      refine ⟨A2, m, c2, by unfold MrgP.mergeE; rw [HT.out]; rfl, by unfold MrgP.mergeL; rw [HT.out, if_pos rfl]; exact Own.lower HO4.out HG.out.size, ?_⟩
      have hB2 : Below w.heap.size w w2 := HG.out.trans HG2.out
      exact hB2.grown (HG3.out.trans HG4.out) hB2.size (fun g e => Nat.le_trans HG.out.size (hge g e))
set_option maxRecDepth 100000 in
set_option maxHeartbeats 1000000 in
theorem mrg_walk (A : Option Addr) (n c : Nat) (ll : List (List It)) (w : World) (hr : LRowI w w.heap.size A ll) (hn : ll.length = n) (hm : n ≤ 1000000) (hz : ll.flatten.length ≤ 1000000) :
    Calls Try.prog 15 #[.slice A n c] w fun e w' => ∃ bs A' n' c', e = .returned (.func (.func 42) #[] #[.pointer (some ⟨bs, 0, none⟩)]) ∧ w.heap.size ≤ bs ∧ Boxed w' bs 23 (.slice A' n' c') ∧ OwnI w' w.heap.size A' n' c' (MrgP.mergeL ll) ∧ Below w.heap.size w w' := by
  have HM := Lib.hid (mrg_merge A n c ll w hr hn hm hz)
  clear hr
  go_enter Try.func15, Try.ntmps15
  go_wp2_with (first
    | (go_at_call 10; ((with_reducible refine HM.out.mono ?_); rintro e w2 ⟨A2, n2, c2, rfl, hO, hG⟩; have HO2 := Lib.hid hO; have HB2 := Lib.hid hG; clear hO hG))
    | (go_at_call 32; ((refine (values_items A2 n2 c2 w2).mono ?_); rintro e w3 ⟨rfl, hBx, hG⟩; have HBx := Lib.hid hBx; have HG3 := Lib.hid hG; clear hBx hG)))
  go_ret
  exact ⟨w2.heap.size, A2, n2, c2, rfl, HB2.out.size, HBx.out, HO2.out.below_all HG3.out, HB2.out.trans (Below.mono HG3.out HB2.out.size)⟩
end Go.Proofs.Ytemckkcbakccnaa
