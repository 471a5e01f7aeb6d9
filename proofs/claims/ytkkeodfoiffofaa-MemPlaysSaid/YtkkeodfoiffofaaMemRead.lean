/- The walks of mem's New, Len, Bytes, from, Get. -/
import Derived.Test.YtkkeodfoiffofaaMemPut
namespace Go.Proofs.Ytkkeodfoiffofaa
open Go.RowKit
set_option linter.unusedVariables false
open MemP
/-- what New leaves -/
def NewPost (w : World) (e : Ending) (w' : World) : Prop := ∃ hd : Nd, e = .returned (.pointer (some ⟨hd.b, 0, none⟩)) ∧ MemI w' w.heap.size hd [] ∧ Grew w w'
set_option maxRecDepth 100000 in
set_option maxHeartbeats 1000000 in
theorem mem_new (w : World) : Calls Try.prog 14 #[] w (NewPost w) := by
  have hmk : ∀ W : World, (Instr.makeSlice 68 (.int .i64 12) (.int .i64 12)).run Try.prog W = .ok (.slice (some ⟨W.heap.size, 0, none⟩) 12 12) (W.alloc (.cells (Array.replicate 12 (.pointer none)) 73)) := fun W => run_makeP 12 (by omega) W
  have hb1 : ∀ (A : Option Addr) (n c : Nat) (W : World), (Instr.build 70 #[(1, .slice A n c)]).run Try.prog W = .ok (.agg #[.string ⟨#[]⟩, .int .u64 0, .bool false, .string ⟨#[]⟩, .slice A n c]) W := fun A n c W => by kernel_rfl
  have hb2 : ∀ (A : Option Addr) (n c : Nat) (W : World), (Instr.build 72 #[(0, .agg #[.string ⟨#[]⟩, .int .u64 0, .bool false, .string ⟨#[]⟩, .slice A n c])]).run Try.prog W = .ok (.agg #[.string ⟨#[]⟩, .int .u64 0, .bool false, .string ⟨#[]⟩, .slice A n c, .int .i64 0, .int .i64 0]) W := fun A n c W => by kernel_rfl
  go_enter Try.func14, Try.ntmps14
  go_wp2_with fail
  go_ret
  obtain ⟨w2, hw2⟩ : ∃ v, v = (w.alloc (.cells (Array.replicate 12 (.pointer none)) 73)).alloc (.cells #[.string ⟨#[]⟩, .int .u64 0, .bool false, .string ⟨#[]⟩, .slice (some ⟨w.heap.size, 0, none⟩) 12 12, .int .i64 0, .int .i64 0] 72) := ⟨_, rfl⟩
  have h1 : w2.heap[w.heap.size + 1]? = some (.cells #[.string ⟨#[]⟩, .int .u64 0, .bool false, .string ⟨#[]⟩, .slice (some ⟨w.heap.size, 0, none⟩) 12 12, .int .i64 0, .int .i64 0] 72 (0, 0)) := by
    rw [hw2]
    have := heap_alloc_new (w.alloc (.cells (Array.replicate 12 (.pointer none)) 73)) (.cells #[.string ⟨#[]⟩, .int .u64 0, .bool false, .string ⟨#[]⟩, .slice (some ⟨w.heap.size, 0, none⟩) 12 12, .int .i64 0, .int .i64 0] 72)
    simpa using this
  have h2 : w2.heap[w.heap.size]? = some (.cells (Array.replicate 12 (.pointer none)) 73 (0, 0)) := by
    rw [hw2, Below.heap_alloc _ _ _ (by simp)]
    exact heap_alloc_new w _
  refine ⟨⟨w.heap.size + 1, w.heap.size, 12, 12, ItP.none0⟩, rfl, ?_, ((Below.refl _ w).alloc (Nat.le_refl _) _).alloc (by simp) _⟩
  change MemI (World.alloc (World.alloc w _) _) _ _ _
  rw [← hw2]
  refine ⟨⟨fun q hq => ?_, fun A q R e => ?_, by simp, fun q hq => ?_, by simp⟩, rfl, rfl, by simp [SrtN, ItP.Srt], (fun q hq => by cases hq), ⟨?_, frozen_blk h1 5⟩, ⟨?_, frozen_blk h1 6⟩⟩
  · obtain rfl : q = _ := by simpa using hq
    refine ⟨_, _, h1, .inr rfl, fun j v hj => ?_⟩
    have hl := (List.getElem?_eq_some_iff.1 hj).1
    simp [itv] at hl
    rw [← Array.getElem?_toList]
    have : (#[Value.string ⟨#[]⟩, .int .u64 0, .bool false, .string ⟨#[]⟩, .slice (some ⟨w.heap.size, 0, none⟩) 12 12, .int .i64 0, .int .i64 0] : Array Value).toList = (itv ItP.none0 ++ [.slice (some ⟨w.heap.size, 0, none⟩) 12 12]) ++ [.int .i64 0, .int .i64 0] := rfl
    rw [this, List.getElem?_append_left (by simp [itv]; omega)]
    exact hj
  · cases A with
    | nil =>
      simp only [List.nil_append, List.cons.injEq] at e
      obtain ⟨rfl, rfl⟩ := e
      exact ⟨_, h2, by simp, Nat.le_refl _, fun i hi => by rw [nxt_nil]; simp at hi; simp [hi]⟩
    | cons a A => simp at e
  · obtain rfl : q = _ := by simpa using hq
    exact ⟨by show w.heap.size ≤ w.heap.size + 1; omega, Nat.le_refl _⟩
  · rw [cell_blk h1]; rfl
  · rw [cell_blk h1]; rfl
set_option maxHeartbeats 400000 in
theorem mem_len (B : Nat) (hd : Nd) (ns : List Nd) (w : World) (hM : MemI w B hd ns) : Calls Try.prog 21 #[.pointer (some ⟨hd.b, 0, none⟩)] w fun e w' => e = .returned (.int .i64 (ns.length : Int)) ∧ w = w' := by
  have q := hM.len.1
  clear hM
  go_enter Try.func21, Try.ntmps21
  go_wp2_with fail
  go_ret
  exact ⟨rfl, rfl⟩
set_option maxHeartbeats 400000 in
theorem mem_bytes (B : Nat) (hd : Nd) (ns : List Nd) (w : World) (hM : MemI w B hd ns) : Calls Try.prog 22 #[.pointer (some ⟨hd.b, 0, none⟩)] w fun e w' => e = .returned (.int .i64 (costs (ns.map (·.x)) : Int)) ∧ w = w' := by
  have q := hM.bytes.1
  obtain ⟨C, hC⟩ : ∃ C, C = costs (ns.map (·.x)) := ⟨_, rfl⟩
  rw [← hC] at q ⊢
  clear hM hC
  go_enter Try.func22, Try.ntmps22
  go_wp2_with fail
  go_ret
  exact ⟨rfl, rfl⟩
/-- the nodes from x's place on -/
def tailN (ns : List Nd) (x : It) : List Nd := ns.drop (ItP.at_ x (ns.map (·.x)))
theorem isAgg_ptr : ∀ W : World, (isAgg 73).run Try.prog W = .ok false W := fun W => by kernel_rfl
/-- the first node from a place on, as the search has left it -/
theorem first_of {w1 : World} {B : Nat} {hd : Nd} {P S : List Nd} {x : It} {arr : List Value} (hM1 : MemI w1 B hd (P ++ S)) (hP : ∀ q ∈ P, ItP.ahead q.x x = true) (hS : ∀ q ∈ S, ItP.ahead q.x x = false) (hV : AheadV (hd :: (P ++ S)) x arr) :
    ∃ nd0 : Nd, arr[0]? = some (.pointer (some ⟨nd0.b, 0, none⟩)) ∧ w1.cell? ⟨nd0.b, 4, none⟩ = some (.slice (some ⟨nd0.r, 0, none⟩) nd0.s nd0.s) ∧ w1.cell? ⟨nd0.r, 0, none⟩ = some (.pointer (nxt S 0)) ∧ 0 < nd0.s := by
  obtain ⟨nd0, ha0, hl0⟩ := hV.2 0 (by omega)
  obtain ⟨A0, A20, k1, k2, k3, k4⟩ := last_in hP hS hl0
  have hrow0 := hM1.lst.row A0 nd0 (A20 ++ S) k4
  have q1 := (hrow0.cell k2).1
  rw [nxt_past k3] at q1
  refine ⟨nd0, ha0, ((hM1.lst.node nd0 (by rw [k4]; simp)).cells).2, q1, ?_⟩
  obtain ⟨_, _, _, h3, _⟩ := hrow0
  omega
theorem index12 (arr : List Value) (v : Value) (h : arr[0]? = some v) (W : World) : (Instr.index 74 (.agg arr.toArray) (.int .i64 0)).run Try.prog W = .ok v W :=
  run_index_array (P := Try.prog) 74 73 12 arr.toArray .i64 0 v Try.underlying74 (by kernel_rfl) isAgg_ptr (by omega) (by simpa using h) W
set_option maxRecDepth 100000 in
set_option maxHeartbeats 1000000 in
theorem mem_from (B : Nat) (hd : Nd) (ns : List Nd) (key : List UInt8) (q : Nat) (w : World) (hM : MemI w B hd ns) :
    Calls Try.prog 46 #[.pointer (some ⟨hd.b, 0, none⟩), sv key, .int .u64 (q : Int)] w fun e w' => e = .returned (.pointer (nxt (tailN ns ⟨key, q, false, []⟩) 0)) ∧ Grew w w' := by
  obtain ⟨P, S, hPS, hPl, hP, hS⟩ := parts hM.srt ⟨key, q, false, []⟩
  have HTN := Lib.hid (show tailN ns ⟨key, q, false, []⟩ = S by unfold tailN; rw [← hPl, hPS]; simp)
  obtain ⟨v0, hv0⟩ : ∃ v, v = nxt S 0 := ⟨_, rfl⟩
  rw [HTN.out, ← hv0]
  subst hPS
  have HM := Lib.hid hM
  have HP := Lib.hid hP
  have HS := Lib.hid hS
  have HV0 := Lib.hid hv0
  have HAh : Hid (Calls Try.prog 42 #[.pointer (some ⟨hd.b, 0, none⟩), iv ⟨key, q, false, []⟩] w fun e w' => ∃ arr, e = .returned (.agg arr.toArray) ∧ AheadV (hd :: (P ++ S)) ⟨key, q, false, []⟩ arr ∧ Grew w w') := Lib.hid
    (mem_ahead B hd (P ++ S) _ w hM.lst hM.hh hM.srt (fun q hq => by
      rcases List.mem_cons.1 hq with rfl | hq
      · rw [hM.hs]; omega
      · exact (hM.hts q hq).2.2))
  clear hM hP hS hv0 hPl
  have hbi : ∀ W : World, (Instr.build 29 #[(0, sv key), (1, .int .u64 (q : Int))]).run Try.prog W = .ok (iv ⟨key, q, false, []⟩) W := fun W => by kernel_rfl
  go_enter Try.func46, Try.ntmps46
  go_upto_region 1 with fail
  go_wp2_with (go_at_call 42; refine HAh.out.mono ?_; rintro e w1 ⟨arr, rfl, hV, hG⟩; have HG := Lib.hid hG; obtain ⟨nd0, q0, q2, q1, q4⟩ := first_of (HM.out.grew hG) HP.out HS.out hV; rw [← HV0.out] at q1; have q5 := fun W => index12 arr _ q0 W; clear hV hG q0)
  go_ret
  exact ⟨rfl, HG.out⟩
end Go.Proofs.Ytkkeodfoiffofaa
