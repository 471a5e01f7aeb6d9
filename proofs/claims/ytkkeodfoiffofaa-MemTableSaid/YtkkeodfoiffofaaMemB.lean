/- The walks of mem's New, Len, Bytes, from, Get. -/
import Derived.Test.YtkkeodfoiffofaaMemPut
import Derived.Test.YtkkeodfoiffofaaRefGet
import Derived.Test.YtkkeodfoiffofaaRange
import Derived.Test.YtkkeodfoiffofaaItemBox
import Derived.Test.YtkkeodfoiffofaaRangeI
namespace Go.Proofs.Ytkkeodfoiffofaa
open Go.RowKit
set_option linter.unusedVariables false
open MemP
/-- what New leaves -/
def NewPost (w : World) (e : Ending) (w' : World) : Prop := ∃ hd : Nd, e = .returned (.pointer (some ⟨hd.b, 0, none⟩)) ∧ MemI w' w.heap.size hd [] ∧ Grew w w'
set_option maxRecDepth 100000 in
set_option maxHeartbeats 1000000 in
theorem mem_new (w : World) : Calls Try.prog 14 #[] w (NewPost w) := by
  have hmk : ∀ W : World, (Instr.makeSlice 68 (.int .i64 12) (.int .i64 12)).run Try.prog W = .ok (.slice (some ⟨W.heap.size, 0, none⟩) 12 12) (W.alloc (.cells (Array.replicate 12 (.pointer none)) 73)) := fun W => run_makeP 12 (by omega) W
  have hb1 : ∀ (A : Option Addr) (n c : Nat) (W : World), (Instr.build 70 #[(1, .slice A n c)]).run Try.prog W = .ok (.agg #[.string ⟨#[]⟩, .int .u64 0, .bool false, .string ⟨#[]⟩, .slice A n c]) W := fun A n c W => by kernel_rfl
  have hb2 : ∀ (A : Option Addr) (n c : Nat) (W : World), (Instr.build 72 #[(0, .agg #[.string ⟨#[]⟩, .int .u64 0, .bool false, .string ⟨#[]⟩, .slice A n c])]).run Try.prog W = .ok (.agg #[.string ⟨#[]⟩, .int .u64 0, .bool false, .string ⟨#[]⟩, .slice A n c, .int .i64 0, .int .i64 0]) W := fun A n c W => by kernel_rfl
  go_enter Try.func14, Try.ntmps14
  go_wp2_with fail
  go_ret
  obtain ⟨w2, hw2⟩ : ∃ v, v = (w.alloc (.cells (Array.replicate 12 (.pointer none)) 73)).alloc (.cells #[.string ⟨#[]⟩, .int .u64 0, .bool false, .string ⟨#[]⟩, .slice (some ⟨w.heap.size, 0, none⟩) 12 12, .int .i64 0, .int .i64 0] 72) := ⟨_, rfl⟩
  have h1 : w2.heap[w.heap.size + 1]? = some (.cells #[.string ⟨#[]⟩, .int .u64 0, .bool false, .string ⟨#[]⟩, .slice (some ⟨w.heap.size, 0, none⟩) 12 12, .int .i64 0, .int .i64 0] 72 (0, 0)) := by
    rw [hw2]
    have := heap_alloc_new (w.alloc (.cells (Array.replicate 12 (.pointer none)) 73)) (.cells #[.string ⟨#[]⟩, .int .u64 0, .bool false, .string ⟨#[]⟩, .slice (some ⟨w.heap.size, 0, none⟩) 12 12, .int .i64 0, .int .i64 0] 72)
    simpa using this
  have h2 : w2.heap[w.heap.size]? = some (.cells (Array.replicate 12 (.pointer none)) 73 (0, 0)) := by
    rw [hw2, Below.heap_alloc _ _ _ (by simp)]
    exact heap_alloc_new w _
  refine ⟨⟨w.heap.size + 1, w.heap.size, 12, 12, ItP.none0⟩, rfl, ?_, ((Below.refl _ w).alloc (Nat.le_refl _) _).alloc (by simp) _⟩
  change MemI (World.alloc (World.alloc w _) _) _ _ _
  rw [← hw2]
  refine ⟨⟨fun q hq => ?_, fun A q R e => ?_, by simp, fun q hq => ?_, by simp⟩, rfl, rfl, by simp [SrtN, ItP.Srt], (fun q hq => by cases hq), ⟨?_, frozen_blk h1 5⟩, ⟨?_, frozen_blk h1 6⟩⟩
  · obtain rfl : q = _ := by simpa using hq
    refine ⟨_, _, h1, .inr rfl, fun j v hj => ?_⟩
    have hl := (List.getElem?_eq_some_iff.1 hj).1
    simp [itv] at hl
    rw [← Array.getElem?_toList]
    have : (#[Value.string ⟨#[]⟩, .int .u64 0, .bool false, .string ⟨#[]⟩, .slice (some ⟨w.heap.size, 0, none⟩) 12 12, .int .i64 0, .int .i64 0] : Array Value).toList = (itv ItP.none0 ++ [.slice (some ⟨w.heap.size, 0, none⟩) 12 12]) ++ [.int .i64 0, .int .i64 0] := rfl
    rw [this, List.getElem?_append_left (by simp [itv]; omega)]
    exact hj
  · cases A with
    | nil =>
      simp only [List.nil_append, List.cons.injEq] at e
      obtain ⟨rfl, rfl⟩ := e
      exact ⟨_, h2, by simp, Nat.le_refl _, fun i hi => by rw [nxt_nil]; simp at hi; simp [hi]⟩
    | cons a A => simp at e
  · obtain rfl : q = _ := by simpa using hq
    exact ⟨by show w.heap.size ≤ w.heap.size + 1; omega, Nat.le_refl _⟩
  · rw [cell_blk h1]; rfl
  · rw [cell_blk h1]; rfl
set_option maxHeartbeats 400000 in
theorem mem_len (B : Nat) (hd : Nd) (ns : List Nd) (w : World) (hM : MemI w B hd ns) : Calls Try.prog 21 #[.pointer (some ⟨hd.b, 0, none⟩)] w fun e w' => e = .returned (.int .i64 (ns.length : Int)) ∧ w = w' := by
  have q := hM.len.1
  clear hM
  go_enter Try.func21, Try.ntmps21
  go_wp2_with fail
  go_ret
  exact ⟨rfl, rfl⟩
set_option maxHeartbeats 400000 in
theorem mem_bytes (B : Nat) (hd : Nd) (ns : List Nd) (w : World) (hM : MemI w B hd ns) : Calls Try.prog 22 #[.pointer (some ⟨hd.b, 0, none⟩)] w fun e w' => e = .returned (.int .i64 (costs (ns.map (·.x)) : Int)) ∧ w = w' := by
  have q := hM.bytes.1
  obtain ⟨C, hC⟩ : ∃ C, C = costs (ns.map (·.x)) := ⟨_, rfl⟩
  rw [← hC] at q ⊢
  clear hM hC
  go_enter Try.func22, Try.ntmps22
  go_wp2_with fail
  go_ret
  exact ⟨rfl, rfl⟩
/-- the nodes from x's place on -/
def tailN (ns : List Nd) (x : It) : List Nd := ns.drop (ItP.at_ x (ns.map (·.x)))
theorem isAgg_ptr : ∀ W : World, (isAgg 73).run Try.prog W = .ok false W := fun W => by kernel_rfl
/-- the first node from a place on, as the search has left it -/
theorem first_of {w1 : World} {B : Nat} {hd : Nd} {P S : List Nd} {x : It} {arr : List Value} (hM1 : MemI w1 B hd (P ++ S)) (hP : ∀ q ∈ P, ItP.ahead q.x x = true) (hS : ∀ q ∈ S, ItP.ahead q.x x = false) (hV : AheadV (hd :: (P ++ S)) x arr) :
    ∃ nd0 : Nd, arr[0]? = some (.pointer (some ⟨nd0.b, 0, none⟩)) ∧ w1.cell? ⟨nd0.b, 4, none⟩ = some (.slice (some ⟨nd0.r, 0, none⟩) nd0.s nd0.s) ∧ w1.cell? ⟨nd0.r, 0, none⟩ = some (.pointer (nxt S 0)) ∧ 0 < nd0.s := by
  obtain ⟨nd0, ha0, hl0⟩ := hV.2 0 (by omega)
  obtain ⟨A0, A20, k1, k2, k3, k4⟩ := last_in hP hS hl0
  have hrow0 := hM1.lst.row A0 nd0 (A20 ++ S) k4
  have q1 := (hrow0.cell k2).1
  rw [nxt_past k3] at q1
  refine ⟨nd0, ha0, ((hM1.lst.node nd0 (by rw [k4]; simp)).cells).2, q1, ?_⟩
  obtain ⟨_, _, _, h3, _⟩ := hrow0
  omega
theorem index12 (arr : List Value) (v : Value) (h : arr[0]? = some v) (W : World) : (Instr.index 74 (.agg arr.toArray) (.int .i64 0)).run Try.prog W = .ok v W :=
  run_index_array (P := Try.prog) 74 73 12 arr.toArray .i64 0 v Try.underlying74 (by kernel_rfl) isAgg_ptr (by omega) (by simpa using h) W
set_option maxRecDepth 100000 in
set_option maxHeartbeats 1000000 in
theorem mem_from (B : Nat) (hd : Nd) (ns : List Nd) (key : List UInt8) (q : Nat) (w : World) (hM : MemI w B hd ns) :
    Calls Try.prog 46 #[.pointer (some ⟨hd.b, 0, none⟩), sv key, .int .u64 (q : Int)] w fun e w' => e = .returned (.pointer (nxt (tailN ns ⟨key, q, false, []⟩) 0)) ∧ Grew w w' := by
  obtain ⟨P, S, hPS, hPl, hP, hS⟩ := parts hM.srt ⟨key, q, false, []⟩
  have HTN := Lib.hid (show tailN ns ⟨key, q, false, []⟩ = S by unfold tailN; rw [← hPl, hPS]; simp)
  obtain ⟨v0, hv0⟩ : ∃ v, v = nxt S 0 := ⟨_, rfl⟩
  rw [HTN.out, ← hv0]
  subst hPS
  have HM := Lib.hid hM
  have HP := Lib.hid hP
  have HS := Lib.hid hS
  have HV0 := Lib.hid hv0
  have HAh : Hid (Calls Try.prog 42 #[.pointer (some ⟨hd.b, 0, none⟩), iv ⟨key, q, false, []⟩] w fun e w' => ∃ arr, e = .returned (.agg arr.toArray) ∧ AheadV (hd :: (P ++ S)) ⟨key, q, false, []⟩ arr ∧ Grew w w') := Lib.hid
    (mem_ahead B hd (P ++ S) _ w hM.lst hM.hh hM.srt (fun q hq => by
      rcases List.mem_cons.1 hq with rfl | hq
      · rw [hM.hs]; omega
      · exact (hM.hts q hq).2.2))
  clear hM hP hS hv0 hPl
  have hbi : ∀ W : World, (Instr.build 29 #[(0, sv key), (1, .int .u64 (q : Int))]).run Try.prog W = .ok (iv ⟨key, q, false, []⟩) W := fun W => by kernel_rfl
  go_enter Try.func46, Try.ntmps46
  go_upto_region 1 with fail
  go_wp2_with (go_at_call 42; refine HAh.out.mono ?_; rintro e w1 ⟨arr, rfl, hV, hG⟩; have HG := Lib.hid hG; obtain ⟨nd0, q0, q2, q1, q4⟩ := first_of (HM.out.grew hG) HP.out HS.out hV; rw [← HV0.out] at q1; have q5 := fun W => index12 arr _ q0 W; clear hV hG q0)
  go_ret
  exact ⟨rfl, HG.out⟩
end Go.Proofs.Ytkkeodfoiffofaa
namespace Go.Proofs.Ytkkeodfoiffofaa
open Go.RowKit
set_option linter.unusedVariables false
open MemP
/-- what Get finds -/
def memGet (ns : List Nd) (key : List UInt8) (q : Nat) : Option It := ((tailN ns ⟨key, q, false, []⟩).head?.map (·.x)).filter fun x => x.key == key
set_option maxRecDepth 100000 in
set_option maxHeartbeats 1000000 in
theorem mem_get (B : Nat) (hd : Nd) (ns : List Nd) (key : List UInt8) (q : Nat) (w : World) (hM : MemI w B hd ns) :
    Calls Try.prog 23 #[.pointer (some ⟨hd.b, 0, none⟩), sv key, .int .u64 (q : Int)] w fun e w' => e = .returned (getV (memGet ns key q)) ∧ Grew w w' := by
  obtain ⟨T, hT⟩ : ∃ T, T = tailN ns ⟨key, q, false, []⟩ := ⟨_, rfl⟩
  have HG := Lib.hid (show memGet ns key q = (T.head?.map (·.x)).filter (fun x => x.key == key) by rw [hT]; rfl)
  have HTm := Lib.hid (show ∀ p ∈ T, p ∈ ns from fun p hp => by rw [hT] at hp; exact List.mem_of_mem_drop hp)
  have HM := Lib.hid hM
  have HZ := Lib.hid (IBox.zero w)
  obtain ⟨w1, hw1⟩ : ∃ w1, w1 = w.alloc (.cells #[.string ⟨#[]⟩, .int .u64 0, .bool false, .string ⟨#[]⟩] 29) := ⟨_, rfl⟩
  have HG1 := Lib.hid (show Grew w w1 by rw [hw1]; exact (Below.refl _ _).alloc (Nat.le_refl _) _)
  rw [← hw1] at HZ
  have HW1 := Lib.hid hw1
  have HF : Hid (Calls Try.prog 46 #[.pointer (some ⟨hd.b, 0, none⟩), sv key, .int .u64 (q : Int)] w1 fun e w' => e = .returned (.pointer (nxt T 0)) ∧ Grew w1 w') := Lib.hid (by rw [hT]; exact mem_from B hd ns key q w1 (hM.grew HG1.out))
  clear hM hw1 hT
  go_enter Try.func23, Try.ntmps23
  go_upto_region 1 with fail
  rw [← HW1.out]
  go_upto_region 2 with (go_at_call 46; refine HF.out.mono ?_; rintro e w2 ⟨rfl, hG2⟩)
  have HG2 := Lib.hid (HG1.out.trans hG2)
  have HZ2 := Lib.hid (HZ.out.grew hG2)
  clear hG2
  have HF0 := Lib.hid (HZ2.out.set ItP.none0).load
  have HBf0 := Lib.hid (HG2.out.grown (grown_setI w2 w.heap.size ItP.none0) HG2.out.size (fun k e => by cases e; exact Nat.le_refl _))
  have hbz : ∀ W : World, (Instr.build 29 #[]).run Try.prog W = .ok (iv ItP.none0) W := fun W => by kernel_rfl
  cases T with
  | nil =>
    have HR := Lib.hid (show memGet ns key q = none by rw [HG.out]; rfl)
    rw [nxt_nil]
    go_wp2_with (refine wpList_storeI rfl (.tmp 6) (.tmp 24) rfl w.heap.size _ ItP.none0 rfl rfl HZ2.out ?_)
    have hres := HF0.out
    refine bodyPost_ret (v := getV none) (by simp [results, Try.results23, asAddr, hres, getV]) rfl ⟨by rw [HR.out], HBf0.out⟩
  | cons p T =>
    have hpm := HTm.out p (by simp)
    rw [nxt_here (by have := (HM.out.hts p hpm).1; omega)]
    obtain ⟨⟨c0, c1, c2, c3⟩, _⟩ := ((HM.out.grew HG2.out).lst.node p (by simp [hpm])).cells
    by_cases hk : p.x.key = key
    · have HR := Lib.hid (show memGet ns key q = some p.x by rw [HG.out]; simp [hk])
      have hkb : (p.x.key == key) = true := by simpa using hk
      have HF1 := Lib.hid (HZ2.out.set p.x).load
      have HBf1 := Lib.hid (HG2.out.grown (grown_setI w2 w.heap.size p.x) HG2.out.size (fun k e => by cases e; exact Nat.le_refl _))
      clear hk hpm
      go_wp2_with (refine wpList_storeI rfl (.tmp 6) (.tmp 28) rfl w.heap.size _ p.x rfl rfl HZ2.out ?_)
      have hres := HF1.out
      refine bodyPost_ret (v := getV (some p.x)) (by simp [results, Try.results23, asAddr, hres, getV]) rfl ⟨by rw [HR.out], HBf1.out⟩
    · have HR := Lib.hid (show memGet ns key q = none by rw [HG.out]; simp [hk])
      have hkb : (p.x.key == key) = false := by simpa using hk
      clear hk hpm
      go_wp2_with (refine wpList_storeI rfl (.tmp 6) (.tmp 24) rfl w.heap.size _ ItP.none0 rfl rfl HZ2.out ?_)
      have hres := HF0.out
      refine bodyPost_ret (v := getV none) (by simp [results, Try.results23, asAddr, hres, getV]) rfl ⟨by rw [HR.out], HBf0.out⟩
/-- a slice of the call's own of just these items -/
def GivesI (w0 : World) (l : List It) (e : Ending) (w' : World) : Prop := ∃ A n c, e = .returned (.slice A n c) ∧ OwnI w' w0.heap.size A n c l ∧ Grew w0 w'
set_option maxRecDepth 100000 in
set_option maxHeartbeats 1000000 in
theorem mem_list (B : Nat) (hd : Nd) (ns : List Nd) (key : List UInt8) (w : World) (hM : MemI w B hd ns) (hn : ns.length ≤ 1000000) :
    Calls Try.prog 47 #[.pointer (some ⟨hd.b, 0, none⟩), sv key] w (GivesI w ((tailN ns ⟨key, m64 - 1, false, []⟩).map (·.x))) := by
  obtain ⟨T, hT⟩ : ∃ T, T = tailN ns ⟨key, m64 - 1, false, []⟩ := ⟨_, rfl⟩
  have HSUF : Hid (∃ P, ns = P ++ T) := Lib.hid ⟨_, by rw [hT]; exact (List.take_append_drop _ _).symm⟩
  have HF : Hid (Calls Try.prog 46 #[.pointer (some ⟨hd.b, 0, none⟩), sv key, .int .u64 18446744073709551615] w fun e w' => e = .returned (.pointer (nxt T 0)) ∧ Grew w w') := Lib.hid (by rw [hT]; exact mem_from B hd ns key (m64 - 1) w hM)
  rw [← hT]
  have HM := Lib.hid hM
  have HTl := Lib.hid (show T.length ≤ 1000000 by obtain ⟨P, e⟩ := HSUF.out; rw [e] at hn; simp at hn; omega)
  clear hM hT hn
  go_enter Try.func47, Try.ntmps47
  go_wp2_with (go_at_call 46; refine HF.out.mono ?_; rintro e w1 ⟨rfl, hG1⟩; have HG1 := Lib.hid hG1; clear hG1)
  go_loopg [5, 6] T.length (fun gk o n wy => ∃ (D R : List Nd) (A2 : Option Addr) (n2 c2 : Nat), T = D ++ R ∧ gk = R.length ∧ n = .pointer (nxt R 0) ∧ o = .slice A2 n2 c2 ∧ OwnI wy w.heap.size A2 n2 c2 (D.map (·.x)) ∧ MemI wy B hd ns ∧ Grew w wy)
  case atStart => exact ⟨[], T, none, 0, 0, rfl, rfl, rfl, rfl, OwnI.nil _ _, HM.out.grew HG1.out, HG1.out⟩
  case round =>
    obtain ⟨D, R, A2, n2, c2, hDR, hgk, rfl, rfl, hO, hMr, hG⟩ := hrel
    have HO := Lib.hid hO
    have HMr := Lib.hid hMr
    have HG := Lib.hid hG
    have HDR := Lib.hid hDR
    have hn2 : n2 = D.length := by have := hO.len; simp at this; omega
    have hn2b : n2 ≤ 1000000 := by have := HTl.out; rw [hDR] at this; simp at this; omega
    have HN2 := Lib.hid hn2
    have HGK := Lib.hid hgk
    clear hO hMr hG hDR hn2 hgk
    cases R with
    | nil =>
      rw [nxt_nil]
      go_wp2_with fail
      go_ret
      exact ⟨A2, n2, c2, rfl, by rw [HDR.out]; simpa using HO.out, HG.out⟩
    | cons p R =>
      obtain ⟨P, hP⟩ := HSUF.out
      have hpm : p ∈ ns := by rw [hP, HDR.out]; simp
      have hph := (HM.out.hts p hpm).1
      rw [nxt_here (by omega)]
      obtain ⟨⟨c0, c1, c2', c3⟩, c4⟩ := (HMr.out.lst.node p (by simp [hpm])).cells
      have hrow := HMr.out.lst.row (hd :: (P ++ D)) p R (by rw [hP, HDR.out]; simp)
      have HB := HG.out.size
      have HROW : Hid (∀ W, MemI W B hd ns → W.cell? ⟨p.b, 4, none⟩ = some (.slice (some ⟨p.r, 0, none⟩) p.s p.s) ∧ W.cell? ⟨p.r, 0, none⟩ = some (.pointer (nxt R 0))) := Lib.hid fun W hW => ⟨((hW.lst.node p (by simp [hpm])).cells).2, ((hW.lst.row (hd :: (P ++ D)) p R (by rw [hP, HDR.out]; simp)).cell (by omega)).1⟩
      have hs0 : 0 < p.s := by obtain ⟨_, _, _, h3, _⟩ := hrow; omega
      have HLE := Lib.hid (show (D ++ [p]).map (·.x) = D.map (·.x) ++ [p.x] by simp)
      clear hpm hph hrow hP
      go_wp2_with (at_builtin; refine wpList_appI rfl (.tmp 18) (.tmp 23) rfl w.heap.size A2 n2 c2 _ rfl (HO.out.alloc _) (some ⟨wr.heap.size, 0, none⟩) 1 1 (wr.heap.size + 1) [p.x] rfl rfl (IRow.one wr p.x _ _) (by omega) (by simp; omega) ?_; intro A3 c3' w3 hO3 hg3 hB3 hor3; have HM3 := Lib.hid ((HMr.out.grew (grew_new wr _)).appI (HO.out.alloc _) hg3); have r1 := (HROW.out w3 HM3.out).1; have r2 := (HROW.out w3 HM3.out).2; have HO3 := Lib.hid hO3; have HB3 := Lib.hid hB3; clear hO3 hg3 hB3 hor3)
      go_roundg R.length
      case measure => rw [HGK.out]; simp
      case rel => exact ⟨D ++ [p], R, A3, _, c3', by rw [HDR.out]; simp, rfl, rfl, rfl, by rw [HLE.out]; exact HO3.out, HM3.out, Below.trans (HG.out.trans (grew_new wr _)) HB3.out⟩
/-- the heights of the nodes -/
def htsV (ns : List Nd) : List Value := ns.map fun q => .int .i64 (q.h : Int)
theorem info_int : (Try.prog.info? 3).map (fun i => (i.zero, i.size, i.bytes)) = some (some (.int .i64 0), 1, 8) := by kernel_rfl
theorem MemI.appN {w w' : World} {B : Nat} {hd : Nd} {ns : List Nd} (h : MemI w B hd ns) {base n cap : Nat} {A : Option Addr} {xs : List Value} (ho : Own w base 3 1 A n cap xs) (hg : w.grownBy w' (blk A)) : MemI w' B hd ns :=
  h.other hg fun r e => by
    rcases ho.2.2.2 with ⟨rfl, _⟩ | ⟨g', off, cur, fr, rfl, _, hh, _⟩
    · cases e
    · simp [blk] at e
      subst e
      exact ⟨_, _, _, hh, by decide, by decide, by decide⟩
/-- what Heights answers -/
def HtsPost (w : World) (ns : List Nd) (e : Ending) (w' : World) : Prop := ∃ A c, e = .returned (.slice A ns.length c) ∧ Own w' w.heap.size 3 1 A ns.length c (htsV ns) ∧ Grew w w'
set_option maxRecDepth 100000 in
set_option maxHeartbeats 1000000 in
theorem mem_heights (B : Nat) (hd : Nd) (ns : List Nd) (w : World) (hM : MemI w B hd ns) (hn : ns.length ≤ 1000000) :
    Calls Try.prog 16 #[.pointer (some ⟨hd.b, 0, none⟩)] w (HtsPost w ns) := by
  have HM := Lib.hid hM
  obtain ⟨_, hc4⟩ := (hM.lst.node hd (by simp)).cells
  have hr0 := ((hM.lst.row [] hd ns rfl).cell (i := 0) (by rw [hM.hh]; omega)).1
  have hs0 : 0 < hd.s := by rw [hM.hs]; omega
  have HNn := Lib.hid hn
  clear hM hn
  go_enter Try.func16, Try.ntmps16
  go_wp2_with fail
  clear hc4 hr0 hs0
  go_loopg [3, 4] ns.length (fun gk o n wy => ∃ (D R : List Nd) (A2 : Option Addr) (n2 c2 : Nat), ns = D ++ R ∧ gk = R.length ∧ n = .pointer (nxt R 0) ∧ n2 = D.length ∧ o = .slice A2 n2 c2 ∧ Own wy w.heap.size 3 1 A2 n2 c2 (htsV D) ∧ MemI wy B hd ns ∧ Grew w wy)
  case atStart => exact ⟨[], ns, none, 0, 0, rfl, rfl, rfl, rfl, rfl, Own.nil _ _ _ _, HM.out, Grew.refl _⟩
  case round =>
    obtain ⟨D, R, A2, n2, c2, hDR, hgk, rfl, hn2, rfl, hO, hMr, hG⟩ := hrel
    have HO := Lib.hid hO
    have HMr := Lib.hid hMr
    have HG := Lib.hid hG
    have HDR := Lib.hid hDR
    have hn2b : n2 ≤ 1000000 := by have := HNn.out; rw [hDR] at this; simp at this; omega
    have HN2 := Lib.hid hn2
    have HGK := Lib.hid hgk
    clear hO hMr hG hDR hn2 hgk
    cases R with
    | nil =>
      rw [nxt_nil]
      go_wp2_with fail
      go_ret
      have e1 : D = ns := by have := HDR.out; simpa using this.symm
      have e2 : n2 = ns.length := by rw [HN2.out, e1]
      refine ⟨A2, c2, by rw [← e2]; rfl, ?_, HG.out⟩
      have := HO.out
      rwa [e1, e2] at this
    | cons p R =>
      have hpm : p ∈ ns := by rw [HDR.out]; simp
      have hph := HM.out.hts p hpm
      rw [nxt_here (by omega)]
      have c4 := ((HMr.out.lst.node p (by simp [hpm])).cells).2
      have hrow := HMr.out.lst.row (hd :: D) p R (by rw [HDR.out]; simp)
      have HB := HG.out.size
      have HROW : Hid (∀ W, MemI W B hd ns → W.cell? ⟨p.b, 4, none⟩ = some (.slice (some ⟨p.r, 0, none⟩) p.s p.s) ∧ W.cell? ⟨p.r, 0, none⟩ = some (.pointer (nxt R 0))) := Lib.hid fun W hW => ⟨((hW.lst.node p (by simp [hpm])).cells).2, ((hW.lst.row (hd :: D) p R (by rw [HDR.out]; simp)).cell (by omega)).1⟩
      have hs0 : 0 < p.s := by obtain ⟨_, _, _, h3, _⟩ := hrow; omega
      have HLE := Lib.hid (show htsV D ++ [.int .i64 (p.s : Int)] = htsV (D ++ [p]) by simp [htsV, hph.2.1])
      clear hpm hph hrow
      go_wp2_with (at_builtin; refine wpList_appn1 rfl (.tmp 20) (.tmp 26) 30 3 (.int .i64 0) 8 rfl Try.underlying30 info_int rfl (by omega) w.heap.size A2 n2 c2 _ rfl (HO.out.alloc _) 1 [.int .i64 (p.s : Int)] (Src.slice rfl (Row.new _ _ _ _ (wr.heap.size + 1) _ rfl (by omega) _ rfl)) (by intro u hu; simp at hu; subst hu; rfl) (n2 + 1) rfl (htsV (D ++ [p])) HLE.out (by omega) (by simp; omega) ?_; intro A3 c3' w3 hO3 hg3 hB3 hor3; have HM3 := Lib.hid ((HMr.out.grew (grew_new wr _)).appN (HO.out.alloc _) hg3); have r1 := (HROW.out w3 HM3.out).1; have r2 := (HROW.out w3 HM3.out).2; have HO3 := Lib.hid hO3; have HB3 := Lib.hid hB3; clear hO3 hg3 hB3 hor3)
      go_roundg R.length
      case measure => rw [HGK.out]; simp
      case rel => exact ⟨D ++ [p], R, A3, n2 + 1, c3', by rw [HDR.out]; simp, rfl, rfl, by rw [HN2.out]; simp, rfl, HO3.out, HM3.out, Below.trans (HG.out.trans (grew_new wr _)) HB3.out⟩
end Go.Proofs.Ytkkeodfoiffofaa
namespace Go.Proofs.Ytkkeodfoiffofaa
open Go.RowKit
set_option linter.unusedVariables false
attribute [local go_sem] Oper.semAt_some
theorem keep_ltfrom1 {K : Nat → Prop} {W W' : World} (h : KeepSet K W W') {g : Nat} (hg : K g) (hl : g < W.heap.size) : g < W'.heap.size := by
  have := h g hg
  rw [Array.getElem?_eq_getElem hl] at this
  exact (Array.getElem?_eq_some_iff.1 this).1
set_option maxRecDepth 100000 in
set_option maxHeartbeats 4000000 in
theorem from1_in (l Bs n c : Nat) (A : Option Addr) (xs : List It) (K : Nat → Prop) (J Jx : List It → World → Prop) (hJ : ∀ s W W', J s W → Grew W W' → J s W')
    (hY : ∀ pre x W, J pre W → pre.length < n → YieldAt Fence.wide 7 Try.prog l #[iv x] W fun e W' => (e = .returned (.bool true) ∧ J (pre ++ [x]) W' ∧ KeepSet K W W') ∨ (e = .returned (.bool false) ∧ Jx (pre ++ [x]) W'))
    (W : World) (hBs : W.cell? ⟨Bs, 0, none⟩ = some (.slice A n c)) (hI : Is W W.heap.size A n c xs) (hK : ∀ g, xs ≠ [] → blk A = some g → K g) (hKlt : ∀ g, K g → g < W.heap.size) (h0 : J [] W) :
    CallsIn Fence.wide 8 Try.prog 48 #[.func (.yield l) #[] #[], .pointer (some ⟨Bs, 0, none⟩)] W fun e W' => (∃ v, e = .returned v) ∧ (J xs W' ∨ ∃ pre, pre <+: xs ∧ Jx pre W') := by
  have hl := hI.len
  have hm := hI.le
  have hx := hI.max
  unfold maxLen at hx
  have HI := Lib.hid hI
  have HKA := Lib.hid hK
  have HKL := Lib.hid hKlt
  have HJ := Lib.hid hJ
  have HY := Lib.hid hY
  clear hI hK hKlt hJ hY
  refine callsIn_of_wp Try.func48 rfl trivial ?_ rfl
  simp only [Try.ntmps48, List.size_toArray, List.length_cons, List.length_nil, Nat.reduceAdd, Nat.reduceSub, Array.replicate_succ, Array.replicate_zero, List.push_toArray, List.append_toArray, List.nil_append, List.cons_append]
  gi_wp2
  gi_loopw [7] (fun i wr => ∃ k : Nat, k ≤ n ∧ i = .int .i64 k ∧ J (xs.take k) wr ∧ KeepSet K W wr) (fun i _ => n - (intOf i).toNat)
  case atStart => exact ⟨0, Nat.zero_le _, rfl, h0, KeepSet.refl _ _⟩
  case round =>
    obtain ⟨k, hk, rfl, hJs, hKp⟩ := hrel
    have HJS := Lib.hid hJs
    have HKP := Lib.hid hKp
    clear hJs hKp
    have i0 : (0 : Int) ≤ (k : Int) := by omega
    by_cases hlt : k < n
    · obtain ⟨xi, hxi⟩ : ∃ y, xs[k]? = some y := ⟨_, List.getElem?_eq_getElem (by omega)⟩
      obtain ⟨g1, o1, rfl, hb1, hr1⟩ := HI.out.at hxi
      have hk1 : wr.heap[g1]? = W.heap[g1]? := HKP.out g1 (HKA.out g1 (fun e => by rw [e] at hxi; cases hxi) rfl)
      obtain ⟨q0, q1, q2, q3⟩ := range_cells (range_keep hr1 hk1)
      have HT := Lib.hid (show xs.take (k + 1) = xs.take k ++ [xi] by rw [List.take_add_one, hxi]; rfl)
      have hgr : Grew wr (wr.alloc (.cells #[.string ⟨xi.key.toArray⟩, .int .u64 (xi.seq : Int), .bool xi.gone, .string ⟨xi.val.toArray⟩] 29)) := grew_new wr _
      have HGR := Lib.hid hgr
      have HPL := Lib.hid (show (xs.take k).length < n by simp; omega)
      obtain ⟨fn, tmps, assign, body, hy, hR⟩ := HY.out (xs.take k) xi (wr.alloc (.cells #[.string ⟨xi.key.toArray⟩, .int .u64 (xi.seq : Int), .bool xi.gone, .string ⟨xi.val.toArray⟩] 29)) (HJ.out _ _ _ HJS.out hgr) HPL.out
      clear hr1 hxi hk1 hgr
      have i1 : (k : Int) < (n : Int) := by omega
      gi_wp2
      refine hR.mono ?_
      rintro e W3 (⟨rfl, hJ3, hk3⟩ | ⟨rfl, hJx3⟩)
      · have HJ3 := Lib.hid (show J (xs.take (k + 1)) W3 by rw [HT.out]; exact hJ3)
        have HK3 := Lib.hid (show KeepSet K W W3 from HKP.out.trans (KeepSet.trans (fun g hg => HGR.out.block g (keep_ltfrom1 HKP.out hg (HKL.out g hg))) hk3))
        gi_wp2
        go_roundw
        case rel => exact ⟨k + 1, hlt, by go_num, HJ3.out, HK3.out⟩
        case measure => simp [intOf]; omega
      · have HJX := Lib.hid (show Jx (xs.take (k + 1)) W3 by rw [HT.out]; exact hJx3)
        gi_wp2
        refine bodyPost_ret (results_none rfl _ _ _) rfl ?_
        exact ⟨⟨_, rfl⟩, .inr ⟨_, List.take_prefix _ _, HJX.out⟩⟩
    · obtain rfl : k = n := by omega
      have HT := Lib.hid (show xs.take k = xs from List.take_of_length_le (by omega))
      have i1 : ¬ (k : Int) < (k : Int) := by omega
      gi_wp2
      go_end0
      exact ⟨⟨_, rfl⟩, .inl (by have := HJS.out; rwa [HT.out] at this)⟩
/-- the blocks that the function value reads -/
def keepsfrom1 (Bs : Nat) (A : Option Addr) (xs : List It) (g : Nat) : Prop := g = Bs ∨ (xs ≠ [] ∧ blk A = some g)
theorem from1_gives (Bs n c : Nat) (A : Option Addr) (xs : List It) (w : World) (hBs : w.cell? ⟨Bs, 0, none⟩ = some (.slice A n c)) (hI : Is w w.heap.size A n c xs) :
    (∀ g, keepsfrom1 Bs A xs g → g < w.heap.size) ∧ Gives Try.prog 48 #[.pointer (some ⟨Bs, 0, none⟩)] (fun x : It => #[iv x]) (keepsfrom1 Bs A xs) xs w := by
  have hlt : ∀ g, keepsfrom1 Bs A xs g → g < w.heap.size := by
    rintro g (rfl | ⟨hne, hg⟩)
    · exact World.block_lt_of_cell? w _ hBs
    · cases xs with
      | nil => exact absurd rfl hne
      | cons x r =>
        obtain ⟨g', o, e, hb, _⟩ := hI.at (i := 0) (x := x) rfl
        rw [e] at hg
        simp [blk] at hg
        omega
  refine ⟨hlt, fun l J Jx W hW hJ hJx hY h0 => ?_⟩
  have hlen := hI.len
  refine (from1_in l Bs n c A xs (keepsfrom1 Bs A xs) J Jx (fun s X Y hs hg => hJ s X Y none hs ⟨hg.os, hg.tape, hg.output, hg.size, fun k hk _ => hg.block k hk⟩ (fun r e => by cases e)) (fun pre x X hx hp => hY pre x X hx (by omega)) W ((hW.cell (p := ⟨Bs, 0, none⟩) (World.block_lt_of_cell? w _ hBs)).trans hBs)
    ((hI.below hW).more hW.size) (fun g hne hg => .inr ⟨hne, hg⟩) (fun g hg => Nat.lt_of_lt_of_le (hlt g hg) hW.size) h0).mono ?_
  rintro e W' ⟨h1, h2 | ⟨pre, h2, h3⟩⟩
  · exact ⟨h1, .inl ⟨xs, rfl, h2⟩⟩
  · exact ⟨h1, .inr ⟨pre, h2, h3⟩⟩
end Go.Proofs.Ytkkeodfoiffofaa
namespace Go.Proofs.Ytkkeodfoiffofaa
open Go.RowKit
set_option linter.unusedVariables false
open MemP
attribute [local go_sem] Oper.semAt_some
/-- what From hands back: a function value over a slice of the call's own -/
def SeqPost (w : World) (l : List It) (e : Ending) (w' : World) : Prop := ∃ (Bs n c : Nat) (A : Option Addr), e = .returned (.func (.func 48) #[] #[.pointer (some ⟨Bs, 0, none⟩)]) ∧ w'.cell? ⟨Bs, 0, none⟩ = some (.slice A n c) ∧ OwnI w' w.heap.size A n c l ∧ w.heap.size ≤ Bs ∧ Grew w w'
set_option maxHeartbeats 1000000 in
theorem mem_From (B : Nat) (hd : Nd) (ns : List Nd) (key : List UInt8) (w : World) (hM : MemI w B hd ns) (hn : ns.length ≤ 1000000) :
    Calls Try.prog 27 #[.pointer (some ⟨hd.b, 0, none⟩), sv key] w (SeqPost w ((tailN ns ⟨key, m64 - 1, false, []⟩).map (·.x))) := by
  have HL := Lib.hid (mem_list B hd ns key w hM hn)
  clear hM hn
  go_enter Try.func27, Try.ntmps27
  go_wp2_with (go_at_call 47; refine HL.out.mono ?_; rintro e w1 ⟨A, n, c, rfl, hO, hG⟩; have HO := Lib.hid hO; have HG := Lib.hid hG; clear hO hG)
  go_ret
  exact ⟨w1.heap.size, n, c, A, rfl, (Boxed.new w1 32 (.slice A n c)).cell, HO.out.alloc _, HG.out.size, HG.out.trans (grew_new _ _)⟩
theorem hBx2 {w1 w2 : World} {b : Nat} {t : TypeId} {v : Value} (h : Boxed w1 b t v) (hg : Grew w1 w2) : Boxed w2 b t v := (hg.block b h.lt).trans h
set_option maxRecDepth 100000 in
set_option maxHeartbeats 4000000 in
theorem mem_All (B : Nat) (hd : Nd) (ns : List Nd) (w : World) (hM : MemI w B hd ns) (hn : ns.length ≤ 1000000) :
    Calls Try.prog 19 #[.pointer (some ⟨hd.b, 0, none⟩)] w (GivesI w ((tailN ns ⟨[], m64 - 1, false, []⟩).map (·.x))) := by
  obtain ⟨xs, hxs⟩ : ∃ xs, xs = (tailN ns ⟨[], m64 - 1, false, []⟩).map (·.x) := ⟨_, rfl⟩
  obtain ⟨w1, hw1⟩ : ∃ w1, w1 = w.alloc (.cells #[.slice none 0 0] 32) := ⟨_, rfl⟩
  have HG1 := Lib.hid (show Grew w w1 by rw [hw1]; exact grew_new w _)
  have HF : Hid (Calls Try.prog 27 #[.pointer (some ⟨hd.b, 0, none⟩), sv []] w1 (SeqPost w1 xs)) := Lib.hid (by rw [hxs]; exact mem_From B hd ns [] w1 (hM.grew HG1.out) hn)
  have HXL := Lib.hid (show xs.length ≤ 1000000 by rw [hxs]; unfold tailN; simp; omega)
  have HBX := Lib.hid (show Boxed w1 w.heap.size 32 (.slice none 0 0) by rw [hw1]; exact Boxed.new w _ _)
  have HW1 := Lib.hid hw1
  rw [← hxs]
  clear hM hn hxs hw1
  refine calls_marks Try.func19 rfl ?_
  simp only [Try.ntmps19, List.size_toArray, List.length_cons, List.length_nil, Nat.reduceAdd, Nat.reduceSub, Array.replicate_succ, Array.replicate_zero, List.push_toArray, List.append_toArray, List.nil_append, List.cons_append]
  go_upto_region 2 with fail
  rw [← HW1.out]
  go_wp2_with (go_at_call 27; refine HF.out.mono ?_; rintro e w2 ⟨Bs, n, c, A, rfl, hBs, hO, hle, hG⟩)
  have HGV := Lib.hid (from1_gives Bs n c A xs w2 hBs (hO.is (Nat.le_refl _)))
  have HG2 := Lib.hid (HG1.out.trans hG)
  have HBX2 := Lib.hid (hBx2 HBX.out hG)
  have HKD : Hid (∀ g, keepsfrom1 Bs A xs g → g < w2.heap.size ∧ g ≠ w.heap.size) := Lib.hid fun g hg => ⟨HGV.out.1 g hg, fun e => by
    have h1 : w1.heap.size = w.heap.size + 1 := by rw [HW1.out]; simp
    rcases hg with hg | ⟨_, hg⟩
    · omega
    · have := (hO.lt g hg).1
      omega⟩
  clear hBs hO hle hG
  refine wp_rangeI (gf := 48) (lb := #[.pointer (some ⟨Bs, 0, none⟩)]) rfl (enters_of Try.func48 (by kernel_rfl) rfl) HGV.out.1 HGV.out.2 rfl
    (fun pre W => ∃ A n c, Boxed W w.heap.size 32 (.slice A n c) ∧ OwnI W w2.heap.size A n c pre ∧ Below w.heap.size w W) (fun _ _ _ => False)
    (fun s W W' h _ ha => ?_) (fun _ _ _ _ h _ _ => h) ⟨none, 0, 0, HBX2.out, OwnI.nil _ _, HG2.out⟩
    (fun x b => { tmps := #[.pointer (some ⟨hd.b, 0, none⟩), undef, .slice none 0 0, .pointer (some ⟨w.heap.size, 0, none⟩), .pointer (some ⟨b, 0, none⟩), .pointer (some ⟨hd.b, 0, none⟩), .func (.func 48) #[] #[.pointer (some ⟨Bs, 0, none⟩)], iv x, undef, undef, undef, undef, undef], defers := [] }) ?assign ?body ?done ?stop
  · obtain ⟨A, n, c, h1, h2, h3⟩ := h
    exact ⟨A, n, c, ha.boxed h1, ha.ownI h2, ha.kept h3 HG2.out.size⟩
  case assign =>
    intro l x W K' hK
    gi_wp2
    exact hK
  case body =>
    rintro l pre x b W ⟨A, n, c, hBx, hO, hB⟩ hsz hIb hb hlen
    have c0 := hBx.cell
    obtain ⟨q0, q1, q2, q3⟩ := range_cells hIb.range
    have hn := hO.len
    have hxl := HXL.out
    have HO := Lib.hid hO
    have HBx := Lib.hid hBx
    have HB := Lib.hid hB
    clear hBx hO hB hIb
    gi_wp2_with (gi_at_builtin; refine wpListIn_appI rfl (.tmp 8) (.tmp 10) rfl w2.heap.size A n c pre rfl (HO.out.alloc _) (some ⟨W.heap.size, 0, none⟩) 1 1 (W.heap.size + 1) [x] rfl rfl (IRow.one W x _ _) (by omega) (by simp; omega) ?_; intro A3 c3 w3 hO3 hg3 hB3; have HCo := Lib.hid (collectI HBx.out HO.out HB.out hO3 hg3 HKD.out hsz HG2.out.size (Nat.le_refl _)); have r1 := HCo.out.1; have r2 := HCo.out.2.1; clear hO3 hg3 hB3)
    exact ⟨HCo.out.2.2.1, HCo.out.2.2.2.1, A3, _, c3, HCo.out.2.2.2.2.1, HCo.out.2.2.2.2.2.1, HCo.out.2.2.2.2.2.2⟩
  case done =>
    rintro D W hD hsz ⟨A, n, c, hBx, hO, hB⟩ hd'
    have c0 := hBx.cell
    have HM := Lib.hid ((Marks.nil w2.heap.size W).cons hD hd' (fun m h => by cases h))
    have HO := Lib.hid hO
    have HB := Lib.hid hB
    have hsz2 := HG2.out.size
    clear hBx hO hB hd'
    go_wp2_with fail
    refine postM_ret1 rfl HM.out hsz (fun W' ha => ⟨A, n, c, rfl, Own.lower (ha.ownI HO.out) hsz2, ha.kept HB.out hsz2⟩)
  case stop =>
    rintro D c pre W _ _ _ h _
    exact h.elim
end Go.Proofs.Ytkkeodfoiffofaa
namespace Go.Proofs.Ytkkeodfoiffofaa
open Go.RowKit
set_option linter.unusedVariables false
open MemP
/-- the items from x's place on -/
def tailI (l : List It) (x : It) : List It := l.drop (ItP.at_ x l)
def getI (l : List It) (key : List UInt8) (q : Nat) : Option It := ((tailI l ⟨key, q, false, []⟩).head?).filter fun x => x.key == key
theorem tailN_map (ns : List Nd) (x : It) : (tailN ns x).map (·.x) = tailI (ns.map (·.x)) x := by unfold tailN tailI; rw [List.map_drop]
theorem memGet_items (ns : List Nd) (key : List UInt8) (q : Nat) : memGet ns key q = getI (ns.map (·.x)) key q := by
  unfold memGet getI
  rw [← tailN_map, List.head?_map]
/-- a keeper that holds these items, each with its height -/
def MemL (w : World) (B : Nat) (hd : Nd) (l : List (It × Nat)) : Prop := ∃ ns, MemI w B hd ns ∧ ns.map (fun q => (q.x, q.h)) = l
/-- what Put answers, and what it leaves -/
def putR (l : List (It × Nat)) (x : It) : Int × List (It × Nat) :=
  if ItP.may x = false then (1, l) else if (ItP.put (l.map (·.1)) x).2 = false then (12, l)
  else (0, l.take (ItP.at_ x (l.map (·.1))) ++ (x, hgt (l.length + 1)) :: l.drop (ItP.at_ x (l.map (·.1))))
/-- w' is w but for the keeper's own blocks and new ones -/
structure Kept (B : Nat) (w w' : World) : Prop where
  below : Below B w w'
  other : ∀ (g : Nat) (o : Obj), w.heap[g]? = some o → (∀ cs e fr, o = .cells cs e fr → e ≠ 70 ∧ e ≠ 72 ∧ e ≠ 73) → w'.heap[g]? = some o
section
variable {w w' w'' : World} {B : Nat} {hd : Nd} {l : List (It × Nat)}
theorem Kept.trans (h : Kept B w w') (k : Kept B w' w'') : Kept B w w'' := ⟨h.below.trans k.below, fun g o ho hc => k.other g o (h.other g o ho hc) hc⟩
theorem Kept.of_grew (h : Grew w w') (hB : B ≤ w.heap.size) : Kept B w w' := ⟨h.mono hB, fun g o ho _ => (h.block g (Array.getElem?_eq_some_iff.1 ho).1).trans ho⟩
theorem Kept.ownI (h : Kept B w w') {base n cap : Nat} {A : Option Addr} {l : List It} (ho : OwnI w base A n cap l) : OwnI w' base A n cap l := by
  refine Own.keep ho fun g hg => ?_
  rcases ho.2.2.2 with ⟨rfl, _⟩ | ⟨g', off, cur, fr, rfl, _, hh, _⟩
  · cases hg
  · simp [blk] at hg
    subst hg
    rw [hh]
    exact h.other _ _ hh fun cs e fr e1 => by cases e1; exact MemI.item_ne
theorem Kept.ibox (h : Kept B w w') {g : Nat} {x : It} (hb : IBox w g x) : IBox w' g x := h.other _ _ hb fun cs e fr e1 => by cases e1; exact MemI.item_ne
theorem Kept.boxed (h : Kept B w w') {g : Nat} {t : TypeId} {v : Value} (hb : Boxed w g t v) (ht : t ≠ 70 ∧ t ≠ 72 ∧ t ≠ 73) : Boxed w' g t v := h.other _ _ hb fun cs e fr e1 => by cases e1; exact ht
theorem Kept.others (h : Kept B w w') : KeepsOthers w w' := ⟨h.below.size, fun k o hk ho => h.other k o hk fun cs e fr e1 => by subst e1; cases ho⟩
theorem Kept.ownN (h : Kept B w w') {base n cap : Nat} {A : Option Addr} {xs : List Value} (ho : Own w base 3 1 A n cap xs) : Own w' base 3 1 A n cap xs := by
  refine Own.keep ho fun g hg => ?_
  rcases ho.2.2.2 with ⟨rfl, _⟩ | ⟨g', off, cur, fr, rfl, _, hh, _⟩
  · cases hg
  · simp [blk] at hg
    subst hg
    rw [hh]
    exact h.other _ _ hh fun cs e fr e1 => by cases e1; decide
theorem MemL.grew (h : MemL w B hd l) (hg : Grew w w') : MemL w' B hd l := by obtain ⟨ns, h1, h2⟩ := h; exact ⟨ns, h1.grew hg, h2⟩
theorem MemL.apart {D : Nat} (h : MemL w B hd l) (ha : Apart D w w') : MemL w' B hd l := by obtain ⟨ns, h1, h2⟩ := h; exact ⟨ns, h1.apart ha.cells, h2⟩
theorem MemL.other (h : MemL w B hd l) {row : Option Nat} (hg : w.grownBy w' row) (hr : ∀ r, row = some r → ∃ cs e fr, w.heap[r]? = some (.cells cs e fr) ∧ e ≠ 70 ∧ e ≠ 72 ∧ e ≠ 73) : MemL w' B hd l := by
  obtain ⟨ns, h1, h2⟩ := h
  exact ⟨ns, h1.other hg hr, h2⟩
theorem MemL.appI (h : MemL w B hd l) {base n cap : Nat} {A : Option Addr} {l' : List It} (ho : OwnI w base A n cap l') (hg : w.grownBy w' (blk A)) : MemL w' B hd l := by
  obtain ⟨ns, h1, h2⟩ := h
  exact ⟨ns, h1.appI ho hg, h2⟩
theorem items_of {ns : List Nd} (h : ns.map (fun q => (q.x, q.h)) = l) : ns.map (·.x) = l.map (·.1) := by rw [← h]; simp
theorem len_of {ns : List Nd} (h : ns.map (fun q => (q.x, q.h)) = l) : ns.length = l.length := by rw [← h]; simp
end
theorem memL_new (w : World) : Calls Try.prog 14 #[] w fun e w' => ∃ hd : Nd, e = .returned (.pointer (some ⟨hd.b, 0, none⟩)) ∧ MemL w' w.heap.size hd [] ∧ Grew w w' :=
  (mem_new w).mono fun e w' ⟨hd, h1, h2, h3⟩ => ⟨hd, h1, ⟨[], h2, rfl⟩, h3⟩
theorem memL_put (B : Nat) (hd : Nd) (l : List (It × Nat)) (x : It) (w : World) (h : MemL w B hd l) (hB : B ≤ w.heap.size) (hn : l.length ≤ 1000000) (hc : costs (l.map (·.1)) ≤ 1000000000000) :
    Calls Try.prog 15 #[.pointer (some ⟨hd.b, 0, none⟩), iv x] w fun e w' => e = .returned (.int .i64 (putR l x).1) ∧ MemL w' B hd (putR l x).2 ∧ Kept B w w' := by
  obtain ⟨ns, hM, hl⟩ := h
  have hi := items_of hl
  have hln := len_of hl
  refine (mem_put B hd ns x w hM hB (by omega) (by rw [hi]; exact hc)).mono ?_
  rintro e w' ⟨c, ns', rfl, hM', hS, hR⟩
  have hK : Kept B w w' := ⟨hS.below (fun g hg => (hM.lt g hg).1) hB, fun g o ho hc => (hS.block g (Array.getElem?_eq_some_iff.1 ho).1 fun hb => by
    cases o with
    | cells cs e fr =>
      obtain ⟨h1, h2, h3⟩ := hc cs e fr rfl
      rcases hM.lst.type hb ho with e | e | e
      · exact h1 e
      · exact h2 e
      · exact h3 e
    | _ =>
      obtain ⟨nd, hm, rfl | rfl⟩ := hb
      · obtain ⟨cs, e, h1, _⟩ := hM.lst.node nd hm
        rw [h1] at ho; cases ho
      · obtain ⟨A, R, e⟩ := List.append_of_mem hm
        obtain ⟨cs, h1, _⟩ := hM.lst.row A nd R e
        rw [h1] at ho; cases ho).trans ho⟩
  rcases hR with ⟨h1, h2, h3⟩ | ⟨h1, h2, h3, h4⟩ | ⟨h1, h2, h3, h4, P, nu, S, h5, hpl, h6, h7, h8, _, _⟩
  · have e : putR l x = (1, l) := by unfold putR; rw [if_pos h1]
    rw [e]
    exact ⟨by rw [h2], ⟨ns', hM', by rw [h3]; exact hl⟩, hK⟩
  · have e : putR l x = (12, l) := by unfold putR; rw [if_neg (by rw [h1]; decide), ← hi, if_pos h3]
    rw [e]
    exact ⟨by rw [h2], ⟨ns', hM', by rw [h4]; exact hl⟩, hK⟩
  · have e : putR l x = (0, l.take (ItP.at_ x (l.map (·.1))) ++ (x, hgt (l.length + 1)) :: l.drop (ItP.at_ x (l.map (·.1)))) := by unfold putR; rw [if_neg (by rw [h1]; decide), if_neg (by rw [← hi, h3]; decide)]
    rw [e]
    refine ⟨by rw [h2], ⟨ns', hM', ?_⟩, hK⟩
    have hat : P.length = ItP.at_ x (l.map (·.1)) := by rw [← hi]; exact hpl
    rw [h6, ← hat, ← hl, h5]
    simp [h7, h8, h5]
end Go.Proofs.Ytkkeodfoiffofaa
namespace Go.Proofs.Ytkkeodfoiffofaa
open Go.RowKit
set_option linter.unusedVariables false
open MemP
theorem put_post {w w' : World} {B : Nat} {hd : Nd} {ns : List Nd} {l : List (It × Nat)} {x : It} {e : Ending} (hM : MemI w B hd ns) (hl : ns.map (fun q => (q.x, q.h)) = l) (hB : B ≤ w.heap.size) (h : PutPost w B hd ns x e w') :
    ∃ ns', e = .returned (.int .i64 (putR l x).1) ∧ MemI w' B hd ns' ∧ ns'.map (fun q => (q.x, q.h)) = (putR l x).2 ∧ Kept B w w' ∧ Stay (blksN (hd :: ns)) w w' ∧ ∀ g, blksN (hd :: ns') g → blksN (hd :: ns) g ∨ w.heap.size ≤ g := by
  have hi := items_of hl
  have hln := len_of hl
  obtain ⟨c, ns', rfl, hM', hS, hR⟩ := h
  have hK : Kept B w w' := ⟨hS.below (fun g hg => (hM.lt g hg).1) hB, fun g o ho hc => (hS.block g (Array.getElem?_eq_some_iff.1 ho).1 fun hb => by
    cases o with
    | cells cs e fr =>
      obtain ⟨h1, h2, h3⟩ := hc cs e fr rfl
      rcases hM.lst.type hb ho with e | e | e
      · exact h1 e
      · exact h2 e
      · exact h3 e
    | _ =>
      obtain ⟨nd, hm, rfl | rfl⟩ := hb
      · obtain ⟨cs, e, h1, _⟩ := hM.lst.node nd hm
        rw [h1] at ho; cases ho
      · obtain ⟨A, R, e⟩ := List.append_of_mem hm
        obtain ⟨cs, h1, _⟩ := hM.lst.row A nd R e
        rw [h1] at ho; cases ho).trans ho⟩
  rcases hR with ⟨h1, h2, h3⟩ | ⟨h1, h2, h3, h4⟩ | ⟨h1, h2, h3, h4, P, nu, S, h5, hpl, h6, h7, h8, hd1, hd2⟩
  · have e : putR l x = (1, l) := by unfold putR; rw [if_pos h1]
    rw [e]
    subst h3
    exact ⟨_, by rw [h2], hM', hl, hK, hS, fun g hg => .inl hg⟩
  · have e : putR l x = (12, l) := by unfold putR; rw [if_neg (by rw [h1]; decide), ← hi, if_pos h3]
    rw [e]
    subst h4
    exact ⟨_, by rw [h2], hM', hl, hK, hS, fun g hg => .inl hg⟩
  · have e : putR l x = (0, l.take (ItP.at_ x (l.map (·.1))) ++ (x, hgt (l.length + 1)) :: l.drop (ItP.at_ x (l.map (·.1)))) := by unfold putR; rw [if_neg (by rw [h1]; decide), if_neg (by rw [← hi, h3]; decide)]
    rw [e]
    refine ⟨ns', by rw [h2], hM', ?_, hK, hS, fun g hg => ?_⟩
    · have hat : P.length = ItP.at_ x (l.map (·.1)) := by rw [← hi]; exact hpl
      rw [h6, ← hat, ← hl, h5]
      simp [h7, h8, h5]
    · obtain ⟨q, hq, hb⟩ := hg
      rw [h6] at hq
      simp only [List.mem_cons, List.mem_append] at hq
      rcases hq with hq | hq | hq | hq
      · exact .inl ⟨q, by simp [hq], hb⟩
      · exact .inl ⟨q, by simp [h5, hq], hb⟩
      · subst hq
        rcases hb with rfl | rfl
        · exact .inr hd1
        · exact .inr hd2
      · exact .inl ⟨q, by simp [h5, hq], hb⟩
/-- two keepers that share nothing -/
def Two (w : World) (Ba : Nat) (ha : Nd) (la : List (It × Nat)) (Bb : Nat) (hb : Nd) (lb : List (It × Nat)) : Prop :=
  ∃ na nb, (MemI w Ba ha na ∧ na.map (fun q => (q.x, q.h)) = la) ∧ (MemI w Bb hb nb ∧ nb.map (fun q => (q.x, q.h)) = lb) ∧ ∀ g, blksN (ha :: na) g → blksN (hb :: nb) g → False
section
variable {w w' : World} {Ba Bb : Nat} {ha hb : Nd} {la lb : List (It × Nat)}
theorem Two.swap (h : Two w Ba ha la Bb hb lb) : Two w Bb hb lb Ba ha la := by
  obtain ⟨na, nb, h1, h2, h3⟩ := h
  exact ⟨nb, na, h2, h1, fun g x y => h3 g y x⟩
theorem Two.fst (h : Two w Ba ha la Bb hb lb) : MemL w Ba ha la := by
  obtain ⟨na, nb, h1, h2, h3⟩ := h
  exact ⟨na, h1⟩
theorem Two.snd (h : Two w Ba ha la Bb hb lb) : MemL w Bb hb lb := h.swap.fst
theorem Two.grew (h : Two w Ba ha la Bb hb lb) (hg : Grew w w') : Two w' Ba ha la Bb hb lb := by
  obtain ⟨na, nb, h1, h2, h3⟩ := h
  exact ⟨na, nb, ⟨h1.1.grew hg, h1.2⟩, ⟨h2.1.grew hg, h2.2⟩, h3⟩
theorem Two.new (h : MemL w Ba ha la) (hg : Grew w w') (k : MemL w' w.heap.size hb lb) : Two w' Ba ha la w.heap.size hb lb := by
  obtain ⟨na, h1⟩ := h
  obtain ⟨nb, h2⟩ := k
  exact ⟨na, nb, ⟨h1.1.grew hg, h1.2⟩, h2, fun g x y => by have := (h1.1.lt g x).2; have := (h2.1.lt g y).1; omega⟩
theorem two_put (x : It) (h : Two w Ba ha la Bb hb lb) (hB : Ba ≤ w.heap.size) (hn : la.length ≤ 1000000) (hc : costs (la.map (·.1)) ≤ 1000000000000) :
    Calls Try.prog 15 #[.pointer (some ⟨ha.b, 0, none⟩), iv x] w fun e w' => e = .returned (.int .i64 (putR la x).1) ∧ Two w' Ba ha (putR la x).2 Bb hb lb ∧ Kept Ba w w' := by
  obtain ⟨na, nb, h1, h2, h3⟩ := h
  refine (mem_put Ba ha na x w h1.1 hB (by rw [len_of h1.2]; exact hn) (by rw [items_of h1.2]; exact hc)).mono ?_
  intro e w' hp
  obtain ⟨ns', e1, e2, e3, e4, e5, e6⟩ := put_post h1.1 h1.2 hB hp
  refine ⟨e1, ⟨ns', nb, ⟨e2, e3⟩, ⟨h2.1.keep fun g hg => e5.block g (h2.1.lt g hg).2 fun hk => h3 g hk hg, h2.2⟩, fun g x y => ?_⟩, e4⟩
  rcases e6 g x with e6 | e6
  · exact h3 g e6 y
  · have := (h2.1.lt g y).2
    omega
end
/-! ### items of a family -/
theorem srt_ext : ∀ {a b : List It}, ItP.Srt a → ItP.Srt b → (∀ x, x ∈ a ↔ x ∈ b) → a = b
  | [], [], _, _, _ => rfl
  | [], y :: r, _, _, h => by have := (h y).2 (by simp); simp at this
  | x :: r, [], _, _, h => by have := (h x).1 (by simp); simp at this
  | x :: r, y :: s, h1, h2, h => by
    unfold ItP.Srt at h1 h2
    rw [List.pairwise_cons] at h1 h2
    have exy : x = y := by
      have hx := (h x).1 (by simp)
      have hy := (h y).2 (by simp)
      rcases List.mem_cons.1 hx with hx | hx
      · exact hx
      rcases List.mem_cons.1 hy with hy | hy
      · exact hy.symm
      have := ItP.ahead_trans (h1.1 y hy) (h2.1 x hx)
      rw [ItP.ahead_irrefl] at this
      cases this
    subst exy
    have hr := srt_ext (a := r) (b := s) h1.2 h2.2 fun z => by
      have hz := h z
      simp only [List.mem_cons] at hz
      constructor
      · intro m
        rcases hz.1 (.inr m) with e | e
        · subst e
          have := h1.1 z m
          rw [ItP.ahead_irrefl] at this
          cases this
        · exact e
      · intro m
        rcases hz.2 (.inr m) with e | e
        · subst e
          have := h2.1 z m
          rw [ItP.ahead_irrefl] at this
          cases this
        · exact e
    rw [hr]
theorem MemL.srt {w : World} {B : Nat} {hd : Nd} {l : List (It × Nat)} (h : MemL w B hd l) : ItP.Srt (l.map (·.1)) := by
  obtain ⟨ns, h1, h2⟩ := h
  rw [← items_of h2]
  exact h1.srt
/-- not put: one of the same key and number is there -/
theorem put_none {l : List It} {x : It} (h : (ItP.put l x).2 = false) : ∃ y ∈ l, y.key = x.key ∧ y.seq = x.seq := by
  unfold ItP.put at h
  cases hd : l.drop (ItP.at_ x l) with
  | nil => rw [hd] at h; cases h
  | cons y r =>
    rw [hd] at h
    simp only at h
    have hm : y ∈ l := (List.drop_sublist (ItP.at_ x l) l).mem (by rw [hd]; simp)
    refine ⟨y, hm, ?_⟩
    have h1 : ItP.ahead x y = false := by
      cases e : ItP.ahead x y with
      | false => rfl
      | true => rw [if_pos e] at h; cases h
    have h2 : ItP.ahead y x = false := by
      have hdw : l.dropWhile (fun z => ItP.ahead z x) = y :: r := by
        rw [← hd]
        unfold ItP.at_
        conv => lhs; rw [← List.drop_left (l₁ := l.takeWhile fun z => ItP.ahead z x) (l₂ := l.dropWhile fun z => ItP.ahead z x), List.takeWhile_append_dropWhile]
      have := List.head_dropWhile_not (fun z => ItP.ahead z x) (l := l) (by rw [hdw]; simp)
      simpa [hdw] using this
    exact ItP.ahead_same h2 h1
/-- which items a keeper holds: those of the family that may be, with these numbers -/
def Holds (F : Nat → It) (S : Nat → Prop) (m : Nat) (l : List (It × Nat)) : Prop := l.length ≤ m ∧ costs (l.map (·.1)) ≤ m * 5000 ∧ ∀ x, x ∈ l.map (·.1) ↔ ∃ i, S i ∧ x = F i ∧ ItP.may x = true
theorem holds_nil (F : Nat → It) : Holds F (fun _ => False) 0 [] := ⟨Nat.le_refl _, by simp [costs], fun x => by simp⟩
theorem may_cost {x : It} (h : ItP.may x = true) : cost x ≤ 5000 := by
  unfold ItP.may at h
  simp only [Bool.and_eq_true, decide_eq_true_eq] at h
  unfold cost
  omega
theorem holds_put {F : Nat → It} {S : Nat → Prop} {m : Nat} {l : List (It × Nat)} (h : Holds F S m l) (hF : ∀ i, S i → (F i).seq = i) {j : Nat} (hj : (F j).seq = j) : Holds F (fun i => S i ∨ i = j) (m + 1) (putR l (F j)).2 := by
  obtain ⟨h1, h2, h3⟩ := h
  unfold putR
  by_cases hm : ItP.may (F j) = false
  · rw [if_pos hm]
    refine ⟨Nat.le_succ_of_le h1, Nat.le_trans h2 (Nat.mul_le_mul_right _ (Nat.le_succ _)), fun x => (h3 x).trans ⟨?_, ?_⟩⟩
    · rintro ⟨i, a, b, c⟩; exact ⟨i, .inl a, b, c⟩
    · rintro ⟨i, a | rfl, b, c⟩
      · exact ⟨i, a, b, c⟩
      · rw [b, hm] at c; cases c
  · rw [if_neg hm]
    have hm : ItP.may (F j) = true := by simpa using hm
    by_cases hp : (ItP.put (l.map (·.1)) (F j)).2 = false
    · rw [if_pos hp]
      refine ⟨Nat.le_succ_of_le h1, Nat.le_trans h2 (Nat.mul_le_mul_right _ (Nat.le_succ _)), fun x => (h3 x).trans ⟨?_, ?_⟩⟩
      · rintro ⟨i, a, b, c⟩; exact ⟨i, .inl a, b, c⟩
      · rintro ⟨i, a | rfl, b, c⟩
        · exact ⟨i, a, b, c⟩
        · obtain ⟨y, hy, h4, h5⟩ := put_none hp
          obtain ⟨k, hk, rfl, _⟩ := (h3 y).1 hy
          rw [hF k hk, hj] at h5
          subst h5
          exact ⟨k, hk, b, c⟩
    · rw [if_neg hp]
      refine ⟨?_, ?_, fun x => ?_⟩
      · simp only [List.length_append, List.length_cons]
        have := congrArg List.length (List.take_append_drop (ItP.at_ (F j) (l.map (·.1))) l)
        simp only [List.length_append] at this
        omega
      · have e : costs (l.map (·.1)) = costs ((l.take (ItP.at_ (F j) (l.map (·.1)))).map (·.1)) + costs ((l.drop (ItP.at_ (F j) (l.map (·.1)))).map (·.1)) := by
          rw [← costs_append, ← List.map_append, List.take_append_drop]
        have := may_cost hm
        simp only [List.map_append, List.map_cons, costs_append, costs_cons]
        omega
      · have e : x ∈ l.map (·.1) ↔ x ∈ (l.take (ItP.at_ (F j) (l.map (·.1)))).map (·.1) ∨ x ∈ (l.drop (ItP.at_ (F j) (l.map (·.1)))).map (·.1) := by
          conv => lhs; rw [← List.take_append_drop (ItP.at_ (F j) (l.map (·.1))) l, List.map_append, List.mem_append]
        rw [h3 x] at e
        simp only [List.map_append, List.map_cons, List.mem_append, List.mem_cons]
        constructor
        · rintro (a | a | a)
          · obtain ⟨i, b, c, d⟩ := e.2 (.inl a); exact ⟨i, .inl b, c, d⟩
          · exact ⟨j, .inr rfl, a, by rw [a]; exact hm⟩
          · obtain ⟨i, b, c, d⟩ := e.2 (.inr a); exact ⟨i, .inl b, c, d⟩
        · rintro ⟨i, a | rfl, b, c⟩
          · rcases e.1 ⟨i, a, b, c⟩ with e | e
            · exact .inl e
            · exact .inr (.inr e)
          · exact .inr (.inl b)
theorem Holds.mono {F : Nat → It} {S T : Nat → Prop} {m : Nat} {l : List (It × Nat)} (h : Holds F S m l) (hST : ∀ i, S i ↔ T i) : Holds F T m l := ⟨h.1, h.2.1, fun x => (h.2.2 x).trans ⟨fun ⟨i, u, v⟩ => ⟨i, (hST i).1 u, v⟩, fun ⟨i, u, v⟩ => ⟨i, (hST i).2 u, v⟩⟩⟩
theorem holds_same {F : Nat → It} {S T : Nat → Prop} {m m' : Nat} {a b : List (It × Nat)} (h : Holds F S m a) (k : Holds F T m' b) (hST : ∀ i, S i ↔ T i) (ha : ItP.Srt (a.map (·.1))) (hb : ItP.Srt (b.map (·.1))) : a.map (·.1) = b.map (·.1) :=
  srt_ext ha hb fun x => (h.2.2 x).trans (Iff.trans ⟨fun ⟨i, u, v⟩ => ⟨i, (hST i).1 u, v⟩, fun ⟨i, u, v⟩ => ⟨i, (hST i).2 u, v⟩⟩ (k.2.2 x).symm)
end Go.Proofs.Ytkkeodfoiffofaa
namespace Go.Proofs.Ytkkeodfoiffofaa
open Go.RowKit
set_option linter.unusedVariables false
open MemP
theorem put_yes {l : List It} {x : It} (h : (ItP.put l x).2 = true) : (ItP.put l x).1 = l.take (ItP.at_ x l) ++ x :: l.drop (ItP.at_ x l) := by
  unfold ItP.put at *
  cases hd : l.drop (ItP.at_ x l) with
  | nil => simp
  | cons y r =>
    rw [hd] at h
    simp only at h ⊢
    by_cases e : ItP.ahead x y = true
    · rw [if_pos e]
    · rw [if_neg e] at h; cases h
theorem put_fresh {l : List It} {x : It} (hs : ItP.Srt l) (h : (ItP.put l x).2 = true) : ∀ y ∈ l, ¬ (y.key = x.key ∧ y.seq = x.seq) := by
  intro y hy hsm
  have ht := srt_take (x := x) hs
  rw [← List.take_append_drop (ItP.at_ x l) l, List.mem_append] at hy
  rcases hy with hy | hy
  · have := ht.1 y hy
    rw [ItP.not_ahead_of_same hsm] at this
    cases this
  · unfold ItP.put at h
    cases hd : l.drop (ItP.at_ x l) with
    | nil => rw [hd] at hy; cases hy
    | cons z r =>
      rw [hd] at h hy
      simp only at h
      have e : ItP.ahead x z = true := by
        by_cases e : ItP.ahead x z = true
        · exact e
        · rw [if_neg e] at h; cases h
      have hsd : List.Pairwise (fun a b => ItP.ahead a b = true) (z :: r) := by rw [← hd]; exact List.Pairwise.sublist (List.drop_sublist _ _) hs
      have hxy : ItP.ahead x y = true := by
        rcases List.mem_cons.1 hy with rfl | hy
        · exact e
        · exact ItP.ahead_trans e ((List.pairwise_cons.1 hsd).1 y hy)
      rw [ItP.not_ahead_of_same ⟨hsm.1.symm, hsm.2.symm⟩] at hxy
      cases hxy
theorem putR_bad {l : List (It × Nat)} {x : It} (h : ItP.may x = false) : putR l x = (1, l) := by unfold putR; rw [if_pos h]
theorem putR_old {l : List (It × Nat)} {x : It} (h : ItP.may x = true) (h2 : (ItP.put (l.map (·.1)) x).2 = false) : putR l x = (12, l) := by unfold putR; rw [if_neg (by rw [h]; decide), if_pos h2]
theorem putR_new {l : List (It × Nat)} {x : It} (h : ItP.may x = true) (h2 : (ItP.put (l.map (·.1)) x).2 = true) : putR l x = (0, l.take (ItP.at_ x (l.map (·.1))) ++ (x, hgt (l.length + 1)) :: l.drop (ItP.at_ x (l.map (·.1)))) := by unfold putR; rw [if_neg (by rw [h]; decide), if_neg (by rw [h2]; decide)]
/-- the keeper's list, and the items in the order in which they were put -/
structure Plays (la : List (It × Nat)) (O : List It) : Prop where
  len : O.length = la.length
  mem : ∀ y ∈ O, y ∈ la.map (·.1)
  hts : ∀ p ∈ la, ∀ (i : Nat) (y : It), O[i]? = some y → p.1.key = y.key → p.1.seq = y.seq → p.2 = hgt (i + 1)
  cost : costs (la.map (·.1)) ≤ la.length * 5000
theorem plays_nil : Plays [] [] := ⟨rfl, (fun y h => by cases h), (fun p h => by cases h), by simp [costs]⟩
theorem plays_put {la : List (It × Nat)} {O : List It} {x : It} (h : Plays la O) (hs : ItP.Srt (la.map (·.1))) (hm : ItP.may x = true) (hp : (ItP.put (la.map (·.1)) x).2 = true) :
    Plays (putR la x).2 (O ++ [x]) ∧ (putR la x).2.map (·.1) = (ItP.put (la.map (·.1)) x).1 ∧ (putR la x).2.length = la.length + 1 ∧ costs ((putR la x).2.map (·.1)) = costs (la.map (·.1)) + cost x := by
  have hf := put_fresh hs hp
  have hit : (putR la x).2.map (·.1) = (ItP.put (la.map (·.1)) x).1 := by
    rw [putR_new hm hp, put_yes hp]
    simp [List.map_take, List.map_drop]
  have hlen : (putR la x).2.length = la.length + 1 := by
    rw [putR_new hm hp]
    have := congrArg List.length (List.take_append_drop (ItP.at_ x (la.map (·.1))) la)
    simp only [List.length_append, List.length_cons] at this ⊢
    omega
  have hcost : costs ((putR la x).2.map (·.1)) = costs (la.map (·.1)) + cost x := by
    have e : costs (la.map (·.1)) = costs ((la.take (ItP.at_ x (la.map (·.1)))).map (·.1)) + costs ((la.drop (ItP.at_ x (la.map (·.1)))).map (·.1)) := by
      rw [← costs_append, ← List.map_append, List.take_append_drop]
    rw [putR_new hm hp]
    simp only [List.map_append, List.map_cons, costs_append, costs_cons]
    omega
  have hmem : ∀ p, p ∈ (putR la x).2 → p ∈ la ∨ p = (x, hgt (la.length + 1)) := fun p hp' => by
    rw [putR_new hm hp] at hp'
    simp only [List.mem_append, List.mem_cons] at hp'
    rcases hp' with a | a | a
    · exact .inl ((List.take_sublist _ _).mem a)
    · exact .inr a
    · exact .inl ((List.drop_sublist _ _).mem a)
  refine ⟨⟨by simp [hlen, h.len], fun y hy => ?_, fun p hpm i y hi hk hq => ?_, ?_⟩, hit, hlen, hcost⟩
  · rw [hit, put_yes hp]
    rcases List.mem_append.1 hy with hy | hy
    · have := h.mem y hy
      rw [← List.take_append_drop (ItP.at_ x (la.map (·.1))) (la.map (·.1)), List.mem_append] at this
      simp only [List.mem_append, List.mem_cons]
      rcases this with a | a
      · exact .inl a
      · exact .inr (.inr a)
    · simp at hy
      subst hy
      simp
  · rw [List.getElem?_append] at hi
    split at hi
    · rename_i hlt
      have hyO : y ∈ O := List.mem_of_getElem? hi
      rcases hmem p hpm with a | rfl
      · exact h.hts p a i y hi hk hq
      · exact absurd ⟨hk.symm, hq.symm⟩ (hf y (h.mem y hyO))
    · rename_i hge
      have hi0 : i - O.length = 0 := by
        have := (List.getElem?_eq_some_iff.1 hi).1
        simp at this
        omega
      rw [hi0] at hi
      simp at hi
      subst hi
      rcases hmem p hpm with a | rfl
      · exact absurd ⟨hk, hq⟩ (hf p.1 (List.mem_map.2 ⟨p, a, rfl⟩))
      · have := h.len
        show hgt (la.length + 1) = hgt (i + 1)
        rw [show i = la.length by omega]
  · have := may_cost hm
    have := h.cost
    rw [hcost, hlen]
    omega
set_option maxHeartbeats 400000 in
theorem law_height (n0 : Nat) (w : World) (hb : n0 ≤ 1000000) : Calls Try.prog 25 #[.int .i64 (n0 : Int)] w fun e w' => e = .returned (.int .i64 (hgt (n0 + 1) : Int)) ∧ w = w' := by
  obtain ⟨h0, hh0⟩ : ∃ h, h = n0 + 1 := ⟨_, rfl⟩
  rw [← hh0]
  have e0 : (n0 : Int) + 1 = (h0 : Int) := by omega
  have hb2 : h0 ≤ 9007199254740992 := by omega
  have HT := Lib.hid (show hgtF 12 1 h0 = hgt h0 from rfl)
  clear hh0
  go_enter Try.func25, Try.ntmps25
  go_wp2_with fail
  go_loop [3, 4] (fun u n => ∃ f k h : Nat, u = .int .i64 (h : Int) ∧ n = .int .i64 (k : Int) ∧ f + k = 13 ∧ 1 ≤ k ∧ k ≤ 12 ∧ h ≤ 9007199254740992 ∧ hgtF f k h = hgt h0) (fun _ n => 13 - (intOf n).toNat)
  case atStart => exact ⟨12, 1, h0, by first | rfl | rw [← e0], rfl, by omega, by omega, by omega, hb2, rfl⟩
  case round =>
    obtain ⟨f, k, h, rfl, rfl, hf, hk1, hk12, hhb, he⟩ := hrel
    have HE := Lib.hid he
    clear he
    by_cases hc : h % 4 = 0 ∧ k < 12
    · obtain ⟨f', rfl⟩ : ∃ f', f = f' + 1 := ⟨f - 1, by omega⟩
      have HE2 := Lib.hid (show hgtF f' (k + 1) (h / 4) = hgt h0 by rw [← HE.out]; conv => rhs; unfold hgtF; rw [if_pos hc])
      have q1 : ((h : Int) % 4 == 0) = true := by simp; omega
      have q2 : (k : Int) < 12 := by omega
      have q3 : (0 : Int) ≤ (h : Int) := by omega
      have q4 : (h : Int) ≤ 9007199254740992 := by omega
      clear hc
      go_wp2_with fail
      go_round
      case rel => exact ⟨f', k + 1, h / 4, by go_num, by go_num, by omega, by omega, by omega, by omega, HE2.out⟩
      case measure => simp [intOf]; omega
    · have HK := Lib.hid (show hgt h0 = k by
        rw [← HE.out]
        cases f with
        | zero => rfl
        | succ f => unfold hgtF; rw [if_neg hc])
      have q3 : (0 : Int) ≤ (h : Int) := by omega
      have q4 : (h : Int) ≤ 9007199254740992 := by omega
      by_cases h4 : h % 4 = 0
      · have q1 : ((h : Int) % 4 == 0) = true := by simp; omega
        have q2 : ¬ (k : Int) < 12 := by omega
        clear hc
        go_wp2_with fail
        go_ret
        exact ⟨by rw [HK.out]; rfl, rfl⟩
      · have q1 : ((h : Int) % 4 == 0) = false := by simp; omega
        clear hc
        go_wp2_with fail
        go_ret
        exact ⟨by rw [HK.out]; rfl, rfl⟩
end Go.Proofs.Ytkkeodfoiffofaa
namespace Go.Proofs.Ytkkeodfoiffofaa
open Go.RowKit
set_option linter.unusedVariables false
open MemP
theorem drop_tw (p : It → Bool) : ∀ l : List It, l.drop (l.takeWhile p).length = l.dropWhile p
  | [] => rfl
  | y :: r => by
    rw [List.takeWhile_cons, List.dropWhile_cons]
    cases h : p y with
    | true => simpa using drop_tw p r
    | false => simp
theorem tailI_dw (l : List It) (x : It) : tailI l x = l.dropWhile fun y => ItP.ahead y x := by unfold tailI ItP.at_; exact drop_tw _ l
theorem less_nil (a : List UInt8) : ItP.lessK a [] = false := by cases a <;> rfl
theorem all_eq {l : List It} (hq : ∀ x ∈ l, x.seq < m64) : tailI l ⟨[], m64 - 1, false, []⟩ = l := by
  rw [tailI_dw]
  cases l with
  | nil => rfl
  | cons y r =>
    have h := hq y (by simp)
    have hm := m64_eq
    have e : ItP.ahead y ⟨[], m64 - 1, false, []⟩ = false := by
      unfold ItP.ahead
      by_cases hk : y.key = []
      · rw [if_pos hk]; simp; omega
      · rw [if_neg hk]; exact less_nil _
    rw [List.dropWhile_cons, e]
    simp
/-- a key before all others of a sorted list's rest -/
theorem keys_after {y z : It} {key : List UInt8} (h : ItP.ahead y z = true) (hz : ItP.lessK z.key key = true) : ItP.lessK y.key key = true := by
  unfold ItP.ahead at h
  by_cases e : y.key = z.key
  · rw [e]; exact hz
  · rw [if_neg e] at h
    exact ItP.less_trans h hz
theorem from_eq {key : List UInt8} : ∀ {l : List It}, ItP.Srt l → (∀ x ∈ l, x.seq < m64) → tailI l ⟨key, m64 - 1, false, []⟩ = ItP.from_ l key
  | [], _, _ => by rw [tailI_dw]; rfl
  | y :: r, hs, hq => by
    have hm := m64_eq
    have hy := hq y (by simp)
    unfold ItP.Srt at hs
    rw [List.pairwise_cons] at hs
    have ih := from_eq (key := key) (l := r) hs.2 fun x hx => hq x (by simp [hx])
    rw [tailI_dw] at ih ⊢
    have e : ItP.ahead y ⟨key, m64 - 1, false, []⟩ = ItP.lessK y.key key := by
      unfold ItP.ahead
      by_cases hk : y.key = key
      · rw [if_pos hk, hk, ItP.less_irrefl]; simp; omega
      · rw [if_neg hk]
    rw [List.dropWhile_cons, e]
    unfold ItP.from_ at ih ⊢
    cases hl : ItP.lessK y.key key with
    | true =>
      rw [List.filter_cons, hl]
      simpa using ih
    | false =>
      rw [List.filter_cons, hl]
      simp only [Bool.false_eq_true, if_false, Bool.not_false, if_true]
      congr 1
      symm
      rw [List.filter_eq_self]
      intro z hz
      cases hl2 : ItP.lessK z.key key with
      | false => rfl
      | true => rw [keys_after (hs.1 z hz) hl2] at hl; cases hl
theorem best_stays {key : List UInt8} {q : Nat} {b : It} : ∀ {r : List It}, (∀ z ∈ r, z.key = key → z.seq ≤ b.seq) → r.foldl (ItP.best key q) (some b) = some b
  | [], _ => rfl
  | z :: r, h => by
    have e : ItP.best key q (some b) z = some b := by
      unfold ItP.best
      split
      · rename_i hc
        have := h z (by simp) hc.1
        simp only
        rw [if_neg (by omega)]
      · rfl
    rw [List.foldl_cons, e]
    exact best_stays fun x hx => h x (by simp [hx])
theorem best_none {key : List UInt8} {q : Nat} : ∀ {r : List It}, (∀ z ∈ r, z.key ≠ key) → r.foldl (ItP.best key q) none = none
  | [], _ => rfl
  | z :: r, h => by
    have e : ItP.best key q none z = none := by
      unfold ItP.best
      rw [if_neg fun hc => h z (by simp) hc.1]
    rw [List.foldl_cons, e]
    exact best_none fun x hx => h x (by simp [hx])
theorem get_eq {key : List UInt8} {q : Nat} : ∀ {l : List It}, ItP.Srt l → getI l key q = ItP.get l key q
  | [], _ => by unfold getI; rw [tailI_dw]; rfl
  | y :: r, hs => by
    unfold ItP.Srt at hs
    rw [List.pairwise_cons] at hs
    have ih := get_eq (key := key) (q := q) (l := r) hs.2
    unfold getI ItP.get at ih ⊢
    rw [tailI_dw] at ih ⊢
    rw [List.dropWhile_cons, List.foldl_cons]
    by_cases hk : y.key = key
    · have e : ItP.ahead y ⟨key, q, false, []⟩ = decide (q < y.seq) := by unfold ItP.ahead; rw [if_pos hk]
      rw [e]
      by_cases hq : q < y.seq
      · have e2 : ItP.best key q none y = none := by unfold ItP.best; rw [if_neg (by omega)]
        rw [e2]
        simpa [hq] using ih
      · have e2 : ItP.best key q none y = some y := by unfold ItP.best; rw [if_pos ⟨hk, by omega⟩]
        rw [e2, best_stays (fun z hz hzk => by
          have := hs.1 z hz
          unfold ItP.ahead at this
          rw [if_pos (by rw [hk, hzk])] at this
          simp at this
          omega)]
        simp [hq, hk]
    · have e : ItP.ahead y ⟨key, q, false, []⟩ = ItP.lessK y.key key := by unfold ItP.ahead; rw [if_neg hk]
      have e2 : ItP.best key q none y = none := by unfold ItP.best; rw [if_neg fun hc => hk hc.1]
      rw [e, e2]
      cases hl : ItP.lessK y.key key with
      | true => simpa using ih
      | false =>
        have hgt : ItP.lessK key y.key = true := by
          rcases ItP.less_total hk with h | h
          · rw [h] at hl; cases hl
          · exact h
        rw [best_none (fun z hz hzk => by
          have := hs.1 z hz
          unfold ItP.ahead at this
          by_cases e : y.key = z.key
          · exact hk (by rw [e, hzk])
          · rw [if_neg e, hzk] at this
            rw [this] at hl
            cases hl)]
        simp [hk]
end Go.Proofs.Ytkkeodfoiffofaa
