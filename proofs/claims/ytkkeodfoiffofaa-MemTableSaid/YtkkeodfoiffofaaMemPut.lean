/- The walk of (*Mem).Put. -/
import Derived.Test.YtkkeodfoiffofaaMemA
import Derived.Test.YtkkeodfoiffofaaPh2
import Derived.Test.YtkkeodfoiffofaaClass
import Derived.Laws.MakeOwn
namespace Go.Proofs.Ytkkeodfoiffofaa
open Go.RowKit
set_option linter.unusedVariables false
open MemP
theorem info_ptr : (Try.prog.info? 73).map (fun i => (i.zero, i.size, i.bytes)) = some (some (.pointer none), 1, 8) := by kernel_rfl
set_option maxRecDepth 100000 in
theorem run_makeP (h : Nat) (hh : h ≤ 12) (W : World) : (Instr.makeSlice 68 (.int .i64 (h : Int)) (.int .i64 (h : Int))).run Try.prog W = .ok (.slice (some ⟨W.heap.size, 0, none⟩) h h) (W.alloc (.cells (Array.replicate h (.pointer none)) 73)) := by
  obtain ⟨i0, hi, hz0, hz1, hz2⟩ := info_parts info_ptr
  have hr := run_make (P := Try.prog) W 68 73 i0 (.pointer none) Try.underlying68 hi hz0 .i64 .i64 (h : Int) (h : Int) (by omega) (by omega) (by rw [hz2]; omega) (by omega)
  simp only [Int.toNat_natCast, hz1, Nat.mul_one] at hr
  rw [hr]
  congr 3
  apply Array.ext'
  have e : (madeCells (Value.pointer none).cells h).toList = List.replicate h (Value.pointer none) := toList_madeCells_one _ h
  rw [e]
  simp
theorem run_buildN (x : It) (A : Option Addr) (n c : Nat) (W : World) : (Instr.build 70 #[(0, iv x), (1, .slice A n c)]).run Try.prog W = .ok (.agg #[.string ⟨x.key.toArray⟩, .int .u64 (x.seq : Int), .bool x.gone, .string ⟨x.val.toArray⟩, .slice A n c]) W := by kernel_rfl
theorem srt_ins {P S : List Nd} {nu : Nd} {x : It} (hs : SrtN (P ++ S)) (hx : nu.x = x) (hP : ∀ q ∈ P, ItP.ahead q.x x = true) (hS : ∀ q ∈ S, ItP.ahead x q.x = true) : SrtN (P ++ nu :: S) := by
  unfold SrtN ItP.Srt at *
  rw [List.map_append, List.pairwise_append] at hs
  rw [List.map_append, List.map_cons, List.pairwise_append, List.pairwise_cons]
  refine ⟨hs.1, ⟨fun y hy => ?_, hs.2.1⟩, fun a ha b hb => ?_⟩
  · obtain ⟨q, hq, rfl⟩ := List.mem_map.1 hy
    rw [hx]
    exact hS q hq
  · obtain ⟨q, hq, rfl⟩ := List.mem_map.1 ha
    rcases List.mem_cons.1 hb with rfl | hb
    · rw [hx]; exact hP q hq
    · exact hs.2.2 _ (List.mem_map.2 ⟨q, hq, rfl⟩) b hb
/-- behind the first one that x stands ahead of, it stands ahead of all -/
theorem ahead_all {q : Nd} {S : List Nd} {x : It} (hs : SrtN (q :: S)) (h : ItP.ahead x q.x = true) : ∀ p ∈ q :: S, ItP.ahead x p.x = true := by
  intro p hp
  unfold SrtN ItP.Srt at hs
  rw [List.map_cons, List.pairwise_cons] at hs
  rcases List.mem_cons.1 hp with rfl | hp
  · exact h
  · exact ItP.ahead_trans h (hs.1 p.x (List.mem_map.2 ⟨p, hp, rfl⟩))
/-- what Put did -/
def PutRel (D : Nat) (ns : List Nd) (x : It) (c : Int) (ns' : List Nd) : Prop :=
  (ItP.may x = false ∧ c = 1 ∧ ns' = ns) ∨ (ItP.may x = true ∧ c = 12 ∧ (ItP.put (ns.map (·.x)) x).2 = false ∧ ns' = ns) ∨
  (ItP.may x = true ∧ c = 0 ∧ (ItP.put (ns.map (·.x)) x).2 = true ∧ ns'.map (·.x) = (ItP.put (ns.map (·.x)) x).1 ∧ ∃ P nu S, ns = P ++ S ∧ P.length = ItP.at_ x (ns.map (·.x)) ∧ ns' = P ++ nu :: S ∧ nu.x = x ∧ nu.h = hgt (ns.length + 1) ∧ D ≤ nu.b ∧ D ≤ nu.r)
/-- what a call of Put leaves -/
def PutPost (w : World) (B : Nat) (hd : Nd) (ns : List Nd) (x : It) (e : Ending) (w' : World) : Prop := ∃ (c : Int) (ns' : List Nd), e = .returned (.int .i64 c) ∧ MemI w' B hd ns' ∧ Stay (blksN (hd :: ns)) w w' ∧ PutRel w.heap.size ns x c ns'
theorem put_ins {P S : List Nd} {x : It} (hl : P.length = ItP.at_ x ((P ++ S).map (·.x))) (hS : ∀ q ∈ S, ItP.ahead x q.x = true) : ItP.put ((P ++ S).map (·.x)) x = (P.map (·.x) ++ x :: S.map (·.x), true) := by
  have e1 : ((P ++ S).map (·.x)).drop (ItP.at_ x ((P ++ S).map (·.x))) = S.map (·.x) := by rw [← hl, List.map_append, List.drop_left' (by simp)]
  have e2 : ((P ++ S).map (·.x)).take (ItP.at_ x ((P ++ S).map (·.x))) = P.map (·.x) := by rw [← hl, List.map_append, List.take_left' (by simp)]
  unfold ItP.put
  rw [e1, e2]
  cases S with
  | nil => rfl
  | cons q S =>
    simp only [List.map_cons]
    rw [if_pos (hS q (by simp))]
theorem put_has {P S : List Nd} {q : Nd} {x : It} (hl : P.length = ItP.at_ x ((P ++ q :: S).map (·.x))) (hq : ItP.ahead x q.x = false) : (ItP.put ((P ++ q :: S).map (·.x)) x).2 = false := by
  have e1 : ((P ++ q :: S).map (·.x)).drop (ItP.at_ x ((P ++ q :: S).map (·.x))) = q.x :: S.map (·.x) := by rw [← hl, List.map_append, List.drop_left' (by simp)]; rfl
  unfold ItP.put
  rw [e1]
  simp [hq]
/-- the worlds of 'n.next[i], l[i].next[i] = l[i].next[i], n' -/
def LinkC (W : World) (r1 r2 j : Nat) (v1 v2 : Value) (p : Nat) (W' : World) : Prop :=
  (p ≤ 1 ∧ W' = W) ∨ (p = 2 ∧ W' = W.setCell ⟨r1, j, none⟩ v1) ∨ (p = 3 ∧ W' = (W.setCell ⟨r1, j, none⟩ v1).setCell ⟨r2, j, none⟩ v2)
theorem LinkC.cell {W W' : World} {r1 r2 j p : Nat} {v1 v2 u : Value} {a : Addr} (h : LinkC W r1 r2 j v1 v2 p W') (h1 : a.block ≠ r1) (h2 : a.block ≠ r2) (hc : W.cell? a = some u) : W'.cell? a = some u := by
  rcases h with ⟨_, rfl⟩ | ⟨_, rfl⟩ | ⟨_, rfl⟩
  · exact hc
  · rw [World.cell?_setCell_other W _ a _ (fun e => h1 (by rw [← e]))]; exact hc
  · rw [World.cell?_setCell_other _ _ a _ (fun e => h2 (by rw [← e])), World.cell?_setCell_other W _ a _ (fun e => h1 (by rw [← e]))]; exact hc
/-- how far the linking has come -/
structure Linking (w : World) (B : Nat) (hd : Nd) (P S : List Nd) (nu : Nd) (b5 : Nat) (arr : List Value) (lenZ : Int) (bytesZ : Int) (w0 : World) (K : Nat → Prop) (j : Nat) : Prop where
  lst : Lst w B ((hd :: P) ++ atLevel nu j :: S)
  arr : ArrV w b5 arr
  len : w.cell? ⟨hd.b, 5, none⟩ = some (.int .i64 lenZ) ∧ w.frozen? ⟨hd.b, 5, none⟩ = false
  bytes : w.cell? ⟨hd.b, 6, none⟩ = some (.int .i64 bytesZ) ∧ w.frozen? ⟨hd.b, 6, none⟩ = false
  stay : Stay K w0 w
theorem Linking.drewN {w : World} {B : Nat} {hd nu : Nd} {P S : List Nd} {b5 : Nat} {arr : List Value} {lenZ bytesZ : Int} {w0 : World} {K : Nat → Prop} {j : Nat} (h : Linking w B hd P S nu b5 arr lenZ bytesZ w0 K j) (n : Nat) : Linking (w.drewN n) B hd P S nu b5 arr lenZ bytesZ w0 K j :=
  ⟨h.lst.grew (Grew.drewN w n), h.arr.drewN n, h.len, h.bytes, h.stay.grew (Grew.drewN w n)⟩
/-- one level more: the two stores -/
theorem Linking.step {w : World} {B : Nat} {hd nu nd : Nd} {P S A A2 : List Nd} {b5 : Nat} {arr : List Value} {lenZ bytesZ : Int} {w0 : World} {K : Nat → Prop} {j : Nat} (h : Linking w B hd P S nu b5 arr lenZ bytesZ w0 K j)
    (hj : j < nu.s) (hP : hd :: P = A ++ nd :: A2) (hnd : j < nd.h) (hA2 : ∀ a ∈ A2, a.h ≤ j) (hb5 : b5 ≠ nu.r ∧ b5 ≠ nd.r) (hK : (K nu.r ∨ w0.heap.size ≤ nu.r) ∧ (K nd.r ∨ w0.heap.size ≤ nd.r)) (hne : nu.r ≠ nd.r) :
    Linking ((w.setCell ⟨nu.r, j, none⟩ (.pointer (nxt S j))).setCell ⟨nd.r, j, none⟩ (.pointer (some ⟨nu.b, 0, none⟩))) B hd P S nu b5 arr lenZ bytesZ w0 K (j + 1) := by
  have hnum : atLevel nu j ∈ (hd :: P) ++ atLevel nu j :: S := by simp
  have hhd : hd ∈ (hd :: P) ++ atLevel nu j :: S := by simp
  have hndm : nd ∈ (hd :: P) ++ atLevel nu j :: S := by rw [hP]; simp
  have b1 : hd.b ≠ nu.r := h.lst.b_ne_r (q := atLevel nu j) hhd hnum
  have b2 : hd.b ≠ nd.r := h.lst.b_ne_r hhd hndm
  refine ⟨h.lst.level hj hP hnd hA2 (fun g g1 g2 => ?_) (fun cs hc => ?_) (fun cs hc => ?_), (h.arr.setOther (by exact fun e => hb5.1 e.symm) _).setOther (by exact fun e => hb5.2 e.symm) _, ?_, ?_, (h.stay.setCell hK.1 _).setCell hK.2 _⟩
  · rw [Below.heap_setCell _ _ _ g g2, Below.heap_setCell _ _ _ g g1]
  · rw [Below.heap_setCell _ _ _ nu.r hne]
    exact heap_setCell_at w nu.r j cs _ _ _ hc
  · refine heap_setCell_at _ nd.r j cs _ _ _ ?_
    rw [Below.heap_setCell _ _ _ nd.r (fun e => hne e.symm)]
    exact hc
  · refine ⟨?_, by rw [World.frozen?_setCell, World.frozen?_setCell]; exact h.len.2⟩
    rw [World.cell?_setCell_other _ _ _ _ (fun e => b2 (congrArg Addr.block e).symm), World.cell?_setCell_other _ _ _ _ (fun e => b1 (congrArg Addr.block e).symm)]
    exact h.len.1
  · refine ⟨?_, by rw [World.frozen?_setCell, World.frozen?_setCell]; exact h.bytes.2⟩
    rw [World.cell?_setCell_other _ _ _ _ (fun e => b2 (congrArg Addr.block e).symm), World.cell?_setCell_other _ _ _ _ (fun e => b1 (congrArg Addr.block e).symm)]
    exact h.bytes.1
/-- the counters are no part of the head's node -/
theorem NodeC.setHigh {w : World} {nd : Nd} (h : NodeC w nd) {j : Nat} (hj : 5 ≤ j) (v : Value) : NodeC (w.setCell ⟨nd.b, j, none⟩ v) nd := by
  obtain ⟨cs, e, h1, h2, h3⟩ := h
  refine ⟨_, e, heap_setCell_at w nd.b j cs e _ v h1, h2, fun i u hi => ?_⟩
  have hl := (List.getElem?_eq_some_iff.1 hi).1
  simp [itv] at hl
  rw [Array.getElem?_setIfInBounds, if_neg (by omega)]
  exact h3 i u hi
/-- the array that ahead answered, in a variable of its own -/
theorem made12 (W : World) (full : List Nd) (x : It) (arr : List Value) (h : AheadV full x arr) :
    (W.alloc (.cells nils12.toArray 74)).there W.heap.size 0 arr.toArray.size ∧ (Try.prog.info? 74).map (·.size) = some arr.toArray.size ∧ arr.toArray.all (·.oneCell') = true ∧
    ArrV ((W.alloc (.cells nils12.toArray 74)).setCells W.heap.size 0 arr) W.heap.size arr ∧ Grew W ((W.alloc (.cells nils12.toArray 74)).setCells W.heap.size 0 arr) := by
  have hA := ArrV.made W nils12.toArray 74
  rw [List.toList_toArray] at hA
  have e12 : arr.toArray.size = 12 := by simp [h.1]
  refine ⟨?_, ?_, ?_, hA.setAll (by rw [h.1]; rfl), ?_⟩
  · have := hA.there
    rw [e12]
    exact this
  · rw [e12]; exact size_arr12
  · refine all_oneCell_toArray fun v hv => ?_
    obtain ⟨j, hj, e⟩ := List.getElem_of_mem hv
    obtain ⟨nd', e1, _⟩ := h.2 j (by rw [← h.1]; exact hj)
    rw [List.getElem?_eq_getElem hj, e] at e1
    injection e1 with e1
    rw [e1]
    rfl
  · exact ((Below.refl _ W).alloc (Nat.le_refl _) _).grown (grown_setCells W.heap.size arr 0 _) (by simp) (fun k e => by cases e; exact Nat.le_refl _)
theorem frozen_blk {w : World} {g : Nat} {cs : Array Value} {e : TypeId} (h : w.heap[g]? = some (.cells cs e (0, 0))) (j : Nat) : w.frozen? ⟨g, j, none⟩ = false := by simp [World.frozen?, h]
theorem put_mid {P S : List Nd} {nu : Nd} {x : It} (hx : nu.x = x) : (P ++ nu :: S).map (·.x) = P.map (·.x) ++ x :: S.map (·.x) := by simp [hx]
theorem blks_mono {hd nd : Nd} {P S : List Nd} (hm : nd ∈ hd :: P) : blksN (hd :: (P ++ S)) nd.r := ⟨nd, by
  rcases List.mem_cons.1 hm with rfl | hm
  · simp
  · simp [hm], .inr rfl⟩
set_option maxRecDepth 100000 in
set_option maxHeartbeats 8000000 in
theorem mem_put (B : Nat) (hd : Nd) (ns : List Nd) (x : It) (w : World) (hM : MemI w B hd ns) (hBw : B ≤ w.heap.size) (hn : ns.length ≤ 1000000) (hcost : costs (ns.map (·.x)) ≤ 1000000000000) :
    Calls Try.prog 15 #[.pointer (some ⟨hd.b, 0, none⟩), iv x] w fun e w' => PutPost w B hd ns x e w' := by
  obtain ⟨w1, hw1⟩ : ∃ w1, w1 = w.alloc (.cells #[.string ⟨x.key.toArray⟩, .int .u64 (x.seq : Int), .bool x.gone, .string ⟨x.val.toArray⟩] 29) := ⟨_, rfl⟩
  have HG1 := Lib.hid (show Grew w w1 by rw [hw1]; exact (Below.refl _ _).alloc (Nat.le_refl _) _)
  have HX1 := Lib.hid (show IBox w1 w.heap.size x by rw [hw1]; exact IBox.new w x)
  have HM := Lib.hid hM
  have HW1 := Lib.hid hw1
  have HN := Lib.hid hn
  have HCO := Lib.hid hcost
  obtain ⟨bx, hbx⟩ : ∃ v, v = w.heap.size := ⟨_, rfl⟩
  have HBX := Lib.hid hbx
  rw [← hbx] at HX1
  have HBw := Lib.hid hBw
  have HGOOD : Hid (∀ W, Calls Try.prog 41 #[iv x] W fun e w'' => e = .returned (.bool (ItP.may x)) ∧ Grew W w'') := Lib.hid fun W => mem_good x W
  clear hM hw1 hn hcost hbx hBw
  by_cases hmay : ItP.may x = true
  · rw [hmay] at HGOOD
    have HMAY := Lib.hid hmay
    clear hmay
    obtain ⟨P, S, hPS, hPl, hP, hS⟩ := parts HM.out.srt x
    subst hPS
    have HPl := Lib.hid hPl
    have HP := Lib.hid hP
    have HS := Lib.hid hS
    have HAh : Hid (∀ W, Grew w W → Calls Try.prog 42 #[.pointer (some ⟨hd.b, 0, none⟩), iv x] W fun e w' => ∃ arr, e = .returned (.agg arr.toArray) ∧ AheadV (hd :: (P ++ S)) x arr ∧ Grew W w') := Lib.hid fun W hW =>
      mem_ahead B hd (P ++ S) x W (HM.out.lst.grew hW) HM.out.hh HM.out.srt (fun q hq => by
        rcases List.mem_cons.1 hq with rfl | hq
        · rw [HM.out.hs]; omega
        · exact (HM.out.hts q hq).2.2)
    clear hPl hP hS
    go_enter Try.func15, Try.ntmps15
    go_upto_region 1 with fail
    rw [← HBX.out, ← HW1.out]
    have x0 := range_cells HX1.out.range
    obtain ⟨y0, y1, y2, y3⟩ := x0
    go_upto_region 3 with (go_at_call 41; refine (HGOOD.out _).mono ?_; rintro e w2 ⟨rfl, hG2⟩)
    clear y0 y1 y2 y3
    have HG2 := Lib.hid (HG1.out.trans hG2)
    have HX2 := Lib.hid (HX1.out.grew hG2)
    clear hG2
    obtain ⟨y0, y1, y2, y3⟩ := range_cells HX2.out.range
    go_upto_region 4 with (first
      | (go_at_call 42; refine (HAh.out w2 HG2.out).mono ?_; rintro e w3 ⟨arr, rfl, hV, hG3⟩; have HV := Lib.hid hV; have HG3 := Lib.hid (HG2.out.trans hG3); have HX3 := Lib.hid (HX2.out.grew hG3); have HMD := Lib.hid (made12 w3 _ x arr hV); clear hV hG3)
      | (refine wpList_value (o := ⟨some 5, _, _, _, _, _⟩) (v := .pointer (some ⟨w3.heap.size, 0, none⟩)) (w' := w3.alloc (.cells nils12.toArray 74)) rfl (by kernel_rfl) ?_)
      | (refine wpList_store_mid rfl 74 (.tmp 5) (.tmp 14) rfl w3.heap.size 0 arr.toArray rfl rfl HMD.out.1 HMD.out.2.1 HMD.out.2.2.1 ?_; rw [List.toList_toArray]))
    clear y0 y1 y2 y3
    obtain ⟨b5, hb5⟩ : ∃ v, v = w3.heap.size := ⟨_, rfl⟩
    rw [← hb5] at HMD ⊢
    obtain ⟨w5, hw5⟩ : ∃ v, v = (w3.alloc (.cells nils12.toArray 74)).setCells b5 0 arr := ⟨_, rfl⟩
    rw [← hw5] at HMD ⊢
    have HG5 := Lib.hid (HG3.out.trans HMD.out.2.2.2.2)
    have HX5 := Lib.hid (HX3.out.grew HMD.out.2.2.2.2)
    have HA50 := Lib.hid HMD.out.2.2.2.1
    have HB5w := Lib.hid (show w.heap.size ≤ b5 by rw [hb5]; exact HG3.out.size)
    clear HMD hb5 hw5
    have HM5 := Lib.hid (HM.out.grew HG5.out)
    have HKV := Lib.hid (show (x.key.length : Int) ≤ 256 ∧ (x.val.length : Int) ≤ 4096 by
      have := HMAY.out
      unfold ItP.may at this
      simp at this
      omega)
    have HBN := Lib.hid (show ∀ q ∈ P ++ S, q.b ≠ hd.b from HM.out.nob)
    obtain ⟨nd0, ha0, hl0⟩ := HV.out.2 0 (by omega)
    obtain ⟨A0, A20, k1, k2, k3, k4⟩ := last_in HP.out HS.out hl0
    have hrow0 := HM5.out.lst.row A0 nd0 (A20 ++ S) k4
    have q1 := (hrow0.cell k2).1
    rw [nxt_past k3] at q1
    have q2 := ((HM5.out.lst.node nd0 (by rw [k4]; simp)).cells).2
    have q3 : w5.cell? ⟨b5, 0, none⟩ = some (.pointer (some ⟨nd0.b, 0, none⟩)) := by
      have h1 := HA50.out.cell (i := 0) (by rw [HV.out.1]; omega)
      rw [h1, ← List.getElem?_eq_getElem]
      exact ha0
    have q4 : 0 < nd0.s := by obtain ⟨_, _, _, h3, _⟩ := hrow0; omega
    clear ha0 hl0 k1 k2 k3 k4 hrow0
    have hcase : S = [] ∨ ∃ q S', S = q :: S' := by cases S with
      | nil => exact .inl rfl
      | cons q S' => exact .inr ⟨q, S', rfl⟩
    rcases hcase with hSc | ⟨q, S', hSc⟩
    · rw [hSc, nxt_nil] at q1
      have HSc := Lib.hid hSc
      clear hSc
      go_upto_region 5 with fail
      clear q1 q2 q3 q4
      refine wp_region_x [] (by kernel_rfl) (by kernel_rfl) (by kernel_rfl) ?_
      simp only [blank, List.foldl_nil]
      repeat (first | (refine wpX_value (v := ?_) rfl (by intros; simp) rfl rfl (fun x => ?_) ?_; rotate_left; (focus (simp [go_sem]; (try go_ints); first | done | (with_reducible rfl))); (simp only [Act.put, List.setIfInBounds_toArray, List.set_cons_succ, List.set_cons_zero])) | (refine wpX_skip rfl ?_; (simp only [Act.put, List.setIfInBounds_toArray, List.set_cons_succ, List.set_cons_zero])))
      (refine wpX_nil ?_; intro xb wx hxg xl; obtain ⟨xf, xe⟩ := LikeAll.end_ xl; clear xl; subst xe; simp only [fill, List.foldl_nil, Act.put])
      have HGx := Lib.hid (HG5.out.trans hxg)
      have HMx := Lib.hid (HM.out.grew HGx.out)
      have HXx := Lib.hid (HX5.out.grew hxg)
      have HA5 := Lib.hid (HA50.out.grew hxg)
      have HSA := Lib.hid (show ∀ p ∈ S, ItP.ahead x p.x = true from fun p h => by rw [HSc.out] at h; cases h)
      have HB5 := Lib.hid (show b5 ≠ hd.b from fun e => by have h1 := (HM.out.lt hd.b ⟨hd, by simp, .inl rfl⟩).2; have h2 := HB5w.out; omega)
      have HSZ7 := Lib.hid (show wx.heap.size = wx.heap.size from rfl)
      have hLdef : ∃ L, L = (P ++ S).length := ⟨_, rfl⟩
      obtain ⟨L, hL⟩ := hLdef
      obtain ⟨CB, hCB⟩ : ∃ C, C = costs ((P ++ S).map (·.x)) := ⟨_, rfl⟩
      have hlen := HMx.out.len
      have hbyt := HMx.out.bytes
      rw [← hL] at hlen
      rw [← hCB] at hbyt
      have hL6 : L ≤ 1000000 := by rw [hL]; exact HN.out
      have hCB12 : CB ≤ 1000000000000 := by rw [hCB]; exact HCO.out
      have HL := Lib.hid hL
      have HCB := Lib.hid hCB
      have HBY := Lib.hid hbyt
      obtain ⟨l1, l2⟩ := hlen
      clear hbyt hL hCB
      go_upto_region 8 with fail
      obtain ⟨w7, hw7⟩ : ∃ v, v = wx.setCell ⟨hd.b, 5, none⟩ (.int .i64 ((L : Int) + 1)) := ⟨_, rfl⟩
      rw [← hw7]
      have hdm : hd ∈ hd :: (P ++ S) := by simp
      have HND := Lib.hid (show NodeC w7 hd by rw [hw7]; exact (HMx.out.lst.node hd hdm).setHigh (by omega) _)
      have hbxh : bx ≠ hd.b := fun e => by
        have h1 := (HM.out.lt hd.b ⟨hd, hdm, .inl rfl⟩).2
        rw [← e, HBX.out] at h1
        omega
      have HX7 := Lib.hid (show IBox w7 bx x by rw [hw7]; exact HXx.out.keep (Below.heap_setCell wx ⟨hd.b, 5, none⟩ _ bx hbxh))
      have hcs5 : ∃ u, wx.cell? ⟨hd.b, 5, none⟩ = some u := ⟨_, l1⟩
      have HL7 := Lib.hid (show w7.cell? ⟨hd.b, 5, none⟩ = some (.int .i64 ((L : Int) + 1)) ∧ w7.frozen? ⟨hd.b, 5, none⟩ = false by rw [hw7]; exact ⟨World.cell?_setCell_same' _ _ _ (by rw [l1]; rfl), by rw [World.frozen?_setCell]; exact l2⟩)
      have HY7 := Lib.hid (show w7.cell? ⟨hd.b, 6, none⟩ = some (.int .i64 (CB : Int)) ∧ w7.frozen? ⟨hd.b, 6, none⟩ = false by rw [hw7]; exact ⟨by rw [World.cell?_setCell_other _ _ _ _ (by simp)]; exact HBY.out.1, by rw [World.frozen?_setCell]; exact HBY.out.2⟩)
      have HSW7 := Lib.hid (show w7.heap.size = wx.heap.size by rw [hw7]; simp [World.setCell])
      have HK7 := Lib.hid (show ∀ g, g ≠ hd.b → w7.heap[g]? = wx.heap[g]? from fun g hg => by rw [hw7]; exact Below.heap_setCell wx ⟨hd.b, 5, none⟩ _ g hg)
      have HST7 := Lib.hid (show Stay (blksN (hd :: (P ++ S))) w w7 by rw [hw7]; exact (Stay.of_grew HGx.out).setCell (.inl ⟨hd, hdm, .inl rfl⟩) _)
      clear hw7 l1 l2 hcs5 HBY
      obtain ⟨y0, y1, y2, y3⟩ := range_cells HX7.out.range
      obtain ⟨b1, b2⟩ := HY7.out
      have hks := ba_size x.key
      have hvs := ba_size x.val
      have hk256 : (x.key.length : Int) ≤ 256 := HKV.out.1
      have hv4096 : (x.val.length : Int) ≤ 4096 := HKV.out.2
      have hk0 : (0 : Int) ≤ (x.key.length : Int) := by omega
      have hv0 : (0 : Int) ≤ (x.val.length : Int) := by omega
      refine wp_region_st 15 (by kernel_rfl) (by kernel_rfl) ?_
      simp only [List.take_succ_cons, List.take_zero, List.drop_succ_cons, List.drop_zero]
      have hqq := And.intro y0 (And.intro y3 (And.intro b1 (And.intro hks hvs)))
      repeat ((refine wpS_value (v := ?_) rfl ?_ ?_; rotate_left; (focus (simp [go_sem, hqq]; (try go_ints); first | done | (with_reducible rfl))); (simp only [Act.put, List.setIfInBounds_toArray, List.set_cons_succ, List.set_cons_zero])))
      refine wpStill_nil ?_
      clear hqq y0 y1 y2 y3
      go_upto_region 9 with fail
      obtain ⟨w8, hw8⟩ : ∃ v, v = World.setCell (World.drewN w7 1) ⟨hd.b, 6, none⟩ (.int .i64 ((CB : Int) + (16 + (x.key.length : Int) + (x.val.length : Int)))) := ⟨_, rfl⟩
      rw [← hw8]
      have HND8 := Lib.hid (show NodeC w8 hd by rw [hw8]; exact NodeC.setHigh (show NodeC (w7.drewN 1) hd from HND.out) (by omega) _)
      have HX8 := Lib.hid (show IBox w8 bx x by rw [hw8]; exact (HX7.out.drewN 1).keep (Below.heap_setCell (w7.drewN 1) ⟨hd.b, 6, none⟩ _ bx hbxh))
      have HL8 := Lib.hid (show w8.cell? ⟨hd.b, 5, none⟩ = some (.int .i64 ((L : Int) + 1)) ∧ w8.frozen? ⟨hd.b, 5, none⟩ = false by rw [hw8]; exact ⟨by rw [World.cell?_setCell_other _ _ _ _ (by simp)]; exact HL7.out.1, by rw [World.frozen?_setCell]; exact HL7.out.2⟩)
      have HY8 := Lib.hid (show w8.cell? ⟨hd.b, 6, none⟩ = some (.int .i64 ((CB : Int) + (16 + (x.key.length : Int) + (x.val.length : Int)))) ∧ w8.frozen? ⟨hd.b, 6, none⟩ = false by rw [hw8]; exact ⟨World.cell?_setCell_same' _ _ _ (by show ((w7.drewN 1).cell? _).isSome = true; rw [show (w7.drewN 1).cell? ⟨hd.b, 6, none⟩ = _ from b1]; rfl), by rw [World.frozen?_setCell]; exact b2⟩)
      have HK8 := Lib.hid (show ∀ g, g ≠ hd.b → w8.heap[g]? = wx.heap[g]? from fun g hg => by rw [hw8]; exact (Below.heap_setCell (w7.drewN 1) ⟨hd.b, 6, none⟩ _ g hg).trans (HK7.out g hg))
      have HST8 := Lib.hid (show Stay (blksN (hd :: (P ++ S))) w w8 by rw [hw8]; exact (HST7.out.grew (Grew.drewN w7 1)).setCell (.inl ⟨hd, hdm, .inl rfl⟩) _)
      have HSX8 := Lib.hid (show w8.heap.size = wx.heap.size by rw [hw8, show (World.setCell (World.drewN w7 1) ⟨hd.b, 6, none⟩ (.int .i64 ((CB : Int) + (16 + (x.key.length : Int) + (x.val.length : Int))))).heap.size = w7.heap.size by simp [World.setCell]]; exact HSW7.out)
      clear hw8 b1 b2 hks hvs HK7 HL7 HY7 HST7 HND HX7
      have HLST8 := Lib.hid (show Lst w8 B (hd :: (P ++ S)) from by
        refine ⟨fun q hq => ?_, fun A q R e => ?_, HMx.out.lst.apart, HMx.out.lst.base, HMx.out.lst.tops⟩
        · by_cases e : q.b = hd.b
          · rcases List.mem_cons.1 hq with rfl | hq'
            · exact HND8.out
            · exfalso
              exact HBN.out q hq' e
          · exact (HMx.out.lst.node q hq).keep (HK8.out _ e)
        · have hq : q ∈ hd :: (P ++ S) := by rw [e]; simp
          exact (HMx.out.lst.row A q R e).keep (HK8.out _ (fun e2 => HMx.out.lst.b_ne_r hdm hq e2.symm)))
      have HA8 := Lib.hid (HA5.out.keep (HK8.out b5 HB5.out))
      obtain ⟨H, hH⟩ : ∃ h, h = hgt (L + 1) := ⟨_, rfl⟩
      have hH12 : 1 ≤ H ∧ H ≤ 12 := by rw [hH]; exact hgt_le _
      have HHT : Hid (∀ W, Calls Try.prog 44 #[.int .i64 ((L : Int) + 1)] W fun e w' => e = .returned (.int .i64 (H : Int)) ∧ W = w') := Lib.hid fun W => by
        have := mem_height (L + 1) W (by omega)
        rw [← hH] at this
        simpa using this
      have HH := Lib.hid hH
      have HH12 := Lib.hid hH12
      clear hH hH12
      have hmk := fun W => run_makeP H HH12.out.2 W
      have hbl := fun A n c W => run_buildN x A n c W
      have hc0 : ∀ y : { W : World // Grew w8 W }, y.1.cell? ⟨bx, 0, none⟩ = some (sv x.key) ∧ y.1.cell? ⟨bx, 1, none⟩ = some (.int .u64 (x.seq : Int)) ∧ y.1.cell? ⟨bx, 2, none⟩ = some (.bool x.gone) ∧ y.1.cell? ⟨bx, 3, none⟩ = some (sv x.val) := fun y => range_cells (HX8.out.grew y.2).range
      have hc5 : ∀ y : { W : World // Grew w8 W }, y.1.cell? ⟨hd.b, 5, none⟩ = some (.int .i64 ((L : Int) + 1)) := fun y => (World.cell?_of_block (w := w8) (a := ⟨hd.b, 5, none⟩) (y.2.block hd.b HND8.out.lt)).trans HL8.out.1
      refine wp_region_c (fun W => Grew w8 W) (by kernel_rfl) (Grew.drewN w8 1) ?_
      have HC := Lib.hid (Grew.drewN w8 1)
      have hqq := And.intro hc0 hc5
      clear hc0 hc5
      (refine wpAnyC_free 0 (oi := ⟨some 55, _, _, _, _, _⟩) (v := ?_) rfl (by kernel_rfl) (by kernel_rfl) (by kernel_rfl) HC.out rfl (fun x => ?_) ?_; rotate_left; (focus (simp [go_sem, hqq]; (try go_ints); first | done | (with_reducible rfl))); (simp only [Act.put, List.setIfInBounds_toArray, List.set_cons_succ, List.set_cons_zero]))
      (refine wpAnyC_free 1 (oi := ⟨some 56, _, _, _, _, _⟩) (v := ?_) rfl (by kernel_rfl) (by kernel_rfl) (by kernel_rfl) HC.out rfl (fun x => ?_) ?_; rotate_left; (focus (simp [go_sem]; (try go_ints); first | done | (with_reducible rfl))); (simp only [Act.put, List.setIfInBounds_toArray, List.set_cons_succ, List.set_cons_zero]))
      (refine wpAnyC_free 2 (oi := ⟨some 57, _, _, _, _, _⟩) (v := ?_) rfl (by kernel_rfl) (by kernel_rfl) (by kernel_rfl) HC.out rfl (fun x => ?_) ?_; rotate_left; (focus (simp [go_sem]; (try go_ints); first | done | (with_reducible rfl))); (simp only [Act.put, List.setIfInBounds_toArray, List.set_cons_succ, List.set_cons_zero]))
      (refine wpAnyC_free 3 (oi := ⟨some 58, _, _, _, _, _⟩) (v := ?_) rfl (by kernel_rfl) (by kernel_rfl) (by kernel_rfl) HC.out rfl (fun x => ?_) ?_; rotate_left; (focus (simp [go_sem]; (try go_ints); first | done | (with_reducible rfl))); (simp only [Act.put, List.setIfInBounds_toArray, List.set_cons_succ, List.set_cons_zero]))
      (refine wpAnyC_free 4 (oi := ⟨some 59, _, _, _, _, _⟩) (v := ?_) rfl (by kernel_rfl) (by kernel_rfl) (by kernel_rfl) HC.out rfl (fun x => ?_) ?_; rotate_left; (focus (simp [go_sem, hqq]; (try go_ints); first | done | (with_reducible rfl))); (simp only [Act.put, List.setIfInBounds_toArray, List.set_cons_succ, List.set_cons_zero]))
      clear hqq
      change wpAnyC _ _ _ _ _ _ _ _ (World.drewN w8 1)
      refine wpAnyC_step 5 (o := ⟨some 60, _, _, _, _, _⟩) rfl (by kernel_rfl) rfl ?_
      refine wpList_callR rfl _ _ (fun v w' => v = .int .i64 (H : Int) ∧ w' = w8.drewN 1) (by simp [go_sem]) ((HHT.out _).mono fun e w' ⟨h1, h2⟩ => ⟨_, h1, rfl, h2.symm⟩) ?_
      rintro v w' ⟨rfl, rfl⟩
      (simp only [Act.put, List.setIfInBounds_toArray, List.set_cons_succ, List.set_cons_zero])
      refine wpList_nil ⟨rfl, HC.out, ?_⟩
      refine wpAnyC_step 6 (o := ⟨some 61, _, _, _, _, _⟩) rfl (by kernel_rfl) rfl ?_
      refine wpList_value (v := .slice (some ⟨w8.heap.size, 0, none⟩) H H) (w' := (w8.drewN 1).alloc (.cells (Array.replicate H (.pointer none)) 73)) rfl (by simp [go_sem, hmk]) ?_
      (simp only [Act.put, List.setIfInBounds_toArray, List.set_cons_succ, List.set_cons_zero])
      have HC1 := Lib.hid (show Grew w8 ((w8.drewN 1).alloc (.cells (Array.replicate H (.pointer none)) 73)) from (Grew.drewN w8 1).alloc (Nat.le_refl _) _)
      refine wpList_nil ⟨rfl, HC1.out, ?_⟩
      refine wpAnyC_step 7 (o := ⟨some 62, _, _, _, _, _⟩) rfl (by kernel_rfl) rfl ?_
      refine wpList_value (v := .agg #[.string ⟨x.key.toArray⟩, .int .u64 (x.seq : Int), .bool x.gone, .string ⟨x.val.toArray⟩, .slice (some ⟨w8.heap.size, 0, none⟩) H H]) (w' := (w8.drewN 1).alloc (.cells (Array.replicate H (.pointer none)) 73)) rfl (by simp [go_sem]) ?_
      (simp only [Act.put, List.setIfInBounds_toArray, List.set_cons_succ, List.set_cons_zero])
      refine wpList_nil ⟨rfl, HC1.out, ?_⟩
      refine wpAnyC_step 8 (o := ⟨some 63, _, _, _, _, _⟩) rfl (by kernel_rfl) rfl ?_
      refine wpList_value (v := .pointer (some ⟨w8.heap.size + 1, 0, none⟩)) (w' := ((w8.drewN 1).alloc (.cells (Array.replicate H (.pointer none)) 73)).alloc (.cells #[.string ⟨x.key.toArray⟩, .int .u64 (x.seq : Int), .bool x.gone, .string ⟨x.val.toArray⟩, .slice (some ⟨w8.heap.size, 0, none⟩) H H] 70)) rfl (by simp [go_sem]) ?_
      (simp only [Act.put, List.setIfInBounds_toArray, List.set_cons_succ, List.set_cons_zero])
      have HC := Lib.hid (show Grew w8 (((w8.drewN 1).alloc (.cells (Array.replicate H (.pointer none)) 73)).alloc (.cells #[.string ⟨x.key.toArray⟩, .int .u64 (x.seq : Int), .bool x.gone, .string ⟨x.val.toArray⟩, .slice (some ⟨w8.heap.size, 0, none⟩) H H] 70)) from HC1.out.alloc (by have := HC1.out.size; exact this) _)
      refine wpList_nil ⟨rfl, HC.out, ?_⟩
      (refine wpAnyC_free 9 (oi := ⟨some 7, _, _, _, _, _⟩) (v := ?_) rfl (by kernel_rfl) (by kernel_rfl) (by kernel_rfl) HC.out rfl (fun x => ?_) ?_; rotate_left; (focus (simp [go_sem]; (try go_ints); first | done | (with_reducible rfl))); (simp only [Act.put, List.setIfInBounds_toArray, List.set_cons_succ, List.set_cons_zero]))
      refine wpAnyC_done (by kernel_rfl) (fun _ => ?_) _
      go_upto_region 10 with fail
      clear hmk hbl
      obtain ⟨nu, hnu⟩ : ∃ n : Nd, n = ⟨w8.heap.size + 1, w8.heap.size, H, H, x⟩ := ⟨_, rfl⟩
      have hnub : w8.heap.size + 1 = nu.b := by rw [hnu]
      have hnur : w8.heap.size = nu.r := by rw [hnu]
      obtain ⟨w9, hw9⟩ : ∃ v, v = World.alloc (World.alloc (w8.drewN 1) (.cells (Array.replicate H (.pointer none)) 73)) (.cells #[.string ⟨x.key.toArray⟩, .int .u64 (x.seq : Int), .bool x.gone, .string ⟨x.val.toArray⟩, .slice (some ⟨w8.heap.size, 0, none⟩) H H] 70) := ⟨_, rfl⟩
      rw [← hw9]
      have hblk1 : w9.heap[nu.b]? = some (.cells #[.string ⟨x.key.toArray⟩, .int .u64 (x.seq : Int), .bool x.gone, .string ⟨x.val.toArray⟩, .slice (some ⟨nu.r, 0, none⟩) H H] 70 (0, 0)) := by
        rw [hw9, ← hnub, ← hnur]
        have := heap_alloc_new (World.alloc (w8.drewN 1) (.cells (Array.replicate H (.pointer none)) 73)) (.cells #[.string ⟨x.key.toArray⟩, .int .u64 (x.seq : Int), .bool x.gone, .string ⟨x.val.toArray⟩, .slice (some ⟨w8.heap.size, 0, none⟩) H H] 70)
        simpa using this
      have hblk2 : w9.heap[nu.r]? = some (.cells (Array.replicate H (.pointer none)) 73 (0, 0)) := by
        rw [hw9, ← hnur]
        rw [Below.heap_alloc _ _ _ (by simp)]
        exact heap_alloc_new (w8.drewN 1) _
      have hG9 : Grew w8 w9 := by rw [hw9]; exact ((Grew.drewN w8 1).alloc (Nat.le_refl _) _).alloc (by simp) _
      have hsz8 : w.heap.size ≤ w8.heap.size := HST8.out.size
      have hB5lt : b5 < w8.heap.size := HA8.out.lt
      have HNS := Lib.hid (show nu.s = H ∧ nu.x = x ∧ nu.h = H by rw [hnu]; exact ⟨rfl, rfl, rfl⟩)
      have HNEW := Lib.hid (show w8.heap.size ≤ nu.b ∧ w8.heap.size ≤ nu.r by omega)
      have HB9 : Hid (Linking w9 B hd P S nu b5 arr ((L : Int) + 1) ((CB : Int) + (16 + (x.key.length : Int) + (x.val.length : Int))) w (blksN (hd :: (P ++ S))) 0) := Lib.hid ⟨HLST8.out.start (P := hd :: P) (fun g hg => hG9.block g hg) HNEW.out.1 HNEW.out.2 (by have := HBw.out; omega) ⟨_, _, hblk1, .inl rfl, by rw [HNS.out.1, HNS.out.2.1]; exact fun j v h => by rw [← Array.getElem?_toList]; exact h⟩ _ hblk2 (by rw [HNS.out.1]; simp), HA8.out.grew hG9,
        ⟨((World.cell?_of_block (w := w8) (a := ⟨hd.b, 5, none⟩) (hG9.block hd.b HND8.out.lt)).trans HL8.out.1), ((World.frozen?_of_block (w := w8) (a := ⟨hd.b, 5, none⟩) (hG9.block hd.b HND8.out.lt)).trans HL8.out.2)⟩,
        ⟨((World.cell?_of_block (w := w8) (a := ⟨hd.b, 6, none⟩) (hG9.block hd.b HND8.out.lt)).trans HY8.out.1), ((World.frozen?_of_block (w := w8) (a := ⟨hd.b, 6, none⟩) (hG9.block hd.b HND8.out.lt)).trans HY8.out.2)⟩, HST8.out.grew hG9⟩
      have q0 : w9.cell? ⟨nu.b, 4, none⟩ = some (.slice (some ⟨nu.r, 0, none⟩) H H) := by rw [cell_blk hblk1]; rfl
      have HB5L := Lib.hid hB5lt
      have HSZ8 := Lib.hid hsz8
      rw [hnub]
      try rw [hnur]
      clear hw9 hblk1 hblk2 hG9 hnu hnub hnur hsz8 hB5lt
      have hh0 : (0 : Int) ≤ (H : Int) := by omega
      go_wp2_with fail
      clear q0
      go_loopw [8, 69] (fun _ i wy => ∃ j : Nat, j ≤ H ∧ i = .int .i64 (j : Int) ∧ Linking wy B hd P S nu b5 arr ((L : Int) + 1) ((CB : Int) + (16 + (x.key.length : Int) + (x.val.length : Int))) w (blksN (hd :: (P ++ S))) j) (fun _ i _ => H - (intOf i).toNat)
      case atStart => exact ⟨0, Nat.zero_le _, rfl, HB9.out⟩
      case round =>
        obtain ⟨j, hj, rfl, hK⟩ := hrel
        have HLK := Lib.hid hK
        clear hK
        have i0 : (0 : Int) ≤ (j : Int) := by omega
        have hH12 := HH12.out.2
        by_cases hlt : j < H
        · have i1 : (j : Int) < (H : Int) := by omega
          obtain ⟨nd, ha, hl⟩ := HV.out.2 j (by omega)
          obtain ⟨A, A2, k1, k2, k3, k4⟩ := last_in HP.out HS.out hl
          have HK1 := Lib.hid k1
          have HK3 := Lib.hid k3
          have hndP : nd ∈ hd :: P := by rw [k1]; simp
          have hndm : nd ∈ hd :: (P ++ S) := by rw [k4]; simp
          have hndr := (HM.out.lt nd.r ⟨nd, hndm, .inr rfl⟩).2
          have HLKd := Lib.hid (HLK.out.drewN 1)
          have hnum : atLevel nu j ∈ (hd :: P) ++ atLevel nu j :: S := by simp
          have hndL : nd ∈ (hd :: P) ++ atLevel nu j :: S := by rw [k1]; simp
          have hrow := HLKd.out.lst.row A nd (A2 ++ atLevel nu j :: S) (by rw [k1]; simp)
          obtain ⟨r1, r2⟩ := hrow.cell k2
          rw [nxt_past k3, show nxt (atLevel nu j :: S) j = nxt S j from nxt_zero (X := []) (by show ¬ j < j; omega)] at r1
          have hs2 : j < nd.s := by obtain ⟨_, _, _, h3, _⟩ := hrow; omega
          obtain ⟨cu, hcu, hcus, _⟩ := HLKd.out.lst.row (hd :: P) (atLevel nu j) S rfl
          have hcl : cu.size = H := by rw [hcus]; exact HNS.out.1
          obtain ⟨cuj, u1⟩ : ∃ u, (wr.drewN 1).cell? ⟨nu.r, j, none⟩ = some u := ⟨cu[j]'(by omega), by rw [show (wr.drewN 1).cell? ⟨nu.r, j, none⟩ = cu[j]? from cell_blk hcu j]; exact Array.getElem?_eq_getElem (by omega)⟩
          have u2 : (wr.drewN 1).frozen? ⟨nu.r, j, none⟩ = false := frozen_blk hcu j
          have e1 := (HLKd.out.lst.node (atLevel nu j) hnum).cells.2
          have e2 := (HLKd.out.lst.node nd hndL).cells.2
          have e3 : (wr.drewN 1).cell? ⟨b5, j, none⟩ = some (.pointer (some ⟨nd.b, 0, none⟩)) := by
            have h1 := HLKd.out.arr.cell (i := j) (by rw [HV.out.1]; omega)
            rw [h1, ← List.getElem?_eq_getElem]
            exact ha
          have g1 : nu.r ≠ nd.r := by have := HNEW.out.2; have := HSZ8.out; omega
          have g2 : b5 ≠ nu.r := by have := HNEW.out.2; have := HB5L.out; omega
          have g3 : b5 ≠ nd.r := by have := HB5w.out; omega
          have HSTEP := Lib.hid (HLKd.out.step (by rw [HNS.out.1]; exact hlt) HK1.out k2 HK3.out ⟨g2, g3⟩ ⟨.inr (by have := HNEW.out.2; have := HSZ8.out; omega), .inl (blks_mono hndP)⟩ g1)
          obtain ⟨v0, hv0⟩ : ∃ v, v = nxt S j := ⟨_, rfl⟩
          rw [← hv0] at r1 HSTEP
          have f1 : ∀ y : AnyOf (LinkC (wr.drewN 1) nu.r nd.r j (.pointer v0) (.pointer (some ⟨nu.b, 0, none⟩))), y.1.2.cell? ⟨nu.b, 4, none⟩ = some (.slice (some ⟨nu.r, 0, none⟩) H H) := fun y => LinkC.cell y.2 (HLKd.out.lst.b_ne_r (p := atLevel nu j) (q := atLevel nu j) hnum hnum) (HLKd.out.lst.b_ne_r (p := atLevel nu j) hnum hndL) (by have h := e1; simp only [HNS.out.1] at h; exact h)
          have f2 : ∀ y : AnyOf (LinkC (wr.drewN 1) nu.r nd.r j (.pointer v0) (.pointer (some ⟨nu.b, 0, none⟩))), y.1.2.cell? ⟨nd.b, 4, none⟩ = some (.slice (some ⟨nd.r, 0, none⟩) nd.s nd.s) := fun y => LinkC.cell y.2 (HLKd.out.lst.b_ne_r (q := atLevel nu j) hndL hnum) (HLKd.out.lst.b_ne_r hndL hndL) e2
          have f3 : ∀ y : AnyOf (LinkC (wr.drewN 1) nu.r nd.r j (.pointer v0) (.pointer (some ⟨nu.b, 0, none⟩))), y.1.2.cell? ⟨b5, j, none⟩ = some (.pointer (some ⟨nd.b, 0, none⟩)) := fun y => LinkC.cell y.2 g2 g3 e3
          have R1 := Lib.hid r1
          have R2 := Lib.hid r2
          have U1 := Lib.hid u1
          have U2 := Lib.hid u2
          have G1 := Lib.hid g1
          have i2 : (j : Int) < (nd.s : Int) := by omega
          have i3 : (j : Int) < 12 := by omega
          clear ha hl k1 k2 k3 k4 hndP hndm hndr hnum hndL hrow hs2 hcu hcus hcl u1 u2 e1 e2 e3 g1 g2 g3 hv0 r1 r2
          go_upto_region 13 with fail
          have hqq := And.intro i1 (And.intro i2 (And.intro i3 (And.intro f1 (And.intro f2 f3))))
          clear f1 f2 f3
          refine wp_region_p (LinkC (wr.drewN 1) nu.r nd.r j (.pointer v0) (.pointer (some ⟨nu.b, 0, none⟩))) [20, 23, 25] (by kernel_rfl) (by kernel_rfl) (by kernel_rfl) (.inl ⟨by omega, rfl⟩) ?_
          repeat ((refine wpP_value (v := ?_) rfl rfl (fun x => ?_) ?_; rotate_left; (focus (simp [go_sem, hqq]; (try go_ints); first | done | (with_reducible rfl))); (simp only [Act.put, List.setIfInBounds_toArray, List.set_cons_succ, List.set_cons_zero])))
          refine wpP_read (.pointer v0) rfl rfl (fun W h => ⟨?_, ?_⟩) ?_
          · rcases h with ⟨_, rfl⟩ | ⟨h, _⟩ | ⟨h, _⟩
            · have r1 := R1.out
              simp [go_sem, r1]
            · omega
            · omega
          · rcases h with ⟨_, rfl⟩ | ⟨h, _⟩ | ⟨h, _⟩
            · exact .inl ⟨by omega, rfl⟩
            · omega
            · omega
          (simp only [Act.put, List.setIfInBounds_toArray, List.set_cons_succ, List.set_cons_zero])
          repeat ((refine wpP_value (v := ?_) rfl rfl (fun x => ?_) ?_; rotate_left; (focus (simp [go_sem, hqq]; (try go_ints); first | done | (with_reducible rfl))); (simp only [Act.put, List.setIfInBounds_toArray, List.set_cons_succ, List.set_cons_zero])))
          refine wpP_write rfl rfl (fun W h => ?_) ?_
          · rcases h with ⟨_, rfl⟩ | ⟨h, _⟩ | ⟨h, _⟩
            · have u1 := U1.out
              have u2 := U2.out
              exact ⟨_, by simp [go_sem, u1, u2], .inr (.inl ⟨rfl, rfl⟩)⟩
            · omega
            · omega
          (simp only [Act.put])
          repeat ((refine wpP_value (v := ?_) rfl rfl (fun x => ?_) ?_; rotate_left; (focus (simp [go_sem, hqq]; (try go_ints); first | done | (with_reducible rfl))); (simp only [Act.put, List.setIfInBounds_toArray, List.set_cons_succ, List.set_cons_zero])))
          refine wpP_write rfl rfl (fun W h => ?_) ?_
          · rcases h with ⟨h, _⟩ | ⟨_, rfl⟩ | ⟨h, _⟩
            · omega
            · have r1 : ((wr.drewN 1).setCell ⟨nu.r, j, none⟩ (.pointer v0)).cell? ⟨nd.r, j, none⟩ = some (.pointer v0) := by rw [World.cell?_setCell_other _ _ _ _ (fun e => G1.out (congrArg Addr.block e))]; exact R1.out
              have r2 : ((wr.drewN 1).setCell ⟨nu.r, j, none⟩ (.pointer v0)).frozen? ⟨nd.r, j, none⟩ = false := by rw [World.frozen?_setCell]; exact R2.out
              exact ⟨_, by simp [go_sem, r1, r2], .inr (.inr ⟨rfl, rfl⟩)⟩
            · omega
          (simp only [Act.put])
          refine wpP_nil ?_
          intro wz hz
          rcases hz with ⟨h, _⟩ | ⟨h, _⟩ | ⟨_, rfl⟩
          · omega
          · omega
          clear hqq
          go_wp2_with fail
          go_roundw
          case rel => exact ⟨j + 1, hlt, by go_num, HSTEP.out⟩
          case measure => simp [intOf]; omega
        · obtain rfl : j = H := by omega
          have i1 : ¬ (j : Int) < (j : Int) := by omega
          go_wp2_with fail
          go_ret
          have hat : atLevel nu j = nu := by rw [← HNS.out.2.2]
          have hpi := put_ins (S := S) HPl.out HSA.out
          have hmap := put_mid (P := P) (S := S) HNS.out.2.1
          have hLL : ((P ++ nu :: S).length : Int) = (L : Int) + 1 := by rw [HL.out]; simp <;> omega
          have hCC : ((costs ((P ++ nu :: S).map (·.x)) : Nat) : Int) = (CB : Int) + (16 + (x.key.length : Int) + (x.val.length : Int)) := by
            rw [HCB.out, hmap, costs_append, costs_cons, List.map_append, costs_append]
            simp only [cost]
            omega
          have hlst := HLK.out.lst
          rw [hat] at hlst
          refine ⟨0, P ++ nu :: S, rfl, ⟨hlst, HM.out.hh, HM.out.hs, srt_ins HM.out.srt HNS.out.2.1 HP.out HSA.out, fun q' hq' => ?_, ?_, ?_⟩, HLK.out.stay, .inr (.inr ⟨HMAY.out, rfl, by rw [hpi], by rw [hpi, hmap], P, nu, S, rfl, HPl.out, rfl, HNS.out.2.1, ?_, ?_, ?_⟩)⟩
          · rcases List.mem_append.1 hq' with h | h
            · exact HM.out.hts q' (by simp [h])
            · rcases List.mem_cons.1 h with rfl | h
              · rw [HNS.out.1, HNS.out.2.2]
                exact ⟨HH12.out.1, rfl, HH12.out.2⟩
              · exact HM.out.hts q' (List.mem_append_right _ h)
          · rw [hLL]; exact HLK.out.len
          · rw [hCC]; exact HLK.out.bytes
          · rw [HNS.out.2.2, HH.out, HL.out]
          · have := HNEW.out.1; have := HSZ8.out; omega
          · have := HNEW.out.2; have := HSZ8.out; omega
    · have hq1 : 1 ≤ q.h := (HM.out.hts q (by rw [hSc]; simp)).1
      rw [hSc, nxt_here (by omega)] at q1
      have HSc := Lib.hid hSc
      clear hSc
      go_upto_region 5 with fail
      clear q1 q2 q3 q4
      have HI := Lib.hid (node_item HM5.out.lst (show q ∈ hd :: (P ++ S) by rw [HSc.out]; simp))
      have HXr := Lib.hid (show ∀ y : GrewOf w5, y.1.cell? ⟨bx, 0, none⟩ = some (sv x.key) ∧ y.1.cell? ⟨bx, 1, none⟩ = some (.int .u64 (x.seq : Int)) ∧ y.1.cell? ⟨bx, 2, none⟩ = some (.bool x.gone) ∧ y.1.cell? ⟨bx, 3, none⟩ = some (sv x.val) from fun y => range_cells (HX5.out.grew y.2).range)
      obtain ⟨cz, hcz⟩ : ∃ c, c = ItP.cmp q.x x := ⟨_, rfl⟩
      have HCM : Hid (∀ W, Calls Try.prog 43 #[iv q.x, iv x] W fun e w'' => e = .returned (.int .i64 cz) ∧ Grew W w'') := Lib.hid fun W => by rw [hcz]; exact mem_compare q.x x W
      by_cases hsame : q.x.key = x.key ∧ q.x.seq = x.seq
      · have hc0 : cz = 0 := by rw [hcz]; exact (ItP.cmp_zero _ _).2 hsame
        subst hc0
        have HPUT := Lib.hid (show (ItP.put ((P ++ S).map (·.x)) x).2 = false by rw [HSc.out]; exact put_has (S := S') (by rw [← HSc.out]; exact HPl.out) (ItP.not_ahead_of_same ⟨hsame.1.symm, hsame.2.symm⟩))
        clear hcz hsame
        have hqq := And.intro HI.out HXr.out
        refine wp_region_x [] (by kernel_rfl) (by kernel_rfl) (by kernel_rfl) ?_
        simp only [blank, List.foldl_nil]
        repeat (first
          | (refine wpX_value (v := ?_) rfl (by intros; simp) rfl rfl (fun x => ?_) ?_; rotate_left; (focus (simp [go_sem, hqq]; (try go_ints); first | done | (with_reducible rfl))); (simp only [Act.put, List.setIfInBounds_toArray, List.set_cons_succ, List.set_cons_zero]))
          | (refine wpX_call (.int .i64 0) _ _ rfl (by intros; simp) rfl rfl (fun x => ?_) (fun W _ => HCM.out W) ?_; (focus (simp [go_sem]; done)); (simp only [Act.put, List.setIfInBounds_toArray, List.set_cons_succ, List.set_cons_zero])))
        (refine wpX_nil ?_; intro xb wx hxg xl; obtain ⟨xf, xe⟩ := LikeAll.end_ xl; clear xl; subst xe; simp only [fill, List.foldl_nil, Act.put])
        clear hqq
        have HGx := Lib.hid (HG5.out.trans hxg)
        go_wp2_with fail
        go_ret
        exact ⟨12, _, rfl, HM.out.grew HGx.out, Stay.of_grew HGx.out, .inr (.inl ⟨HMAY.out, rfl, HPUT.out, rfl⟩)⟩
      · have hc0 : (cz == 0) = false := by
          simp only [beq_eq_false_iff_ne]
          intro h
          rw [hcz, ItP.cmp_zero] at h
          exact hsame h
        have HSA := Lib.hid (show ∀ p ∈ S, ItP.ahead x p.x = true by
          rw [HSc.out]
          refine ahead_all (by rw [← HSc.out]; exact srt_suffix HM.out.srt) ?_
          cases h2 : ItP.ahead x q.x with
          | true => rfl
          | false => exact absurd (ItP.ahead_same (HS.out q (by rw [HSc.out]; simp)) h2) hsame)
        clear hcz hsame
        have hqq := And.intro hc0 (And.intro HI.out HXr.out)
        refine wp_region_x [] (by kernel_rfl) (by kernel_rfl) (by kernel_rfl) ?_
        simp only [blank, List.foldl_nil]
        repeat (first
          | (refine wpX_value (v := ?_) rfl (by intros; simp) rfl rfl (fun x => ?_) ?_; rotate_left; (focus (simp [go_sem, hqq]; (try go_ints); first | done | (with_reducible rfl))); (simp only [Act.put, List.setIfInBounds_toArray, List.set_cons_succ, List.set_cons_zero]))
          | (refine wpX_call (.int .i64 cz) _ _ rfl (by intros; simp) rfl rfl (fun x => ?_) (fun W _ => HCM.out W) ?_; (focus (simp [go_sem]; done)); (simp only [Act.put, List.setIfInBounds_toArray, List.set_cons_succ, List.set_cons_zero])))
        (refine wpX_nil ?_; intro xb wx hxg xl; obtain ⟨xf, xe⟩ := LikeAll.end_ xl; clear xl; subst xe; simp only [fill, List.foldl_nil, Act.put])
        clear hqq
        have HGx := Lib.hid (HG5.out.trans hxg)
        have HMx := Lib.hid (HM.out.grew HGx.out)
        have HXx := Lib.hid (HX5.out.grew hxg)
        have HA5 := Lib.hid (HA50.out.grew hxg)
        have HB5 := Lib.hid (show b5 ≠ hd.b from fun e => by have h1 := (HM.out.lt hd.b ⟨hd, by simp, .inl rfl⟩).2; have h2 := HB5w.out; omega)
        have HSZ7 := Lib.hid (show wx.heap.size = wx.heap.size from rfl)
        have hLdef : ∃ L, L = (P ++ S).length := ⟨_, rfl⟩
        obtain ⟨L, hL⟩ := hLdef
        obtain ⟨CB, hCB⟩ : ∃ C, C = costs ((P ++ S).map (·.x)) := ⟨_, rfl⟩
        have hlen := HMx.out.len
        have hbyt := HMx.out.bytes
        rw [← hL] at hlen
        rw [← hCB] at hbyt
        have hL6 : L ≤ 1000000 := by rw [hL]; exact HN.out
        have hCB12 : CB ≤ 1000000000000 := by rw [hCB]; exact HCO.out
        have HL := Lib.hid hL
        have HCB := Lib.hid hCB
        have HBY := Lib.hid hbyt
        obtain ⟨l1, l2⟩ := hlen
        clear hbyt hL hCB
        go_upto_region 8 with fail
        obtain ⟨w7, hw7⟩ : ∃ v, v = wx.setCell ⟨hd.b, 5, none⟩ (.int .i64 ((L : Int) + 1)) := ⟨_, rfl⟩
        rw [← hw7]
        have hdm : hd ∈ hd :: (P ++ S) := by simp
        have HND := Lib.hid (show NodeC w7 hd by rw [hw7]; exact (HMx.out.lst.node hd hdm).setHigh (by omega) _)
        have hbxh : bx ≠ hd.b := fun e => by
          have h1 := (HM.out.lt hd.b ⟨hd, hdm, .inl rfl⟩).2
          rw [← e, HBX.out] at h1
          omega
        have HX7 := Lib.hid (show IBox w7 bx x by rw [hw7]; exact HXx.out.keep (Below.heap_setCell wx ⟨hd.b, 5, none⟩ _ bx hbxh))
        have hcs5 : ∃ u, wx.cell? ⟨hd.b, 5, none⟩ = some u := ⟨_, l1⟩
        have HL7 := Lib.hid (show w7.cell? ⟨hd.b, 5, none⟩ = some (.int .i64 ((L : Int) + 1)) ∧ w7.frozen? ⟨hd.b, 5, none⟩ = false by rw [hw7]; exact ⟨World.cell?_setCell_same' _ _ _ (by rw [l1]; rfl), by rw [World.frozen?_setCell]; exact l2⟩)
        have HY7 := Lib.hid (show w7.cell? ⟨hd.b, 6, none⟩ = some (.int .i64 (CB : Int)) ∧ w7.frozen? ⟨hd.b, 6, none⟩ = false by rw [hw7]; exact ⟨by rw [World.cell?_setCell_other _ _ _ _ (by simp)]; exact HBY.out.1, by rw [World.frozen?_setCell]; exact HBY.out.2⟩)
        have HSW7 := Lib.hid (show w7.heap.size = wx.heap.size by rw [hw7]; simp [World.setCell])
        have HK7 := Lib.hid (show ∀ g, g ≠ hd.b → w7.heap[g]? = wx.heap[g]? from fun g hg => by rw [hw7]; exact Below.heap_setCell wx ⟨hd.b, 5, none⟩ _ g hg)
        have HST7 := Lib.hid (show Stay (blksN (hd :: (P ++ S))) w w7 by rw [hw7]; exact (Stay.of_grew HGx.out).setCell (.inl ⟨hd, hdm, .inl rfl⟩) _)
        clear hw7 l1 l2 hcs5 HBY
        obtain ⟨y0, y1, y2, y3⟩ := range_cells HX7.out.range
        obtain ⟨b1, b2⟩ := HY7.out
        have hks := ba_size x.key
        have hvs := ba_size x.val
        have hk256 : (x.key.length : Int) ≤ 256 := HKV.out.1
        have hv4096 : (x.val.length : Int) ≤ 4096 := HKV.out.2
        have hk0 : (0 : Int) ≤ (x.key.length : Int) := by omega
        have hv0 : (0 : Int) ≤ (x.val.length : Int) := by omega
        refine wp_region_st 15 (by kernel_rfl) (by kernel_rfl) ?_
        simp only [List.take_succ_cons, List.take_zero, List.drop_succ_cons, List.drop_zero]
        have hqq := And.intro y0 (And.intro y3 (And.intro b1 (And.intro hks hvs)))
        repeat ((refine wpS_value (v := ?_) rfl ?_ ?_; rotate_left; (focus (simp [go_sem, hqq]; (try go_ints); first | done | (with_reducible rfl))); (simp only [Act.put, List.setIfInBounds_toArray, List.set_cons_succ, List.set_cons_zero])))
        refine wpStill_nil ?_
        clear hqq y0 y1 y2 y3
        go_upto_region 9 with fail
        obtain ⟨w8, hw8⟩ : ∃ v, v = World.setCell (World.drewN w7 1) ⟨hd.b, 6, none⟩ (.int .i64 ((CB : Int) + (16 + (x.key.length : Int) + (x.val.length : Int)))) := ⟨_, rfl⟩
        rw [← hw8]
        have HND8 := Lib.hid (show NodeC w8 hd by rw [hw8]; exact NodeC.setHigh (show NodeC (w7.drewN 1) hd from HND.out) (by omega) _)
        have HX8 := Lib.hid (show IBox w8 bx x by rw [hw8]; exact (HX7.out.drewN 1).keep (Below.heap_setCell (w7.drewN 1) ⟨hd.b, 6, none⟩ _ bx hbxh))
        have HL8 := Lib.hid (show w8.cell? ⟨hd.b, 5, none⟩ = some (.int .i64 ((L : Int) + 1)) ∧ w8.frozen? ⟨hd.b, 5, none⟩ = false by rw [hw8]; exact ⟨by rw [World.cell?_setCell_other _ _ _ _ (by simp)]; exact HL7.out.1, by rw [World.frozen?_setCell]; exact HL7.out.2⟩)
        have HY8 := Lib.hid (show w8.cell? ⟨hd.b, 6, none⟩ = some (.int .i64 ((CB : Int) + (16 + (x.key.length : Int) + (x.val.length : Int)))) ∧ w8.frozen? ⟨hd.b, 6, none⟩ = false by rw [hw8]; exact ⟨World.cell?_setCell_same' _ _ _ (by show ((w7.drewN 1).cell? _).isSome = true; rw [show (w7.drewN 1).cell? ⟨hd.b, 6, none⟩ = _ from b1]; rfl), by rw [World.frozen?_setCell]; exact b2⟩)
        have HK8 := Lib.hid (show ∀ g, g ≠ hd.b → w8.heap[g]? = wx.heap[g]? from fun g hg => by rw [hw8]; exact (Below.heap_setCell (w7.drewN 1) ⟨hd.b, 6, none⟩ _ g hg).trans (HK7.out g hg))
        have HST8 := Lib.hid (show Stay (blksN (hd :: (P ++ S))) w w8 by rw [hw8]; exact (HST7.out.grew (Grew.drewN w7 1)).setCell (.inl ⟨hd, hdm, .inl rfl⟩) _)
        have HSX8 := Lib.hid (show w8.heap.size = wx.heap.size by rw [hw8, show (World.setCell (World.drewN w7 1) ⟨hd.b, 6, none⟩ (.int .i64 ((CB : Int) + (16 + (x.key.length : Int) + (x.val.length : Int))))).heap.size = w7.heap.size by simp [World.setCell]]; exact HSW7.out)
        clear hw8 b1 b2 hks hvs HK7 HL7 HY7 HST7 HND HX7
        have HLST8 := Lib.hid (show Lst w8 B (hd :: (P ++ S)) from by
          refine ⟨fun q hq => ?_, fun A q R e => ?_, HMx.out.lst.apart, HMx.out.lst.base, HMx.out.lst.tops⟩
          · by_cases e : q.b = hd.b
            · rcases List.mem_cons.1 hq with rfl | hq'
              · exact HND8.out
              · exfalso
                exact HBN.out q hq' e
            · exact (HMx.out.lst.node q hq).keep (HK8.out _ e)
          · have hq : q ∈ hd :: (P ++ S) := by rw [e]; simp
            exact (HMx.out.lst.row A q R e).keep (HK8.out _ (fun e2 => HMx.out.lst.b_ne_r hdm hq e2.symm)))
        have HA8 := Lib.hid (HA5.out.keep (HK8.out b5 HB5.out))
        obtain ⟨H, hH⟩ : ∃ h, h = hgt (L + 1) := ⟨_, rfl⟩
        have hH12 : 1 ≤ H ∧ H ≤ 12 := by rw [hH]; exact hgt_le _
        have HHT : Hid (∀ W, Calls Try.prog 44 #[.int .i64 ((L : Int) + 1)] W fun e w' => e = .returned (.int .i64 (H : Int)) ∧ W = w') := Lib.hid fun W => by
          have := mem_height (L + 1) W (by omega)
          rw [← hH] at this
          simpa using this
        have HH := Lib.hid hH
        have HH12 := Lib.hid hH12
        clear hH hH12
        have hmk := fun W => run_makeP H HH12.out.2 W
        have hbl := fun A n c W => run_buildN x A n c W
        have hc0 : ∀ y : { W : World // Grew w8 W }, y.1.cell? ⟨bx, 0, none⟩ = some (sv x.key) ∧ y.1.cell? ⟨bx, 1, none⟩ = some (.int .u64 (x.seq : Int)) ∧ y.1.cell? ⟨bx, 2, none⟩ = some (.bool x.gone) ∧ y.1.cell? ⟨bx, 3, none⟩ = some (sv x.val) := fun y => range_cells (HX8.out.grew y.2).range
        have hc5 : ∀ y : { W : World // Grew w8 W }, y.1.cell? ⟨hd.b, 5, none⟩ = some (.int .i64 ((L : Int) + 1)) := fun y => (World.cell?_of_block (w := w8) (a := ⟨hd.b, 5, none⟩) (y.2.block hd.b HND8.out.lt)).trans HL8.out.1
        refine wp_region_c (fun W => Grew w8 W) (by kernel_rfl) (Grew.drewN w8 1) ?_
        have HC := Lib.hid (Grew.drewN w8 1)
        have hqq := And.intro hc0 hc5
        clear hc0 hc5
        (refine wpAnyC_free 0 (oi := ⟨some 55, _, _, _, _, _⟩) (v := ?_) rfl (by kernel_rfl) (by kernel_rfl) (by kernel_rfl) HC.out rfl (fun x => ?_) ?_; rotate_left; (focus (simp [go_sem, hqq]; (try go_ints); first | done | (with_reducible rfl))); (simp only [Act.put, List.setIfInBounds_toArray, List.set_cons_succ, List.set_cons_zero]))
        (refine wpAnyC_free 1 (oi := ⟨some 56, _, _, _, _, _⟩) (v := ?_) rfl (by kernel_rfl) (by kernel_rfl) (by kernel_rfl) HC.out rfl (fun x => ?_) ?_; rotate_left; (focus (simp [go_sem]; (try go_ints); first | done | (with_reducible rfl))); (simp only [Act.put, List.setIfInBounds_toArray, List.set_cons_succ, List.set_cons_zero]))
        (refine wpAnyC_free 2 (oi := ⟨some 57, _, _, _, _, _⟩) (v := ?_) rfl (by kernel_rfl) (by kernel_rfl) (by kernel_rfl) HC.out rfl (fun x => ?_) ?_; rotate_left; (focus (simp [go_sem]; (try go_ints); first | done | (with_reducible rfl))); (simp only [Act.put, List.setIfInBounds_toArray, List.set_cons_succ, List.set_cons_zero]))
        (refine wpAnyC_free 3 (oi := ⟨some 58, _, _, _, _, _⟩) (v := ?_) rfl (by kernel_rfl) (by kernel_rfl) (by kernel_rfl) HC.out rfl (fun x => ?_) ?_; rotate_left; (focus (simp [go_sem]; (try go_ints); first | done | (with_reducible rfl))); (simp only [Act.put, List.setIfInBounds_toArray, List.set_cons_succ, List.set_cons_zero]))
        (refine wpAnyC_free 4 (oi := ⟨some 59, _, _, _, _, _⟩) (v := ?_) rfl (by kernel_rfl) (by kernel_rfl) (by kernel_rfl) HC.out rfl (fun x => ?_) ?_; rotate_left; (focus (simp [go_sem, hqq]; (try go_ints); first | done | (with_reducible rfl))); (simp only [Act.put, List.setIfInBounds_toArray, List.set_cons_succ, List.set_cons_zero]))
        clear hqq
        change wpAnyC _ _ _ _ _ _ _ _ (World.drewN w8 1)
        refine wpAnyC_step 5 (o := ⟨some 60, _, _, _, _, _⟩) rfl (by kernel_rfl) rfl ?_
        refine wpList_callR rfl _ _ (fun v w' => v = .int .i64 (H : Int) ∧ w' = w8.drewN 1) (by simp [go_sem]) ((HHT.out _).mono fun e w' ⟨h1, h2⟩ => ⟨_, h1, rfl, h2.symm⟩) ?_
        rintro v w' ⟨rfl, rfl⟩
        (simp only [Act.put, List.setIfInBounds_toArray, List.set_cons_succ, List.set_cons_zero])
        refine wpList_nil ⟨rfl, HC.out, ?_⟩
        refine wpAnyC_step 6 (o := ⟨some 61, _, _, _, _, _⟩) rfl (by kernel_rfl) rfl ?_
        refine wpList_value (v := .slice (some ⟨w8.heap.size, 0, none⟩) H H) (w' := (w8.drewN 1).alloc (.cells (Array.replicate H (.pointer none)) 73)) rfl (by simp [go_sem, hmk]) ?_
        (simp only [Act.put, List.setIfInBounds_toArray, List.set_cons_succ, List.set_cons_zero])
        have HC1 := Lib.hid (show Grew w8 ((w8.drewN 1).alloc (.cells (Array.replicate H (.pointer none)) 73)) from (Grew.drewN w8 1).alloc (Nat.le_refl _) _)
        refine wpList_nil ⟨rfl, HC1.out, ?_⟩
        refine wpAnyC_step 7 (o := ⟨some 62, _, _, _, _, _⟩) rfl (by kernel_rfl) rfl ?_
        refine wpList_value (v := .agg #[.string ⟨x.key.toArray⟩, .int .u64 (x.seq : Int), .bool x.gone, .string ⟨x.val.toArray⟩, .slice (some ⟨w8.heap.size, 0, none⟩) H H]) (w' := (w8.drewN 1).alloc (.cells (Array.replicate H (.pointer none)) 73)) rfl (by simp [go_sem]) ?_
        (simp only [Act.put, List.setIfInBounds_toArray, List.set_cons_succ, List.set_cons_zero])
        refine wpList_nil ⟨rfl, HC1.out, ?_⟩
        refine wpAnyC_step 8 (o := ⟨some 63, _, _, _, _, _⟩) rfl (by kernel_rfl) rfl ?_
        refine wpList_value (v := .pointer (some ⟨w8.heap.size + 1, 0, none⟩)) (w' := ((w8.drewN 1).alloc (.cells (Array.replicate H (.pointer none)) 73)).alloc (.cells #[.string ⟨x.key.toArray⟩, .int .u64 (x.seq : Int), .bool x.gone, .string ⟨x.val.toArray⟩, .slice (some ⟨w8.heap.size, 0, none⟩) H H] 70)) rfl (by simp [go_sem]) ?_
        (simp only [Act.put, List.setIfInBounds_toArray, List.set_cons_succ, List.set_cons_zero])
        have HC := Lib.hid (show Grew w8 (((w8.drewN 1).alloc (.cells (Array.replicate H (.pointer none)) 73)).alloc (.cells #[.string ⟨x.key.toArray⟩, .int .u64 (x.seq : Int), .bool x.gone, .string ⟨x.val.toArray⟩, .slice (some ⟨w8.heap.size, 0, none⟩) H H] 70)) from HC1.out.alloc (by have := HC1.out.size; exact this) _)
        refine wpList_nil ⟨rfl, HC.out, ?_⟩
        (refine wpAnyC_free 9 (oi := ⟨some 7, _, _, _, _, _⟩) (v := ?_) rfl (by kernel_rfl) (by kernel_rfl) (by kernel_rfl) HC.out rfl (fun x => ?_) ?_; rotate_left; (focus (simp [go_sem]; (try go_ints); first | done | (with_reducible rfl))); (simp only [Act.put, List.setIfInBounds_toArray, List.set_cons_succ, List.set_cons_zero]))
        refine wpAnyC_done (by kernel_rfl) (fun _ => ?_) _
        go_upto_region 10 with fail
        clear hmk hbl
        obtain ⟨nu, hnu⟩ : ∃ n : Nd, n = ⟨w8.heap.size + 1, w8.heap.size, H, H, x⟩ := ⟨_, rfl⟩
        have hnub : w8.heap.size + 1 = nu.b := by rw [hnu]
        have hnur : w8.heap.size = nu.r := by rw [hnu]
        obtain ⟨w9, hw9⟩ : ∃ v, v = World.alloc (World.alloc (w8.drewN 1) (.cells (Array.replicate H (.pointer none)) 73)) (.cells #[.string ⟨x.key.toArray⟩, .int .u64 (x.seq : Int), .bool x.gone, .string ⟨x.val.toArray⟩, .slice (some ⟨w8.heap.size, 0, none⟩) H H] 70) := ⟨_, rfl⟩
        rw [← hw9]
        have hblk1 : w9.heap[nu.b]? = some (.cells #[.string ⟨x.key.toArray⟩, .int .u64 (x.seq : Int), .bool x.gone, .string ⟨x.val.toArray⟩, .slice (some ⟨nu.r, 0, none⟩) H H] 70 (0, 0)) := by
          rw [hw9, ← hnub, ← hnur]
          have := heap_alloc_new (World.alloc (w8.drewN 1) (.cells (Array.replicate H (.pointer none)) 73)) (.cells #[.string ⟨x.key.toArray⟩, .int .u64 (x.seq : Int), .bool x.gone, .string ⟨x.val.toArray⟩, .slice (some ⟨w8.heap.size, 0, none⟩) H H] 70)
          simpa using this
        have hblk2 : w9.heap[nu.r]? = some (.cells (Array.replicate H (.pointer none)) 73 (0, 0)) := by
          rw [hw9, ← hnur]
          rw [Below.heap_alloc _ _ _ (by simp)]
          exact heap_alloc_new (w8.drewN 1) _
        have hG9 : Grew w8 w9 := by rw [hw9]; exact ((Grew.drewN w8 1).alloc (Nat.le_refl _) _).alloc (by simp) _
        have hsz8 : w.heap.size ≤ w8.heap.size := HST8.out.size
        have hB5lt : b5 < w8.heap.size := HA8.out.lt
        have HNS := Lib.hid (show nu.s = H ∧ nu.x = x ∧ nu.h = H by rw [hnu]; exact ⟨rfl, rfl, rfl⟩)
        have HNEW := Lib.hid (show w8.heap.size ≤ nu.b ∧ w8.heap.size ≤ nu.r by omega)
        have HB9 : Hid (Linking w9 B hd P S nu b5 arr ((L : Int) + 1) ((CB : Int) + (16 + (x.key.length : Int) + (x.val.length : Int))) w (blksN (hd :: (P ++ S))) 0) := Lib.hid ⟨HLST8.out.start (P := hd :: P) (fun g hg => hG9.block g hg) HNEW.out.1 HNEW.out.2 (by have := HBw.out; omega) ⟨_, _, hblk1, .inl rfl, by rw [HNS.out.1, HNS.out.2.1]; exact fun j v h => by rw [← Array.getElem?_toList]; exact h⟩ _ hblk2 (by rw [HNS.out.1]; simp), HA8.out.grew hG9,
          ⟨((World.cell?_of_block (w := w8) (a := ⟨hd.b, 5, none⟩) (hG9.block hd.b HND8.out.lt)).trans HL8.out.1), ((World.frozen?_of_block (w := w8) (a := ⟨hd.b, 5, none⟩) (hG9.block hd.b HND8.out.lt)).trans HL8.out.2)⟩,
          ⟨((World.cell?_of_block (w := w8) (a := ⟨hd.b, 6, none⟩) (hG9.block hd.b HND8.out.lt)).trans HY8.out.1), ((World.frozen?_of_block (w := w8) (a := ⟨hd.b, 6, none⟩) (hG9.block hd.b HND8.out.lt)).trans HY8.out.2)⟩, HST8.out.grew hG9⟩
        have q0 : w9.cell? ⟨nu.b, 4, none⟩ = some (.slice (some ⟨nu.r, 0, none⟩) H H) := by rw [cell_blk hblk1]; rfl
        have HB5L := Lib.hid hB5lt
        have HSZ8 := Lib.hid hsz8
        rw [hnub]
        try rw [hnur]
        clear hw9 hblk1 hblk2 hG9 hnu hnub hnur hsz8 hB5lt
        have hh0 : (0 : Int) ≤ (H : Int) := by omega
        go_wp2_with fail
        clear q0
        go_loopw [8, 69] (fun _ i wy => ∃ j : Nat, j ≤ H ∧ i = .int .i64 (j : Int) ∧ Linking wy B hd P S nu b5 arr ((L : Int) + 1) ((CB : Int) + (16 + (x.key.length : Int) + (x.val.length : Int))) w (blksN (hd :: (P ++ S))) j) (fun _ i _ => H - (intOf i).toNat)
        case atStart => exact ⟨0, Nat.zero_le _, rfl, HB9.out⟩
        case round =>
          obtain ⟨j, hj, rfl, hK⟩ := hrel
          have HLK := Lib.hid hK
          clear hK
          have i0 : (0 : Int) ≤ (j : Int) := by omega
          have hH12 := HH12.out.2
          by_cases hlt : j < H
          · have i1 : (j : Int) < (H : Int) := by omega
            obtain ⟨nd, ha, hl⟩ := HV.out.2 j (by omega)
            obtain ⟨A, A2, k1, k2, k3, k4⟩ := last_in HP.out HS.out hl
            have HK1 := Lib.hid k1
            have HK3 := Lib.hid k3
            have hndP : nd ∈ hd :: P := by rw [k1]; simp
            have hndm : nd ∈ hd :: (P ++ S) := by rw [k4]; simp
            have hndr := (HM.out.lt nd.r ⟨nd, hndm, .inr rfl⟩).2
            have HLKd := Lib.hid (HLK.out.drewN 1)
            have hnum : atLevel nu j ∈ (hd :: P) ++ atLevel nu j :: S := by simp
            have hndL : nd ∈ (hd :: P) ++ atLevel nu j :: S := by rw [k1]; simp
            have hrow := HLKd.out.lst.row A nd (A2 ++ atLevel nu j :: S) (by rw [k1]; simp)
            obtain ⟨r1, r2⟩ := hrow.cell k2
            rw [nxt_past k3, show nxt (atLevel nu j :: S) j = nxt S j from nxt_zero (X := []) (by show ¬ j < j; omega)] at r1
            have hs2 : j < nd.s := by obtain ⟨_, _, _, h3, _⟩ := hrow; omega
            obtain ⟨cu, hcu, hcus, _⟩ := HLKd.out.lst.row (hd :: P) (atLevel nu j) S rfl
            have hcl : cu.size = H := by rw [hcus]; exact HNS.out.1
            obtain ⟨cuj, u1⟩ : ∃ u, (wr.drewN 1).cell? ⟨nu.r, j, none⟩ = some u := ⟨cu[j]'(by omega), by rw [show (wr.drewN 1).cell? ⟨nu.r, j, none⟩ = cu[j]? from cell_blk hcu j]; exact Array.getElem?_eq_getElem (by omega)⟩
            have u2 : (wr.drewN 1).frozen? ⟨nu.r, j, none⟩ = false := frozen_blk hcu j
            have e1 := (HLKd.out.lst.node (atLevel nu j) hnum).cells.2
            have e2 := (HLKd.out.lst.node nd hndL).cells.2
            have e3 : (wr.drewN 1).cell? ⟨b5, j, none⟩ = some (.pointer (some ⟨nd.b, 0, none⟩)) := by
              have h1 := HLKd.out.arr.cell (i := j) (by rw [HV.out.1]; omega)
              rw [h1, ← List.getElem?_eq_getElem]
              exact ha
            have g1 : nu.r ≠ nd.r := by have := HNEW.out.2; have := HSZ8.out; omega
            have g2 : b5 ≠ nu.r := by have := HNEW.out.2; have := HB5L.out; omega
            have g3 : b5 ≠ nd.r := by have := HB5w.out; omega
            have HSTEP := Lib.hid (HLKd.out.step (by rw [HNS.out.1]; exact hlt) HK1.out k2 HK3.out ⟨g2, g3⟩ ⟨.inr (by have := HNEW.out.2; have := HSZ8.out; omega), .inl (blks_mono hndP)⟩ g1)
            obtain ⟨v0, hv0⟩ : ∃ v, v = nxt S j := ⟨_, rfl⟩
            rw [← hv0] at r1 HSTEP
            have f1 : ∀ y : AnyOf (LinkC (wr.drewN 1) nu.r nd.r j (.pointer v0) (.pointer (some ⟨nu.b, 0, none⟩))), y.1.2.cell? ⟨nu.b, 4, none⟩ = some (.slice (some ⟨nu.r, 0, none⟩) H H) := fun y => LinkC.cell y.2 (HLKd.out.lst.b_ne_r (p := atLevel nu j) (q := atLevel nu j) hnum hnum) (HLKd.out.lst.b_ne_r (p := atLevel nu j) hnum hndL) (by have h := e1; simp only [HNS.out.1] at h; exact h)
            have f2 : ∀ y : AnyOf (LinkC (wr.drewN 1) nu.r nd.r j (.pointer v0) (.pointer (some ⟨nu.b, 0, none⟩))), y.1.2.cell? ⟨nd.b, 4, none⟩ = some (.slice (some ⟨nd.r, 0, none⟩) nd.s nd.s) := fun y => LinkC.cell y.2 (HLKd.out.lst.b_ne_r (q := atLevel nu j) hndL hnum) (HLKd.out.lst.b_ne_r hndL hndL) e2
            have f3 : ∀ y : AnyOf (LinkC (wr.drewN 1) nu.r nd.r j (.pointer v0) (.pointer (some ⟨nu.b, 0, none⟩))), y.1.2.cell? ⟨b5, j, none⟩ = some (.pointer (some ⟨nd.b, 0, none⟩)) := fun y => LinkC.cell y.2 g2 g3 e3
            have R1 := Lib.hid r1
            have R2 := Lib.hid r2
            have U1 := Lib.hid u1
            have U2 := Lib.hid u2
            have G1 := Lib.hid g1
            have i2 : (j : Int) < (nd.s : Int) := by omega
            have i3 : (j : Int) < 12 := by omega
            clear ha hl k1 k2 k3 k4 hndP hndm hndr hnum hndL hrow hs2 hcu hcus hcl u1 u2 e1 e2 e3 g1 g2 g3 hv0 r1 r2
            go_upto_region 13 with fail
            have hqq := And.intro i1 (And.intro i2 (And.intro i3 (And.intro f1 (And.intro f2 f3))))
            clear f1 f2 f3
            refine wp_region_p (LinkC (wr.drewN 1) nu.r nd.r j (.pointer v0) (.pointer (some ⟨nu.b, 0, none⟩))) [20, 23, 25] (by kernel_rfl) (by kernel_rfl) (by kernel_rfl) (.inl ⟨by omega, rfl⟩) ?_
            repeat ((refine wpP_value (v := ?_) rfl rfl (fun x => ?_) ?_; rotate_left; (focus (simp [go_sem, hqq]; (try go_ints); first | done | (with_reducible rfl))); (simp only [Act.put, List.setIfInBounds_toArray, List.set_cons_succ, List.set_cons_zero])))
            refine wpP_read (.pointer v0) rfl rfl (fun W h => ⟨?_, ?_⟩) ?_
            · rcases h with ⟨_, rfl⟩ | ⟨h, _⟩ | ⟨h, _⟩
              · have r1 := R1.out
                simp [go_sem, r1]
              · omega
              · omega
            · rcases h with ⟨_, rfl⟩ | ⟨h, _⟩ | ⟨h, _⟩
              · exact .inl ⟨by omega, rfl⟩
              · omega
              · omega
            (simp only [Act.put, List.setIfInBounds_toArray, List.set_cons_succ, List.set_cons_zero])
            repeat ((refine wpP_value (v := ?_) rfl rfl (fun x => ?_) ?_; rotate_left; (focus (simp [go_sem, hqq]; (try go_ints); first | done | (with_reducible rfl))); (simp only [Act.put, List.setIfInBounds_toArray, List.set_cons_succ, List.set_cons_zero])))
            refine wpP_write rfl rfl (fun W h => ?_) ?_
            · rcases h with ⟨_, rfl⟩ | ⟨h, _⟩ | ⟨h, _⟩
              · have u1 := U1.out
                have u2 := U2.out
                exact ⟨_, by simp [go_sem, u1, u2], .inr (.inl ⟨rfl, rfl⟩)⟩
              · omega
              · omega
            (simp only [Act.put])
            repeat ((refine wpP_value (v := ?_) rfl rfl (fun x => ?_) ?_; rotate_left; (focus (simp [go_sem, hqq]; (try go_ints); first | done | (with_reducible rfl))); (simp only [Act.put, List.setIfInBounds_toArray, List.set_cons_succ, List.set_cons_zero])))
            refine wpP_write rfl rfl (fun W h => ?_) ?_
            · rcases h with ⟨h, _⟩ | ⟨_, rfl⟩ | ⟨h, _⟩
              · omega
              · have r1 : ((wr.drewN 1).setCell ⟨nu.r, j, none⟩ (.pointer v0)).cell? ⟨nd.r, j, none⟩ = some (.pointer v0) := by rw [World.cell?_setCell_other _ _ _ _ (fun e => G1.out (congrArg Addr.block e))]; exact R1.out
                have r2 : ((wr.drewN 1).setCell ⟨nu.r, j, none⟩ (.pointer v0)).frozen? ⟨nd.r, j, none⟩ = false := by rw [World.frozen?_setCell]; exact R2.out
                exact ⟨_, by simp [go_sem, r1, r2], .inr (.inr ⟨rfl, rfl⟩)⟩
              · omega
            (simp only [Act.put])
            refine wpP_nil ?_
            intro wz hz
            rcases hz with ⟨h, _⟩ | ⟨h, _⟩ | ⟨_, rfl⟩
            · omega
            · omega
            clear hqq
            go_wp2_with fail
            go_roundw
            case rel => exact ⟨j + 1, hlt, by go_num, HSTEP.out⟩
            case measure => simp [intOf]; omega
          · obtain rfl : j = H := by omega
            have i1 : ¬ (j : Int) < (j : Int) := by omega
            go_wp2_with fail
            go_ret
            have hat : atLevel nu j = nu := by rw [← HNS.out.2.2]
            have hpi := put_ins (S := S) HPl.out HSA.out
            have hmap := put_mid (P := P) (S := S) HNS.out.2.1
            have hLL : ((P ++ nu :: S).length : Int) = (L : Int) + 1 := by rw [HL.out]; simp <;> omega
            have hCC : ((costs ((P ++ nu :: S).map (·.x)) : Nat) : Int) = (CB : Int) + (16 + (x.key.length : Int) + (x.val.length : Int)) := by
              rw [HCB.out, hmap, costs_append, costs_cons, List.map_append, costs_append]
              simp only [cost]
              omega
            have hlst := HLK.out.lst
            rw [hat] at hlst
            refine ⟨0, P ++ nu :: S, rfl, ⟨hlst, HM.out.hh, HM.out.hs, srt_ins HM.out.srt HNS.out.2.1 HP.out HSA.out, fun q' hq' => ?_, ?_, ?_⟩, HLK.out.stay, .inr (.inr ⟨HMAY.out, rfl, by rw [hpi], by rw [hpi, hmap], P, nu, S, rfl, HPl.out, rfl, HNS.out.2.1, ?_, ?_, ?_⟩)⟩
            · rcases List.mem_append.1 hq' with h | h
              · exact HM.out.hts q' (by simp [h])
              · rcases List.mem_cons.1 h with rfl | h
                · rw [HNS.out.1, HNS.out.2.2]
                  exact ⟨HH12.out.1, rfl, HH12.out.2⟩
                · exact HM.out.hts q' (List.mem_append_right _ h)
            · rw [hLL]; exact HLK.out.len
            · rw [hCC]; exact HLK.out.bytes
            · rw [HNS.out.2.2, HH.out, HL.out]
            · have := HNEW.out.1; have := HSZ8.out; omega
            · have := HNEW.out.2; have := HSZ8.out; omega
  · have hmay : ItP.may x = false := by simpa using hmay
    rw [hmay] at HGOOD
    have HMAY := Lib.hid hmay
    clear hmay
    go_enter Try.func15, Try.ntmps15
    go_upto_region 1 with fail
    rw [← HBX.out, ← HW1.out]
    obtain ⟨y0, y1, y2, y3⟩ := range_cells HX1.out.range
    go_wp2_with (go_at_call 41; refine (HGOOD.out _).mono ?_; rintro e w2 ⟨rfl, hG2⟩)
    go_ret
    exact ⟨1, ns, rfl, HM.out.grew (HG1.out.trans hG2), Stay.of_grew (HG1.out.trans hG2), .inl ⟨HMAY.out, rfl, rfl⟩⟩
end Go.Proofs.Ytkkeodfoiffofaa
