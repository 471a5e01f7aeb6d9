/- The walk of (*Mem).ahead. -/
import Derived.Test.YtkkeodfoiffofaaMemPlain
import Derived.Test.YtkkeodfoiffofaaMemCmp
import Derived.Deep.LoopGhost
namespace Go.Proofs.Ytkkeodfoiffofaa
open Go.RowKit
set_option linter.unusedVariables false
open MemP
/-- what ahead answers: on each level the last node that stands ahead -/
def AheadV (full : List Nd) (x : It) (arr : List Value) : Prop := arr.length = 12 ∧ ∀ j, j < 12 → ∃ nd, arr[j]? = some (.pointer (some ⟨nd.b, 0, none⟩)) ∧ LastAt full x j nd
def nils12 : List Value := List.replicate 12 (.pointer none)
theorem size_arr12 : (Try.prog.info? 74).map (·.size) = some 12 := by kernel_rfl
theorem ArrV.there {w : World} {g : Nat} {xs : List Value} (h : ArrV w g xs) : w.there g 0 xs.length := fun j hj => by
  rw [Nat.zero_add]
  exact ⟨by rw [h.cell hj]; rfl, h.frozen j⟩
theorem ArrV.range' {w : World} {g : Nat} {xs : List Value} (h : ArrV w g xs) : w.rangeAt g 0 xs := fun j v hj => by
  have hl := (List.getElem?_eq_some_iff.1 hj)
  rw [Nat.zero_add, h.cell hl.1, hl.2]
theorem ArrV.setAll {w : World} {g : Nat} {xs ys : List Value} (h : ArrV w g xs) (hl : ys.length = xs.length) : ArrV (w.setCells g 0 ys) g ys := by
  obtain ⟨e, hh⟩ := h
  refine ⟨e, ?_⟩
  rw [heap_setCells g e (0, 0) ys 0 w _ hh]
  congr 2
  apply Array.ext
  · rw [putAt_size]; simp [hl]
  · intro i h1 h2
    have hi : i < ys.length := by simpa using h2
    have := putAt_in ys 0 xs.toArray i ys[i] (List.getElem?_eq_getElem hi) (by simp [hl])
    rw [Nat.zero_add, Array.getElem?_eq_getElem h1] at this
    simpa using this
/-- a node of the list, in every world that grew -/
theorem node_cells {W : World} {B : Nat} {full : List Nd} (hL : Lst W B full) {nd : Nd} (hm : nd ∈ full) : ∀ y : GrewOf W, y.1.cell? ⟨nd.b, 4, none⟩ = some (.slice (some ⟨nd.r, 0, none⟩) nd.s nd.s) := fun y => ((hL.grew y.2).node nd hm).cells.2
theorem node_item {W : World} {B : Nat} {full : List Nd} (hL : Lst W B full) {nd : Nd} (hm : nd ∈ full) : ∀ y : GrewOf W, y.1.cell? ⟨nd.b, 0, none⟩ = some (sv nd.x.key) ∧ y.1.cell? ⟨nd.b, 1, none⟩ = some (.int .u64 (nd.x.seq : Int)) ∧ y.1.cell? ⟨nd.b, 2, none⟩ = some (.bool nd.x.gone) ∧ y.1.cell? ⟨nd.b, 3, none⟩ = some (sv nd.x.val) := fun y => ((hL.grew y.2).node nd hm).cells.1
theorem row_cell {W : World} {B : Nat} {A R : List Nd} {nd : Nd} {v : Option Addr} (hL : Lst W B (A ++ nd :: R)) {i : Nat} (hi : i < nd.h) (hv : nxt R i = v) : ∀ y : GrewOf W, y.1.cell? ⟨nd.r, i, none⟩ = some (.pointer v) := fun y => by
  rw [← hv]
  exact (((hL.grew y.2).row A nd R rfl).cell hi).1
/-- where a search stands on level z: at the head or at a node that stands ahead -/
def AtNode (full : List Nd) (x : It) (z : Int) (nd : Nd) (A R : List Nd) : Prop := full = A ++ nd :: R ∧ (A = [] ∨ ItP.ahead nd.x x = true) ∧ z < (nd.h : Int)
/-- the levels above z are done -/
def Above (full : List Nd) (x : It) (z : Int) (arr : List Value) : Prop := arr.length = 12 ∧ ∀ j : Nat, z < (j : Int) → j < 12 → ∃ nd, arr[j]? = some (.pointer (some ⟨nd.b, 0, none⟩)) ∧ LastAt full x j nd
theorem Above.step {full A R : List Nd} {x : It} {k : Nat} {arr : List Value} {nd : Nd} (h : Above full x (k : Int) arr) (ha : AtNode full x (k : Int) nd A R) (hr : ∀ q ∈ R, k < q.h → ItP.ahead q.x x = false) (hk : k < 12) : Above full x ((k : Int) - 1) (arr.set k (.pointer (some ⟨nd.b, 0, none⟩))) := by
  obtain ⟨h1, h2⟩ := h
  refine ⟨by simpa using h1, fun j hj hj12 => ?_⟩
  by_cases e : j = k
  · subst e
    exact ⟨nd, by rw [List.getElem?_set, if_pos rfl, if_pos (by omega)], A, R, ha.1, ha.2.1, by have := ha.2.2; omega, hr⟩
  · obtain ⟨nd', e1, e2⟩ := h2 j (by omega) hj12
    exact ⟨nd', by rw [List.getElem?_set, if_neg (fun x => e x.symm)]; exact e1, e2⟩
set_option maxRecDepth 100000 in
set_option maxHeartbeats 4000000 in
theorem mem_ahead (B : Nat) (hd : Nd) (ns : List Nd) (x : It) (w : World) (hL : Lst w B (hd :: ns)) (hh : hd.h = 12) (hs : SrtN ns) (h12 : ∀ q ∈ hd :: ns, q.s ≤ 12) :
    Calls Try.prog 42 #[.pointer (some ⟨hd.b, 0, none⟩), iv x] w fun e w' => ∃ arr, e = .returned (.agg arr.toArray) ∧ AheadV (hd :: ns) x arr ∧ Below w.heap.size w w' := by
  obtain ⟨w1, hw1⟩ : ∃ w1, w1 = w.alloc (.cells #[.string ⟨x.key.toArray⟩, .int .u64 (x.seq : Int), .bool x.gone, .string ⟨x.val.toArray⟩] 29) := ⟨_, rfl⟩
  obtain ⟨w2, hw2⟩ : ∃ w2, w2 = w1.alloc (.cells nils12.toArray 74) := ⟨_, rfl⟩
  obtain ⟨w3, hw3⟩ : ∃ w3, w3 = w2.alloc (.cells nils12.toArray 74) := ⟨_, rfl⟩
  have hs1 : w1.heap.size = w.heap.size + 1 := by rw [hw1]; simp
  have hs2 : w2.heap.size = w.heap.size + 2 := by rw [hw2]; simp [hs1]
  have hs3 : w3.heap.size = w.heap.size + 3 := by rw [hw3]; simp [hs2]
  have hB3 : Below w.heap.size w w3 := by rw [hw3, hw2, hw1]; exact (((Below.refl _ _).alloc (Nat.le_refl _) _).alloc (by simp) _).alloc (by simp; omega) _
  have HX := Lib.hid (show IBox w3 w.heap.size x by rw [hw3, hw2]; refine IBox.alloc (IBox.alloc ?_ _) _; rw [hw1]; exact IBox.new w x)
  have HA4 := Lib.hid (show ArrV w3 (w.heap.size + 1) nils12 by
    have := ArrV.made w1 nils12.toArray 74
    rw [← hw2, hs1] at this
    rw [hw3]
    exact this.alloc _)
  have HA5 := Lib.hid (show ArrV w3 (w.heap.size + 1 + 1) nils12 by
    have := ArrV.made w2 nils12.toArray 74
    rw [← hw3, hs2] at this
    exact this)
  have HB3 := Lib.hid hB3
  have HS3 := Lib.hid hs3
  have HL := Lib.hid hL
  have HW1 := Lib.hid hw1
  have HW2 := Lib.hid hw2
  have HW3 := Lib.hid hw3
  have HS1 := Lib.hid hs1
  have HS2 := Lib.hid hs2
  have HS := Lib.hid hs
  have H12 := Lib.hid h12
  clear hL hw1 hw2 hw3 hs1 hs2 hs3 hB3 hs h12
  have HAT0 := Lib.hid (show AtNode (hd :: ns) x 11 hd [] ns from ⟨rfl, .inl rfl, by omega⟩)
  obtain ⟨full, hfull⟩ : ∃ f, f = hd :: ns := ⟨_, rfl⟩
  rw [← hfull] at HL H12 HAT0 ⊢
  have HFULL := Lib.hid hfull
  clear hfull hh HS1 HS2
  go_enter Try.func42, Try.ntmps42
  go_upto_region 2 with fail
  change Code.wp Try.prog _ _ _ (World.alloc (World.alloc (World.alloc w _) (.cells nils12.toArray 74)) (.cells nils12.toArray 74))
  rw [← HW1.out, ← HW2.out, ← HW3.out]
  obtain ⟨bx, hbx⟩ : ∃ v, v = w.heap.size := ⟨_, rfl⟩
  have HBX := Lib.hid hbx
  rw [← hbx] at HX HA4 HA5 HB3 HS3 ⊢
  clear hbx
  go_wp2_with fail
  go_loopw [6, 7] (fun n i wy => ∃ (z : Int) (nd : Nd) (A R : List Nd) (arr : List Value), -1 ≤ z ∧ z ≤ 11 ∧ i = .int .i64 z ∧ n = .pointer (some ⟨nd.b, 0, none⟩) ∧ AtNode full x z nd A R ∧ IBox wy bx x ∧ ArrV wy (bx + 1) nils12 ∧ ArrV wy (bx + 1 + 1) arr ∧ Above full x z arr ∧ Below bx w wy ∧ w3.heap.size ≤ wy.heap.size) (fun _ i _ => (intOf i + 1).toNat)
  case atStart => exact ⟨11, hd, [], ns, nils12, by omega, by omega, rfl, rfl, HAT0.out, HX.out, HA4.out, HA5.out, ⟨rfl, fun j h1 h2 => by omega⟩, HB3.out, Nat.le_refl _⟩
  case round =>
    obtain ⟨z, nd0, A0, R0, arr, hz1, hz2, rfl, rfl, hAt, hX, hA4, hA5, hAb, hB, hsz⟩ := hrel
    have HAT := Lib.hid hAt
    have HX := Lib.hid hX
    have HA4 := Lib.hid hA4
    have HA5 := Lib.hid hA5
    have HAB := Lib.hid hAb
    have HBr := Lib.hid hB
    have HSZ := Lib.hid hsz
    clear hAt hX hA4 hA5 hAb hB hsz
    by_cases hz : 0 ≤ z
    · obtain ⟨k, rfl⟩ : ∃ k : Nat, z = (k : Int) := ⟨z.toNat, by omega⟩
      obtain ⟨wo, rfl⟩ : ∃ v : World, v = wr := ⟨_, rfl⟩
      have hk12 : k < 12 := by omega
      go_wp2_with fail
      go_loopg [6] R0.length (fun gk n wy => ∃ (nd : Nd) (A R : List Nd), R.length = gk ∧ n = .pointer (some ⟨nd.b, 0, none⟩) ∧ AtNode full x (k : Int) nd A R ∧ Grew wo wy)
      case atStart => exact ⟨nd0, A0, R0, rfl, rfl, HAT.out, Grew.refl _⟩
      case round =>
        obtain ⟨nd, A, R, hR, rfl, hAt, hG⟩ := hrel
        have HATi := Lib.hid hAt
        have HG := Lib.hid hG
        have HR := Lib.hid hR
        obtain ⟨e1, e2, e3⟩ := hAt
        have hkh : k < nd.h := by omega
        have HLr := Lib.hid (show Lst wr B full from (HL.out.below HBr.out (by rw [HBX.out]; omega)).grew HG.out)
        have hm : nd ∈ full := by rw [e1]; simp
        have hs12 := H12.out nd hm
        have HROW : Hid (∀ v, nxt R k = v → ∀ y : GrewOf wr, y.1.cell? ⟨nd.r, k, none⟩ = some (.pointer v)) := Lib.hid fun v hv => row_cell (B := B) (A := A) (by rw [← e1]; exact HLr.out) hkh hv
        have hks : k < nd.s := by
          obtain ⟨cs, _, _, h3, _⟩ := HLr.out.row A nd R e1
          omega
        have HN4 := Lib.hid (node_cells HLr.out hm)
        have HE1 := Lib.hid e1
        have HE2 := Lib.hid e2
        clear hG hR e1 e2 e3 hm
        have i0 : (0 : Int) ≤ (k : Int) := by omega
        have i1 : (k : Int) < (nd.s : Int) := by omega
        cases hn : nxt R k with
        | none =>
          have hq := HROW.out none hn
          have HNA := Lib.hid (show ∀ q ∈ R, k < q.h → ItP.ahead q.x x = false from fun q hq h => by have := nxt_none hn q hq; omega)
          clear hn HROW
          go_upto_region 6 with fail
          have hqq := And.intro i1 (And.intro HN4.out hq)
          refine wp_region_x [] (by kernel_rfl) (by kernel_rfl) (by kernel_rfl) ?_
          simp only [blank, List.foldl_nil]
          repeat (first | (refine wpX_value (v := ?_) rfl (by intros; simp) rfl rfl (fun x => ?_) ?_; rotate_left; (focus (simp [go_sem, hqq, ↓IntWalk.iteOmega]; (try go_ints); first | done | (with_reducible rfl))); (simp only [Act.put, List.setIfInBounds_toArray, List.set_cons_succ, List.set_cons_zero])) | (refine wpX_skip rfl ?_; (simp only [Act.put, List.setIfInBounds_toArray, List.set_cons_succ, List.set_cons_zero])))
          (refine wpX_nil ?_; intro xb wx hxg xl; obtain ⟨xf, xe⟩ := LikeAll.end_ xl; clear xl; subst xe; simp only [fill, List.foldl_nil, Act.put])
          clear hqq
          have HGx := Lib.hid (HG.out.trans hxg)
          have HA5x := Lib.hid (HA5.out.grew HGx.out)
          have HABn := Lib.hid (HAB.out.step HATi.out HNA.out hk12)
          have q5 := HA5x.out.cell (i := k) (by rw [HAB.out.1]; omega)
          have q6 := HA5x.out.frozen k
          have HA5n := Lib.hid (HA5x.out.set k (.pointer (some ⟨nd.b, 0, none⟩)))
          have HXn := Lib.hid ((HX.out.grew HGx.out).keep (Below.heap_setCell wx ⟨bx + 1 + 1, k, none⟩ (.pointer (some ⟨nd.b, 0, none⟩)) bx (by simp; omega)))
          have HA4n := Lib.hid ((HA4.out.grew HGx.out).setOther (p := ⟨bx + 1 + 1, k, none⟩) (by simp) (.pointer (some ⟨nd.b, 0, none⟩)))
          have HBn := Lib.hid ((HBr.out.trans (HGx.out.mono (by have := HBr.out.size; have := HSZ.out; have := HS3.out; omega))).setCell (p := ⟨bx + 1 + 1, k, none⟩) (by simp; omega) (.pointer (some ⟨nd.b, 0, none⟩)))
          have HSZn := Lib.hid (show w3.heap.size ≤ (wx.setCell ⟨bx + 1 + 1, k, none⟩ (.pointer (some ⟨nd.b, 0, none⟩))).heap.size by have := HSZ.out; have := HGx.out.size; simp [World.setCell]; omega)
          have k12 : (k : Int) < 12 := by omega
          have HATn := Lib.hid (show AtNode full x ((k : Int) - 1) nd A R from ⟨HATi.out.1, HATi.out.2.1, by have := HATi.out.2.2; omega⟩)
          go_wp2_with fail
          go_roundw
          case rel => exact ⟨(k : Int) - 1, nd, A, R, _, by omega, by omega, by go_num, rfl, HATn.out, HXn.out, HA4n.out, HA5n.out, HABn.out, HBn.out, HSZn.out⟩
          case measure => simp [intOf]
        | some a =>
          obtain ⟨A', nd', R', f1, f2, f3, f4⟩ := nxt_some hn
          subst f2
          have hq := HROW.out _ hn
          clear hn HROW
          have hm' : nd' ∈ full := by rw [HE1.out, f1]; simp
          have HI := Lib.hid (node_item HLr.out hm')
          have HXr := Lib.hid (show ∀ y : GrewOf wr, y.1.cell? ⟨bx, 0, none⟩ = some (sv x.key) ∧ y.1.cell? ⟨bx, 1, none⟩ = some (.int .u64 (x.seq : Int)) ∧ y.1.cell? ⟨bx, 2, none⟩ = some (.bool x.gone) ∧ y.1.cell? ⟨bx, 3, none⟩ = some (sv x.val) from fun y => range_cells ((HX.out.grew HG.out).grew y.2).range)
          obtain ⟨cz, hcz⟩ : ∃ c, c = ItP.cmp nd'.x x := ⟨_, rfl⟩
          have HCM : Hid (∀ W, Calls Try.prog 43 #[iv nd'.x, iv x] W fun e w'' => e = .returned (.int .i64 cz) ∧ Grew W w'') := Lib.hid fun W => by rw [hcz]; exact mem_compare nd'.x x W
          have HF1 := Lib.hid f1
          by_cases hah : ItP.ahead nd'.x x = true
          · have hc0 : cz < 0 := by rw [hcz]; exact (ItP.cmp_neg _ _).2 hah
            have HAN := Lib.hid (show AtNode full x (k : Int) nd' (A ++ nd :: A') R' from ⟨by rw [HE1.out, HF1.out]; simp, .inr hah, by omega⟩)
            clear hcz f1 f4 hm' hah
            go_upto_region 6 with fail
            have hqq := And.intro i1 (And.intro hc0 (And.intro HN4.out (And.intro hq (And.intro HI.out HXr.out))))
            refine wp_region_x [] (by kernel_rfl) (by kernel_rfl) (by kernel_rfl) ?_
            simp only [blank, List.foldl_nil]
            repeat (first
              | (refine wpX_value (v := ?_) rfl (by intros; simp) rfl rfl (fun x => ?_) ?_; rotate_left; (focus (simp [go_sem, hqq, ↓IntWalk.iteOmega]; (try go_ints); first | done | (with_reducible rfl))); (simp only [Act.put, List.setIfInBounds_toArray, List.set_cons_succ, List.set_cons_zero]))
              | (refine wpX_call (.int .i64 cz) _ _ rfl (by intros; simp) rfl rfl (fun x => ?_) (fun W _ => HCM.out W) ?_; (focus (simp [go_sem]; done)); (simp only [Act.put, List.setIfInBounds_toArray, List.set_cons_succ, List.set_cons_zero])))
            (refine wpX_nil ?_; intro xb wx hxg xl; obtain ⟨xf, xe⟩ := LikeAll.end_ xl; clear xl; subst xe; simp only [fill, List.foldl_nil, Act.put])
            clear hqq
            have p1 := HN4.out ⟨wx, hxg⟩
            have p2 := hq ⟨wx, hxg⟩
            simp only at p1 p2
            clear hq
            go_wp2_with fail
            go_roundg R'.length
            case measure => rw [← HR.out, HF1.out]; simp; omega
            case rel => exact ⟨nd', A ++ nd :: A', R', rfl, rfl, HAN.out, HG.out.trans hxg⟩
          · have hah : ItP.ahead nd'.x x = false := by simpa using hah
            have hc0 : ¬ cz < 0 := fun h => by
              rw [hcz, ItP.cmp_neg, hah] at h
              cases h
            have HNA := Lib.hid (show ∀ q ∈ R, k < q.h → ItP.ahead q.x x = false from fun q hqm h => by
              rw [f1] at hqm
              rcases List.mem_append.1 hqm with h1 | h1
              · have := f4 q h1
                omega
              · rcases List.mem_cons.1 h1 with rfl | h1
                · exact hah
                · refine srt_behind (A := ?_) (nd := nd') ?_ hah q h1
                  rotate_left
                  · have h2 := HE1.out
                    rw [HFULL.out, f1] at h2
                    cases A with
                    | nil =>
                      simp only [List.nil_append, List.cons.injEq] at h2
                      have := HS.out
                      rw [h2.2] at this
                      exact this
                    | cons a0 A1 =>
                      simp only [List.cons_append, List.cons.injEq] at h2
                      have := HS.out
                      rw [h2.2, show A1 ++ nd :: (A' ++ nd' :: R') = (A1 ++ [nd]) ++ (A' ++ nd' :: R') by simp] at this
                      exact srt_suffix (A := A1 ++ [nd]) this)
            clear hcz f1 f4 hm' hah
            go_upto_region 6 with fail
            have hqq := And.intro i1 (And.intro hc0 (And.intro HN4.out (And.intro hq (And.intro HI.out HXr.out))))
            refine wp_region_x [] (by kernel_rfl) (by kernel_rfl) (by kernel_rfl) ?_
            simp only [blank, List.foldl_nil]
            repeat (first
              | (refine wpX_value (v := ?_) rfl (by intros; simp) rfl rfl (fun x => ?_) ?_; rotate_left; (focus (simp [go_sem, hqq, ↓IntWalk.iteOmega]; (try go_ints); first | done | (with_reducible rfl))); (simp only [Act.put, List.setIfInBounds_toArray, List.set_cons_succ, List.set_cons_zero]))
              | (refine wpX_call (.int .i64 cz) _ _ rfl (by intros; simp) rfl rfl (fun x => ?_) (fun W _ => HCM.out W) ?_; (focus (simp [go_sem]; done)); (simp only [Act.put, List.setIfInBounds_toArray, List.set_cons_succ, List.set_cons_zero])))
            (refine wpX_nil ?_; intro xb wx hxg xl; obtain ⟨xf, xe⟩ := LikeAll.end_ xl; clear xl; subst xe; simp only [fill, List.foldl_nil, Act.put])
            clear hqq
            have HGx := Lib.hid (HG.out.trans hxg)
            have HA5x := Lib.hid (HA5.out.grew HGx.out)
            have HABn := Lib.hid (HAB.out.step HATi.out HNA.out hk12)
            have q5 := HA5x.out.cell (i := k) (by rw [HAB.out.1]; omega)
            have q6 := HA5x.out.frozen k
            have HA5n := Lib.hid (HA5x.out.set k (.pointer (some ⟨nd.b, 0, none⟩)))
            have HXn := Lib.hid ((HX.out.grew HGx.out).keep (Below.heap_setCell wx ⟨bx + 1 + 1, k, none⟩ (.pointer (some ⟨nd.b, 0, none⟩)) bx (by simp; omega)))
            have HA4n := Lib.hid ((HA4.out.grew HGx.out).setOther (p := ⟨bx + 1 + 1, k, none⟩) (by simp) (.pointer (some ⟨nd.b, 0, none⟩)))
            have HBn := Lib.hid ((HBr.out.trans (HGx.out.mono (by have := HBr.out.size; have := HSZ.out; have := HS3.out; omega))).setCell (p := ⟨bx + 1 + 1, k, none⟩) (by simp; omega) (.pointer (some ⟨nd.b, 0, none⟩)))
            have HSZn := Lib.hid (show w3.heap.size ≤ (wx.setCell ⟨bx + 1 + 1, k, none⟩ (.pointer (some ⟨nd.b, 0, none⟩))).heap.size by have := HSZ.out; have := HGx.out.size; simp [World.setCell]; omega)
            have k12 : (k : Int) < 12 := by omega
            have HATn := Lib.hid (show AtNode full x ((k : Int) - 1) nd A R from ⟨HATi.out.1, HATi.out.2.1, by have := HATi.out.2.2; omega⟩)
            go_wp2_with fail
            go_roundw
            case rel => exact ⟨(k : Int) - 1, nd, A, R, _, by omega, by omega, by go_num, rfl, HATn.out, HXn.out, HA4n.out, HA5n.out, HABn.out, HBn.out, HSZn.out⟩
            case measure => simp [intOf]
    · have hzn : z = -1 := by omega
      subst hzn
      have HAB' := Lib.hid (show AheadV full x arr from ⟨HAB.out.1, fun j hj => HAB.out.2 j (by omega) hj⟩)
      have h74 := size_arr12
      have HS4 := Lib.hid (HA4.out.there)
      have HL5 := Lib.hid HA5.out.range'
      have HA4n := Lib.hid (HA4.out.setAll (ys := arr) (by rw [HAB.out.1]; rfl))
      have HLEN := Lib.hid (show (Try.prog.info? 74).map (·.size) = some arr.length by rw [HAB.out.1]; exact size_arr12)
      have HONE : Hid (arr.toArray.all (·.oneCell') = true) := Lib.hid (all_oneCell_toArray fun v hv => by
        obtain ⟨j, hj, e⟩ := List.getElem_of_mem hv
        obtain ⟨nd', e1, _⟩ := HAB'.out.2 j (by rw [← HAB.out.1]; exact hj)
        rw [List.getElem?_eq_getElem hj, e] at e1
        injection e1 with e1
        rw [e1]
        rfl)
      have HTH : Hid (wr.there (bx + 1) 0 arr.toArray.size) := Lib.hid (by have := HS4.out; rw [List.size_toArray, HAB.out.1]; exact this)
      have HBn := Lib.hid (HBr.out.grown (grown_setCells (bx + 1) arr 0 wr) (by have := HSZ.out; have := HS3.out; omega) (fun k e => by cases e; omega))
      clear h74
      go_wp2_with (first
        | (refine wpList_load_mid rfl 74 (.tmp 5) rfl (bx + 1 + 1) 0 rfl arr _ HL5.out Try.underlying74 rfl HLEN.out ?_)
        | (refine wpList_store_mid rfl 74 (.tmp 4) (.tmp 48) rfl (bx + 1) 0 arr.toArray rfl rfl HTH.out (by rw [List.size_toArray]; exact HLEN.out) HONE.out ?_))
      have hres := run_loadVar_mid (P := Try.prog) (wr.setCells (bx + 1) 0 arr) (bx + 1) 0 74 arr _ HA4n.out.range' Try.underlying74 rfl HLEN.out
      refine bodyPost_ret (v := .agg arr.toArray) (by simp [results, Try.results42, asAddr, hres]) rfl ⟨arr, rfl, HAB'.out, ?_⟩
      rw [← HBX.out]
      simpa using HBn.out
end Go.Proofs.Ytkkeodfoiffofaa
