/- The walks of slices.BinarySearchFunc and of Table.at, From, Len, Blocks, Bounds, Get. -/
import Derived.Test.YtkkeodfoiffofaaTabC
import Derived.Test.YtkkeodfoiffofaaTabCmp
import Derived.Test.YtkkeodfoiffofaaRefSorted
import Derived.BigQuiet
import Derived.Test.YtkkeodfoiffofaaTabBuild
import Derived.Test.YtkkeodfoiffofaaTabA
import Derived.Test.YtkkeodfoiffofaaRefGet
namespace Go.Proofs.Ytkkeodfoiffofaa
open Go.RowKit
set_option linter.unusedVariables false
theorem srt_cut {x : It} : ∀ {l : List It}, ItP.Srt l → (∀ y ∈ l.take (ItP.at_ x l), ItP.ahead y x = true) ∧ (∀ y ∈ l.drop (ItP.at_ x l), ItP.ahead y x = false)
  | [], _ => ⟨fun y h => by simp at h, fun y h => by simp at h⟩
  | y :: r, h => by
    unfold ItP.Srt at h
    rw [List.pairwise_cons] at h
    unfold ItP.at_
    rw [List.takeWhile_cons]
    cases hy : ItP.ahead y x with
    | true =>
      have ih := srt_cut (x := x) (l := r) h.2
      unfold ItP.at_ at ih
      simp only [if_true, List.length_cons, List.take_succ_cons, List.drop_succ_cons]
      refine ⟨fun z hz => ?_, ih.2⟩
      rcases List.mem_cons.1 hz with rfl | hz
      · exact hy
      · exact ih.1 z hz
    | false =>
      simp only [Bool.false_eq_true, if_false, List.length_nil, List.take_zero, List.drop_zero]
      refine ⟨(fun z hz => by cases hz), fun z hz => ?_⟩
      rcases List.mem_cons.1 hz with rfl | hz
      · exact hy
      · cases hz2 : ItP.ahead z x with
        | false => rfl
        | true =>
          rw [ItP.ahead_trans (h.1 z hz) hz2] at hy
          cases hy
theorem at_le (x : It) (l : List It) : ItP.at_ x l ≤ l.length := by
  unfold ItP.at_
  exact (List.takeWhile_sublist _).length_le
theorem at_lo {l : List It} {x y : It} {k : Nat} (hs : ItP.Srt l) (hy : l[k]? = some y) (h : ItP.ahead y x = true) : k + 1 ≤ ItP.at_ x l := by
  rcases Nat.lt_or_ge k (ItP.at_ x l) with h1 | h1
  · exact h1
  · have := (srt_cut (x := x) hs).2 y (List.mem_of_getElem? (i := k - ItP.at_ x l) (by rw [List.getElem?_drop]; rw [show ItP.at_ x l + (k - ItP.at_ x l) = k from by omega]; exact hy))
    rw [h] at this
    cases this
theorem at_hi {l : List It} {x y : It} {k : Nat} (hs : ItP.Srt l) (hy : l[k]? = some y) (h : ItP.ahead y x = false) : ItP.at_ x l ≤ k := by
  rcases Nat.lt_or_ge k (ItP.at_ x l) with h1 | h1
  · have := (srt_cut (x := x) hs).1 y (List.mem_of_getElem? (i := k) (by rw [List.getElem?_take, if_pos h1]; exact hy))
    rw [h] at this
    cases this
  · exact h1
def Found (m : Nat) (e : Ending) : Prop := ∃ b, e = .returned (.tuple #[.int .i64 (m : Int), .bool b])
set_option maxRecDepth 100000 in
set_option maxHeartbeats 4000000 in
theorem tab_search (A : Option Addr) (n c : Nat) (l : List It) (x : It) (w : World) (h : Is w w.heap.size A n c l) (hs : ItP.Srt l) (hn : n ≤ 1000000) :
    Calls Try.prog 77 #[.slice A n c, iv x, .func (.func 50) #[] #[]] w fun e w' => Found (ItP.at_ x l) e ∧ Grew w w' := by
  have hl := h.len
  have hm := h.le
  have HI := Lib.hid h
  have HS := Lib.hid hs
  have hat := at_le x l
  obtain ⟨m, hm'⟩ : ∃ m, m = ItP.at_ x l := ⟨_, rfl⟩
  have HLo : Hid (∀ (k : Nat) (y : It), l[k]? = some y → ItP.ahead y x = true → k + 1 ≤ m) := Lib.hid fun k y h1 h2 => by rw [hm']; exact at_lo hs h1 h2
  have HHi : Hid (∀ (k : Nat) (y : It), l[k]? = some y → ItP.ahead y x = false → m ≤ k) := Lib.hid fun k y h1 h2 => by rw [hm']; exact at_hi hs h1 h2
  rw [← hm'] at hat ⊢
  clear h hs hm'
  obtain ⟨w1, hw1⟩ : ∃ W, W = w.alloc (.cells #[.string ⟨x.key.toArray⟩, .int .u64 (x.seq : Int), .bool x.gone, .string ⟨x.val.toArray⟩] 29) := ⟨_, rfl⟩
  obtain ⟨b1, hb1⟩ : ∃ b, b = w.heap.size := ⟨_, rfl⟩
  have HX1 := Lib.hid (show IBox w1 b1 x by rw [hw1, hb1]; exact IBox.new w x)
  have HG1 := Lib.hid (show Grew w w1 by rw [hw1]; exact grew_new w _)
  go_enter Try.func77, Try.ntmps77
  go_upto_region 2 with fail
  rw [← hw1, ← hb1]
  clear hw1 hb1
  go_wp2_with fail
  go_loopw [9, 10, 11] (fun i j _ wy => ∃ lo hi : Nat, lo ≤ m ∧ m ≤ hi ∧ hi ≤ n ∧ i = .int .i64 (lo : Int) ∧ j = .int .i64 (hi : Int) ∧ Grew w1 wy) (fun i j _ _ => (intOf j).toNat - (intOf i).toNat)
  case atStart => exact ⟨0, n, Nat.zero_le _, by omega, Nat.le_refl _, rfl, rfl, Grew.refl _⟩
  case round =>
    obtain ⟨lo, hi, hlo, hhi, hhn, rfl, rfl, hG⟩ := hrel
    have HG := Lib.hid hG
    clear hG
    by_cases hlt : lo < hi
    · have i1 : (lo : Int) < (hi : Int) := by omega
      obtain ⟨k, hk⟩ : ∃ k, k = (lo + hi) / 2 := ⟨_, rfl⟩
      have ik : ((lo : Int) + (hi : Int)) / 2 = (k : Int) := by omega
      have hk1 : lo ≤ k := by omega
      have hk2 : k < hi := by omega
      obtain ⟨y, hy⟩ : ∃ y, l[k]? = some y := ⟨_, List.getElem?_eq_getElem (by omega)⟩
      obtain ⟨g1, o1, rfl, q1⟩ := is_grew HI.out (Grew.trans HG1.out HG.out) hy
      have hbx := grew_cells0 (HX1.out.grew HG.out).range (Below.refl _ wr) (HX1.out.grew HG.out).lt (Nat.le_refl _)
      obtain ⟨cz, hcz⟩ : ∃ cz, cz = ItP.cmp y x := ⟨_, rfl⟩
      have HR : Hid (∀ W, Calls Try.prog 50 #[iv y, iv x] W fun e w' => e = .returned (.int .i64 cz) ∧ Grew W w') := Lib.hid fun W => by rw [hcz]; exact table_compare y x W
      have hcn := ItP.cmp_neg y x
      rw [← hcz] at hcn
      have HLk := Lib.hid (HLo.out k y hy)
      have HHk := Lib.hid (HHi.out k y hy)
      obtain ⟨b, hb⟩ : ∃ b, b = ItP.ahead y x := ⟨_, rfl⟩
      rw [← hb] at hcn HLk HHk
      have i2 : (k : Int) < (n : Int) := by omega
      have i3 : (0 : Int) ≤ (k : Int) := by omega
      clear hcz hk hy hb
      go_upto_region 5 with fail
      cases b
      · have hz : ¬ cz < (0 : Int) := by simp at hcn; omega
        have hm1 := HHk.out rfl
        clear hcn
        have hqq := And.intro q1 (And.intro hbx (And.intro i2 (And.intro i3 hz)))
        refine wp_region_x [] (by kernel_rfl) (by kernel_rfl) (by kernel_rfl) ?_
        simp only [blank, List.foldl_nil]
        repeat (first | (refine wpX_value (v := ?_) rfl (by intros; simp) rfl rfl (fun x => ?_) ?_; rotate_left; (focus (simp [go_sem, hqq]; (try go_ints); first | done | (with_reducible rfl))); (simp only [Act.put, List.setIfInBounds_toArray, List.set_cons_succ, List.set_cons_zero])) | (refine wpX_skip rfl ?_; (simp only [Act.put, List.setIfInBounds_toArray, List.set_cons_succ, List.set_cons_zero])) | (refine wpX_call (.int .i64 cz) _ _ rfl (by intros; simp) rfl rfl (fun x => ?_) (fun W _ => HR.out W) ?_; (focus (simp [go_sem]; done)); (simp only [Act.put, List.setIfInBounds_toArray, List.set_cons_succ, List.set_cons_zero])))
        (refine wpX_nil ?_; intro xb wx hxg xl; obtain ⟨xf, xe⟩ := LikeAll.end_ xl; clear xl; subst xe; simp only [fill, List.foldl_nil, Act.put])
        clear hqq
        go_wp2_with fail
        go_roundw
        case rel => exact ⟨lo, k, hlo, hm1, by omega, rfl, rfl, Grew.trans HG.out hxg⟩
        case measure => simp [intOf]; omega
      · have hz : cz < (0 : Int) := by simp at hcn; omega
        have hm1 := HLk.out rfl
        clear hcn
        have hqq := And.intro q1 (And.intro hbx (And.intro i2 (And.intro i3 hz)))
        refine wp_region_x [] (by kernel_rfl) (by kernel_rfl) (by kernel_rfl) ?_
        simp only [blank, List.foldl_nil]
        repeat (first | (refine wpX_value (v := ?_) rfl (by intros; simp) rfl rfl (fun x => ?_) ?_; rotate_left; (focus (simp [go_sem, hqq]; (try go_ints); first | done | (with_reducible rfl))); (simp only [Act.put, List.setIfInBounds_toArray, List.set_cons_succ, List.set_cons_zero])) | (refine wpX_skip rfl ?_; (simp only [Act.put, List.setIfInBounds_toArray, List.set_cons_succ, List.set_cons_zero])) | (refine wpX_call (.int .i64 cz) _ _ rfl (by intros; simp) rfl rfl (fun x => ?_) (fun W _ => HR.out W) ?_; (focus (simp [go_sem]; done)); (simp only [Act.put, List.setIfInBounds_toArray, List.set_cons_succ, List.set_cons_zero])))
        (refine wpX_nil ?_; intro xb wx hxg xl; obtain ⟨xf, xe⟩ := LikeAll.end_ xl; clear xl; subst xe; simp only [fill, List.foldl_nil, Act.put])
        clear hqq
        go_wp2_with fail
        go_roundw
        case rel => exact ⟨k + 1, hi, hm1, hhi, hhn, by go_num, rfl, Grew.trans HG.out hxg⟩
        case measure => simp [intOf]; omega
    · obtain rfl : lo = hi := by omega
      obtain rfl : lo = m := by omega
      have i1 : ¬ (lo : Int) < (lo : Int) := by omega
      have i0 : (0 : Int) ≤ (lo : Int) := by omega
      by_cases hn2 : lo < n
      · have i2 : (lo : Int) < (n : Int) := by omega
        obtain ⟨y, hy⟩ : ∃ y, l[lo]? = some y := ⟨_, List.getElem?_eq_getElem (by omega)⟩
        obtain ⟨g1, o1, rfl, q1⟩ := is_grew HI.out (Grew.trans HG1.out HG.out) hy
        have hbx := grew_cells0 (HX1.out.grew HG.out).range (Below.refl _ wr) (HX1.out.grew HG.out).lt (Nat.le_refl _)
        obtain ⟨cz, hcz⟩ : ∃ cz, cz = ItP.cmp y x := ⟨_, rfl⟩
        have HR : Hid (∀ W, Calls Try.prog 50 #[iv y, iv x] W fun e w' => e = .returned (.int .i64 cz) ∧ Grew W w') := Lib.hid fun W => by rw [hcz]; exact table_compare y x W
        clear hcz hy
        go_upto_region 8 with fail
        have hqq := And.intro q1 (And.intro hbx (And.intro i2 i0))
        clear q1 hbx
        refine wp_region_x [] (by kernel_rfl) (by kernel_rfl) (by kernel_rfl) ?_
        simp only [blank, List.foldl_nil]
        repeat (first | (refine wpX_value (v := ?_) rfl (by intros; simp) rfl rfl (fun x => ?_) ?_; rotate_left; (focus (simp [go_sem, hqq]; (try go_ints); first | done | (with_reducible rfl))); (simp only [Act.put, List.setIfInBounds_toArray, List.set_cons_succ, List.set_cons_zero])) | (refine wpX_skip rfl ?_; (simp only [Act.put, List.setIfInBounds_toArray, List.set_cons_succ, List.set_cons_zero])) | (refine wpX_call (.int .i64 cz) _ _ rfl (by intros; simp) rfl rfl (fun x => ?_) (fun W _ => HR.out W) ?_; (focus (simp [go_sem]; done)); (simp only [Act.put, List.setIfInBounds_toArray, List.set_cons_succ, List.set_cons_zero])))
        (refine wpX_nil ?_; intro xb wx hxg xl; obtain ⟨xf, xe⟩ := LikeAll.end_ xl; clear xl; subst xe; simp only [fill, List.foldl_nil, Act.put])
        clear hqq
        go_wp2_with fail
        go_ret2
        exact ⟨⟨_, rfl⟩, Grew.trans (Grew.trans HG1.out HG.out) hxg⟩
      · have i2 : ¬ (lo : Int) < (n : Int) := by omega
        go_upto_region 8 with fail
        have hqq := And.intro i2 i0
        refine wp_region_x [] (by kernel_rfl) (by kernel_rfl) (by kernel_rfl) ?_
        simp only [blank, List.foldl_nil]
        repeat (first | (refine wpX_value (v := ?_) rfl (by intros; simp) rfl rfl (fun x => ?_) ?_; rotate_left; (focus (simp [go_sem, hqq]; (try go_ints); first | done | (with_reducible rfl))); (simp only [Act.put, List.setIfInBounds_toArray, List.set_cons_succ, List.set_cons_zero])) | (refine wpX_skip rfl ?_; (simp only [Act.put, List.setIfInBounds_toArray, List.set_cons_succ, List.set_cons_zero])))
        (refine wpX_nil ?_; intro xb wx hxg xl; obtain ⟨xf, xe⟩ := LikeAll.end_ xl; clear xl; subst xe; simp only [fill, List.foldl_nil, Act.put])
        clear hqq
        go_wp2_with fail
        go_ret2
        exact ⟨⟨_, rfl⟩, Grew.trans (Grew.trans HG1.out HG.out) hxg⟩
structure TabW (T : Nat) (A : Option Addr) (n c : Nat) (l : List It) (bk : Nat) (F : Option Addr) (nf cf : Nat) (fl : List UInt8) (W : World) : Prop where
  obj : W.heap[T]? = some (TabV A n c (.int .i64 (bk : Int)) (.slice F nf cf))
  is : Is W W.heap.size A n c l
  row : Row W W.heap.size F (fl.map b8)
  len : fl.length = nf
  max : nf ≤ 500000000
  n_ : n ≤ 1000000
section
variable {T n c bk nf cf : Nat} {A F : Option Addr} {l : List It} {fl : List UInt8} {w w' : World}
theorem TabW.grew (h : TabW T A n c l bk F nf cf fl w) (hg : Grew w w') : TabW T A n c l bk F nf cf fl w' :=
  ⟨(hg.block T (lt_of_blk h.obj)).trans h.obj, (h.is.below hg).more hg.size, (h.row.below hg).more hg.size, h.len, h.max, h.n_⟩
theorem TabW.cells (h : TabW T A n c l bk F nf cf fl w) : w.cell? ⟨T, 0, none⟩ = some (.slice A n c) ∧ w.cell? ⟨T, 1, none⟩ = some (.int .i64 (bk : Int)) ∧ w.cell? ⟨T, 2, none⟩ = some (.slice F nf cf) := by
  have := tabv_cell h.obj
  exact ⟨this.1, this.2.1, this.2.2.1⟩
end
theorem tab_len {T n c bk nf cf : Nat} {A F : Option Addr} {l : List It} {fl : List UInt8} (w : World) (h : TabW T A n c l bk F nf cf fl w) :
    Calls Try.prog 33 #[.pointer (some ⟨T, 0, none⟩)] w fun e w' => e = .returned (.int .i64 (n : Int)) ∧ w = w' := by
  obtain ⟨c0, c1, c2⟩ := h.cells
  clear h
  go_enter Try.func33, Try.ntmps33
  go_wp2_with fail
  go_ret
  exact ⟨rfl, rfl⟩
set_option maxRecDepth 100000 in
set_option maxHeartbeats 1000000 in
theorem tab_at {T n c bk nf cf : Nat} {A F : Option Addr} {l : List It} {fl : List UInt8} (key : List UInt8) (q : Nat) (w : World) (h : TabW T A n c l bk F nf cf fl w) (hs : ItP.Srt l) :
    Calls Try.prog 64 #[.pointer (some ⟨T, 0, none⟩), sv key, .int .u64 (q : Int)] w fun e w' => e = .returned (.int .i64 (ItP.at_ ⟨key, q, false, []⟩ l : Int)) ∧ Grew w w' := by
  obtain ⟨c0, c1, c2⟩ := h.cells
  have HS := Lib.hid (tab_search A n c l ⟨key, q, false, []⟩ w h.is hs h.n_)
  clear h hs
  go_enter Try.func64, Try.ntmps64
  go_wp2_with (go_at_call 77; ((refine HS.out.mono ?_); rintro e w2 ⟨⟨fb, rfl⟩, hG⟩; have HG := Lib.hid hG; clear hG))
  go_ret
  exact ⟨rfl, HG.out⟩
end Go.Proofs.Ytkkeodfoiffofaa
namespace Go.Proofs.Ytkkeodfoiffofaa
open Go.RowKit
set_option linter.unusedVariables false
section
variable {T n c bk nf cf : Nat} {A F : Option Addr} {l : List It} {fl : List UInt8}
/-- the first item from a key on -/
def TabP.frm (key : List UInt8) (l : List It) : Nat := ItP.at_ ⟨key, m64 - 1, false, []⟩ l
theorem TabP.frm_nil {l : List It} (h : ∀ x ∈ l, ItP.may x = true) : TabP.frm [] l = 0 := by
  unfold TabP.frm ItP.at_
  rcases l with _ | ⟨x, r⟩
  · rfl
  · have hx := TabP.may_key (h x (by simp))
    have : ItP.ahead x ⟨[], m64 - 1, false, []⟩ = false := by
      unfold ItP.ahead
      rw [if_neg hx]
      rcases x with ⟨_ | ⟨k, ks⟩, _, _, _⟩ <;> rfl
    rw [List.takeWhile_cons, this]
    rfl
set_option maxRecDepth 100000 in
set_option maxHeartbeats 1000000 in
theorem tab_from (key : List UInt8) (w : World) (h : TabW T A n c l bk F nf cf fl w) (hs : ItP.Srt l) :
    Calls Try.prog 40 #[.pointer (some ⟨T, 0, none⟩), sv key] w fun e w' => ∃ B A' n' c', e = .returned (.func (.func 71) #[] #[.pointer (some ⟨B, 0, none⟩)]) ∧ Boxed w' B 32 (.slice A' n' c') ∧ Is w' w'.heap.size A' n' c' (l.drop (TabP.frm key l)) ∧ Grew w w' := by
  have hle := at_le ⟨key, m64 - 1, false, []⟩ l
  have hl := h.is.len
  have hm := h.is.le
  have hx := h.is.max
  have HT := Lib.hid h
  have HAt := Lib.hid (fun W (hG : Grew w W) => tab_at key (m64 - 1) W (h.grew hG) hs)
  have hcell := fun V : { V : World // Grew w V } => (h.grew V.2).cells
  clear h hs
  obtain ⟨k, hk⟩ : ∃ k, k = TabP.frm key l := ⟨_, rfl⟩
  rw [show ItP.at_ ⟨key, m64 - 1, false, []⟩ l = k from hk.symm] at hle HAt
  rw [show ((m64 - 1 : Nat) : Int) = 18446744073709551615 from rfl] at HAt
  rw [← hk]
  clear hk
  go_enter Try.func40, Try.ntmps40
  go_upto_region 1 with fail
  have HC := Lib.hid (Grew.drewN w 1)
  refine wp_region_c (fun V => Grew w V) (by kernel_rfl) HC.out ?_
  (refine wpAnyC_free 0 (oi := ⟨some 5, _, _, _, _, _⟩) (v := ?_) rfl (by kernel_rfl) (by kernel_rfl) (by kernel_rfl) HC.out rfl (fun x => ?_) ?_; rotate_left; (focus (simp [go_sem]; (try go_ints); first | done | (with_reducible rfl))); (simp only [Act.put, List.setIfInBounds_toArray, List.set_cons_succ, List.set_cons_zero]))
  (refine wpAnyC_free 1 (oi := ⟨some 6, _, _, _, _, _⟩) (v := ?_) rfl (by kernel_rfl) (by kernel_rfl) (by kernel_rfl) HC.out rfl (fun x => ?_) ?_; rotate_left; (focus (simp [go_sem]; (try go_ints); first | done | (with_reducible rfl))); (simp only [Act.put, List.setIfInBounds_toArray, List.set_cons_succ, List.set_cons_zero]))
  (refine wpAnyC_free 2 (oi := ⟨some 7, _, _, _, _, _⟩) (v := ?_) rfl (by kernel_rfl) (by kernel_rfl) (by kernel_rfl) HC.out rfl (fun x => ?_) ?_; rotate_left; (focus (simp [go_sem]; (try go_ints); first | done | (with_reducible rfl))); (simp only [Act.put, List.setIfInBounds_toArray, List.set_cons_succ, List.set_cons_zero]))
  (refine wpAnyC_free 3 (oi := ⟨some 8, _, _, _, _, _⟩) (v := ?_) rfl (by kernel_rfl) (by kernel_rfl) (by kernel_rfl) HC.out rfl (fun x => ?_) ?_; rotate_left; (focus (simp [go_sem, hcell]; (try go_ints); first | done | (with_reducible rfl))); (simp only [Act.put, List.setIfInBounds_toArray, List.set_cons_succ, List.set_cons_zero]))
  (refine wpAnyC_free 4 (oi := ⟨some 9, _, _, _, _, _⟩) (v := ?_) rfl (by kernel_rfl) (by kernel_rfl) (by kernel_rfl) HC.out rfl (fun x => ?_) ?_; rotate_left; (focus (simp [go_sem]; (try go_ints); first | done | (with_reducible rfl))); (simp only [Act.put, List.setIfInBounds_toArray, List.set_cons_succ, List.set_cons_zero]))
  (refine wpAnyC_free 5 (oi := ⟨some 10, _, _, _, _, _⟩) (v := ?_) rfl (by kernel_rfl) (by kernel_rfl) (by kernel_rfl) HC.out rfl (fun x => ?_) ?_; rotate_left; (focus (simp [go_sem]; (try go_ints); first | done | (with_reducible rfl))); (simp only [Act.put, List.setIfInBounds_toArray, List.set_cons_succ, List.set_cons_zero]))
  change wpAnyC _ _ _ _ _ _ _ _ (World.drewN w 1)
  refine wpAnyC_step 6 (o := ⟨some 11, _, _, _, _, _⟩) rfl (by kernel_rfl) rfl ?_
  refine wpList_callR rfl _ _ (fun v w' => v = .int .i64 (k : Int) ∧ Grew w w') (by simp [go_sem]) ((HAt.out _ HC.out).mono fun e w' ⟨h1, h2⟩ => ⟨_, h1, rfl, Grew.trans HC.out h2⟩) ?_
  rintro v w2 ⟨rfl, hG⟩
  have HC := Lib.hid hG
  clear hG
  (simp only [Act.put, List.setIfInBounds_toArray, List.set_cons_succ, List.set_cons_zero])
  refine wpList_nil ⟨rfl, HC.out, ?_⟩
  refine wpAnyC_free 7 (oi := ⟨some 12, _, _, _, _, _⟩) (.slice (cutI A k c) (n - k) (c - k)) rfl (by kernel_rfl) (by kernel_rfl) (by kernel_rfl) HC.out rfl (fun V => exec_fromI (.tmp 8) (.tmp 11) rfl rfl rfl (by omega) hm hx V.1) ?_
  (simp only [Act.put, List.setIfInBounds_toArray, List.set_cons_succ, List.set_cons_zero])
  refine wpAnyC_step 8 (o := ⟨some 13, _, _, _, _, _⟩) rfl (by kernel_rfl) rfl ?_
  refine wpList_callR rfl _ _ (fun v w' => v = .func (.func 71) #[] #[.pointer (some ⟨w2.heap.size, 0, none⟩)] ∧ Boxed w' w2.heap.size 32 (.slice (cutI A k c) (n - k) (c - k)) ∧ Grew w w') (by simp [go_sem]) ((values_its (cutI A k c) (n - k) (c - k) w2).mono fun e w' ⟨h1, h2, h3⟩ => ⟨_, h1, rfl, h2, Grew.trans HC.out h3⟩) ?_
  rintro v w3 ⟨rfl, hB, hG⟩
  have HB := Lib.hid hB
  have HC := Lib.hid hG
  clear hB hG
  (simp only [Act.put, List.setIfInBounds_toArray, List.set_cons_succ, List.set_cons_zero])
  refine wpList_nil ⟨rfl, HC.out, ?_⟩
  (refine wpAnyC_free 9 (oi := ⟨some 4, _, _, _, _, _⟩) (v := ?_) rfl (by kernel_rfl) (by kernel_rfl) (by kernel_rfl) HC.out rfl (fun x => ?_) ?_; rotate_left; (focus (simp [go_sem]; (try go_ints); first | done | (with_reducible rfl))); (simp only [Act.put, List.setIfInBounds_toArray, List.set_cons_succ, List.set_cons_zero]))
  refine wpAnyC_done (by kernel_rfl) (fun _ => ?_) _
  go_wp2_with fail
  go_ret
  exact ⟨w2.heap.size, cutI A k c, n - k, c - k, rfl, HB.out, (HT.out.grew HC.out).is.from_ k (by omega), HC.out⟩
end
end Go.Proofs.Ytkkeodfoiffofaa
namespace Go.Proofs.Ytkkeodfoiffofaa
open Go.RowKit
set_option linter.unusedVariables false
section
variable {T n c bk nf cf : Nat} {A F : Option Addr} {l : List It} {fl : List UInt8}
theorem getI_at (l : List It) (key : List UInt8) (q : Nat) : TabP.getI l key q = (l[ItP.at_ ⟨key, q, false, []⟩ l]?).filter fun x => x.key == key := by
  unfold TabP.getI TabP.tailI
  rw [List.head?_drop]
set_option maxRecDepth 100000 in
set_option maxHeartbeats 2000000 in
theorem tab_get (key : List UInt8) (q : Nat) (w : World) (h : TabW T A n c l bk F nf cf fl w) (hs : ItP.Srt l) :
    Calls Try.prog 37 #[.pointer (some ⟨T, 0, none⟩), sv key, .int .u64 (q : Int)] w fun e w' => e = .returned (getV (ItP.get l key q)) ∧ Grew w w' := by
  have hle := at_le ⟨key, q, false, []⟩ l
  have hge := getI_at l key q
  rw [TabP.get_eq hs] at hge
  have hl := h.is.len
  have hm := h.is.le
  have HT := Lib.hid h
  obtain ⟨w1, hw1⟩ : ∃ W, W = w.alloc (.cells #[.string ⟨#[]⟩, .int .u64 0, .bool false, .string ⟨#[]⟩] 29) := ⟨_, rfl⟩
  obtain ⟨b1, hb1⟩ : ∃ b, b = w.heap.size := ⟨_, rfl⟩
  have HB1 := Lib.hid (show IBox w1 b1 ItP.none0 by rw [hw1, hb1]; exact IBox.zero w)
  have HG1 := Lib.hid (show Grew w w1 by rw [hw1]; exact grew_new w _)
  have hb1w : w.heap.size ≤ b1 := by rw [hb1]; exact Nat.le_refl _
  have HAt := Lib.hid (tab_at key q w1 (h.grew HG1.out) hs)
  clear h hs
  obtain ⟨k, hk⟩ : ∃ k, k = ItP.at_ ⟨key, q, false, []⟩ l := ⟨_, rfl⟩
  rw [← hk] at hle HAt hge
  have HGE := Lib.hid hge
  clear hk hge
  go_enter Try.func37, Try.ntmps37
  go_upto_region 1 with fail
  rw [← hw1, ← hb1]
  clear hw1 hb1
  go_upto_region 2 with (go_at_call 64; ((refine HAt.out.mono ?_); rintro e w2 ⟨rfl, hG⟩; have HG2 := Lib.hid hG; clear hG))
  have HB2 := Lib.hid (HB1.out.grew HG2.out)
  have hTW := HT.out.grew (Grew.trans HG1.out HG2.out)
  obtain ⟨c0, c1, c2⟩ := hTW.cells
  have HTW := Lib.hid hTW
  clear hTW
  have hbz : ∀ W : World, (Instr.build 29 #[]).run Try.prog W = .ok (iv ItP.none0) W := fun W => by kernel_rfl
  have i0 : (0 : Int) ≤ (k : Int) := by omega
  have HBt := Lib.hid (Grew.trans HG1.out HG2.out)
  by_cases hkn : k = n
  · have HR := Lib.hid (show ItP.get l key q = none by rw [HGE.out, List.getElem?_eq_none (by omega)]; rfl)
    have i1 : ((k : Int) == (n : Int)) = true := by rw [beq_iff_eq]; omega
    have HF := Lib.hid (HB2.out.set ItP.none0).load
    have HBf := Lib.hid (HBt.out.grown (grown_setI w2 b1 ItP.none0) HBt.out.size (fun k e => by cases e; exact hb1w))
    clear hkn
    go_wp2_with (refine wpList_storeI rfl (.tmp 6) (.tmp 32) rfl b1 _ ItP.none0 rfl rfl HB2.out ?_)
    have hres := HF.out
    refine bodyPost_ret (v := getV none) (by simp [results, Try.results37, asAddr, hres, getV]) rfl ⟨by rw [HR.out], HBf.out⟩
  · have i1 : ((k : Int) == (n : Int)) = false := by rw [beq_eq_false_iff_ne]; omega
    obtain ⟨x, hx⟩ : ∃ x, l[k]? = some x := ⟨_, List.getElem?_eq_getElem (by omega)⟩
    obtain ⟨g1, o1, rfl, hb, hr⟩ := HTW.out.is.at hx
    obtain ⟨p0, p1, p2, p3⟩ := range_cells hr
    have HE := Lib.hid (show ItP.get l key q = (some x).filter fun x => x.key == key by rw [HGE.out, hx])
    have j1 : (k : Int) < (n : Int) := by omega
    clear hkn hx hr
    by_cases hkey : x.key = key
    · have t1 : (x.key == key) = true := by simpa using hkey
      have HR := Lib.hid (show ItP.get l key q = some x by rw [HE.out]; simp [hkey])
      have HF := Lib.hid (HB2.out.set x).load
      have HBf := Lib.hid (HBt.out.grown (grown_setI w2 b1 x) HBt.out.size (fun k e => by cases e; exact hb1w))
      clear hkey
      go_wp2_with (refine wpList_storeI rfl (.tmp 6) (.tmp 39) rfl b1 _ x rfl rfl HB2.out ?_)
      have hres := HF.out
      refine bodyPost_ret (v := getV (some x)) (by simp [results, Try.results37, asAddr, hres, getV]) rfl ⟨by rw [HR.out], HBf.out⟩
    · have t1 : (x.key == key) = false := by simpa using hkey
      have HR := Lib.hid (show ItP.get l key q = none by rw [HE.out]; simp [hkey])
      have HF := Lib.hid (HB2.out.set ItP.none0).load
      have HBf := Lib.hid (HBt.out.grown (grown_setI w2 b1 ItP.none0) HBt.out.size (fun k e => by cases e; exact hb1w))
      clear hkey
      go_wp2_with (refine wpList_storeI rfl (.tmp 6) (.tmp 32) rfl b1 _ ItP.none0 rfl rfl HB2.out ?_)
      have hres := HF.out
      refine bodyPost_ret (v := getV none) (by simp [results, Try.results37, asAddr, hres, getV]) rfl ⟨by rw [HR.out], HBf.out⟩
end
end Go.Proofs.Ytkkeodfoiffofaa
namespace Go.Proofs.Ytkkeodfoiffofaa
open Go.RowKit
set_option linter.unusedVariables false
namespace TabP
def bit (f : List UInt8) (p : Nat) : Prop := (f.getD (p / 8) 0).toNat / 2 ^ (p % 8) % 2 = 1
theorem bit_key : ∀ (y : Fin 256) (r s : Fin 8), (y.1 ||| 2 ^ r.1) / 2 ^ s.1 % 2 = if r = s then 1 else y.1 / 2 ^ s.1 % 2 := by decide +kernel
theorem bit_or (y : UInt8) {r s : Nat} (hr : r < 8) (hs : s < 8) : (y ||| UInt8.ofNat (2 ^ r)).toNat / 2 ^ s % 2 = if r = s then 1 else y.toNat / 2 ^ s % 2 := by
  have h : 2 ^ r < 256 := by
    have : 2 ^ r ≤ 2 ^ 7 := Nat.pow_le_pow_right (by decide) (by omega)
    omega
  have := bit_key ⟨y.toNat, y.toNat_lt⟩ ⟨r, hr⟩ ⟨s, hs⟩
  rw [UInt8.toNat_or, UInt8.toNat_ofNat', Nat.mod_eq_of_lt h]
  simpa using this
theorem bit_orBit {f : List UInt8} {p q : Nat} (hp : p < 8 * f.length) : bit (orBit f p) q ↔ p = q ∨ bit f q := by
  unfold bit orBit
  rw [List.getD_eq_getElem?_getD, List.getElem?_set]
  by_cases h : p / 8 = q / 8
  · rw [if_pos h, if_pos (by omega), Option.getD_some, bit_or _ (Nat.mod_lt _ (by decide)) (Nat.mod_lt _ (by decide)), h]
    split
    · rename_i h2
      exact ⟨fun _ => .inl (by omega), fun _ => rfl⟩
    · rename_i h2
      exact ⟨fun h3 => .inr h3, fun h3 => by
        rcases h3 with h3 | h3
        · exact absurd (by rw [h3]) h2
        · exact h3⟩
  · rw [if_neg h, ← List.getD_eq_getElem?_getD]
    exact ⟨fun h3 => .inr h3, fun h3 => by
      rcases h3 with h3 | h3
      · exact absurd (by rw [h3]) h
      · exact h3⟩
theorem bit_orBits : ∀ (ps : List Nat) {f : List UInt8} {q : Nat}, (∀ p ∈ ps, p < 8 * f.length) → (q ∈ ps ∨ bit f q) → bit (orBits f ps) q
  | [], f, q, _, h => by
    rcases h with h | h
    · cases h
    · exact h
  | p :: ps, f, q, hp, h => by
    have e : orBits f (p :: ps) = orBits (orBit f p) ps := rfl
    rw [e]
    refine bit_orBits ps (fun p' hp' => by rw [orBit_len]; exact hp p' (by simp [hp'])) ?_
    rcases h with h | h
    · rcases List.mem_cons.1 h with rfl | h
      · exact .inr ((bit_orBit (hp q (by simp))).2 (.inl rfl))
      · exact .inl h
    · exact .inr ((bit_orBit (hp p (by simp))).2 (.inr h))
theorem bit_filterF : ∀ (l : List It) {f : List UInt8} {q : Nat}, ((∃ x ∈ l, q ∈ places x.key f.length) ∨ bit f q) → bit (filterF f l) q
  | [], f, q, h => by
    rcases h with ⟨x, hx, _⟩ | h
    · cases hx
    · exact h
  | y :: l, f, q, h => by
    have e : filterF f (y :: l) = filterF (addKey f y.key) l := rfl
    rw [e]
    refine bit_filterF l ?_
    rw [addKey_len]
    rcases h with ⟨x, hx, hq⟩ | h
    · rcases List.mem_cons.1 hx with rfl | hx
      · exact .inr (bit_orBits _ (fun p hp => places_lt p hp) (.inl hq))
      · exact .inl ⟨x, hx, hq⟩
    · exact .inr (bit_orBits _ (fun p hp => places_lt p hp) (.inr h))
theorem bit_filter {l : List It} {x : It} (hx : x ∈ l) {q : Nat} (hq : q ∈ places x.key (filter l l.length).length) : bit (filter l l.length) q := by
  rw [filter_len] at hq
  unfold filter
  exact bit_filterF l (.inl ⟨x, hx, by rw [List.length_replicate]; exact hq⟩)
theorem and_key : ∀ (y : Fin 256) (r : Fin 8), bits .and .u8 ((y.1 : Int) / 2 ^ r.1) 1 = ((y.1 / 2 ^ r.1 % 2 : Nat) : Int) := by decide +kernel
theorem and_bit (y : UInt8) {r : Nat} (hr : r < 8) (h : y.toNat / 2 ^ r % 2 = 1) : bits .and .u8 ((y.toNat : Int) / 2 ^ r) 1 = 1 := by
  have := and_key ⟨y.toNat, y.toNat_lt⟩ ⟨r, hr⟩
  simp only at this
  rw [this, h]
  rfl
def firstK (l : List It) : List UInt8 := ((l.head?).map (·.key)).getD []
def lastK' (l : List It) : List UInt8 := ((l.getLast?).map (·.key)).getD []
end TabP
section
variable {T n c bk nf cf : Nat} {A F : Option Addr} {l : List It} {fl : List UInt8}
set_option maxRecDepth 100000 in
set_option maxHeartbeats 1000000 in
theorem tab_blocks (w : World) (h : TabW T A n c l bk F nf cf fl w) (hb : 1 ≤ bk) (hb2 : bk ≤ 1000) :
    Calls Try.prog 34 #[.pointer (some ⟨T, 0, none⟩)] w fun e w' => e = .returned (.int .i64 (((n + bk - 1) / bk : Nat) : Int)) ∧ Grew w w' := by
  obtain ⟨c0, c1, c2⟩ := h.cells
  have hn := h.n_
  obtain ⟨m, hm⟩ : ∃ m, m = (n + bk - 1) / bk := ⟨_, rfl⟩
  have i1 : ¬ (bk : Int) = 0 := by omega
  have hmb : m ≤ 2000000 := by rw [hm]; exact Nat.le_trans (Nat.div_le_self _ _) (by omega)
  have i2 : ((n : Int) + (bk : Int) - 1).tdiv (bk : Int) = (m : Int) := by
    rw [hm, show (n : Int) + (bk : Int) - 1 = ((n + bk - 1 : Nat) : Int) from by omega, ← Int.ofNat_tdiv]
  rw [← hm]
  clear hm
  clear h
  go_enter Try.func34, Try.ntmps34
  go_upto_region 1 with fail
  go_quiet (fail)
  go_wp2_with fail
  go_ret
  exact ⟨rfl, Grew.drewN _ _⟩
set_option maxRecDepth 100000 in
set_option maxHeartbeats 1000000 in
theorem tab_bounds (w : World) (h : TabW T A n c l bk F nf cf fl w) :
    Calls Try.prog 32 #[.pointer (some ⟨T, 0, none⟩)] w fun e w' => e = .returned (.tuple #[sv (TabP.firstK l), sv (TabP.lastK' l)]) ∧ Grew w w' := by
  obtain ⟨c0, c1, c2⟩ := h.cells
  have hn := h.n_
  have hl := h.is.len
  by_cases h0 : n = 0
  · obtain rfl : l = [] := List.length_eq_zero_iff.1 (by omega)
    clear hl h
    subst h0
    go_enter Try.func32, Try.ntmps32
    go_wp2_with fail
    go_ret2
    exact ⟨rfl, Grew.refl _⟩
  · obtain ⟨x, hx⟩ : ∃ x, l[0]? = some x := ⟨_, List.getElem?_eq_getElem (by omega)⟩
    obtain ⟨m, rfl⟩ : ∃ m, n = m + 1 := ⟨n - 1, by omega⟩
    obtain ⟨y, hy⟩ : ∃ y, l[m]? = some y := ⟨_, List.getElem?_eq_getElem (by omega)⟩
    have HF := Lib.hid (show TabP.firstK l = x.key by unfold TabP.firstK; rw [List.head?_eq_getElem?, hx]; rfl)
    have HL := Lib.hid (show TabP.lastK' l = y.key by unfold TabP.lastK'; rw [List.getLast?_eq_getElem?, show l.length - 1 = m from by omega, hy]; rfl)
    obtain ⟨g1, o1, rfl, q1⟩ := is_grew h.is (Grew.refl _) hx
    obtain ⟨g2, o2, e2, q2⟩ := is_grew h.is (Grew.refl _) hy
    cases e2
    have hcell := fun V : { V : World // Grew w V } => (h.grew V.2).cells
    have i1 : ¬ ((m + 1 : Nat) : Int) = 0 := by omega
    have i3 : ((m + 1 : Nat) : Int) - 1 = (m : Int) := by omega
    have i4 : (m : Int) < ((m + 1 : Nat) : Int) := by omega
    have i5 : (0 : Int) < ((m + 1 : Nat) : Int) := by omega
    have i6 : (0 : Int) ≤ (m : Int) := by omega
    obtain ⟨N, hN⟩ : ∃ N, N = m + 1 := ⟨_, rfl⟩
    rw [← hN] at hcell i1 i3 i4 i5 c0
    have k4 : m < N := by omega
    have hm6 : m ≤ 1000000 := by omega
    have k5 : 0 < N := by omega
    have q1' : ∀ V : { V : World // Grew w V }, V.1.cell? ⟨g1, o1, none⟩ = some (sv x.key) := fun V => by have := (q1 ⟨V.1, V.2⟩).1; simpa using this
    clear h hx hy h0 hl hN hn
    go_enter Try.func32, Try.ntmps32
    go_upto_region 3 with fail
    have HC := Lib.hid (Grew.drewN w 1)
    refine wp_region_c (fun V => Grew w V) (by kernel_rfl) HC.out ?_
    have hqq := And.intro hcell (And.intro q1' (And.intro (fun V : { V : World // Grew w V } => q2 ⟨V.1, V.2⟩) (And.intro i3 (And.intro i4 (And.intro i5 (And.intro i6 (And.intro k4 k5)))))))
    (refine wpAnyC_free 0 (oi := ⟨some 10, _, _, _, _, _⟩) (v := ?_) rfl (by kernel_rfl) (by kernel_rfl) (by kernel_rfl) HC.out rfl (fun x => ?_) ?_; rotate_left; (focus (simp [go_sem]; (try go_ints); first | done | (with_reducible rfl))); (simp only [Act.put, List.setIfInBounds_toArray, List.set_cons_succ, List.set_cons_zero]))
    (refine wpAnyC_free 1 (oi := ⟨some 11, _, _, _, _, _⟩) (v := ?_) rfl (by kernel_rfl) (by kernel_rfl) (by kernel_rfl) HC.out rfl (fun x => ?_) ?_; rotate_left; (focus (simp [go_sem]; (try go_ints); first | done | (with_reducible rfl))); (simp only [Act.put, List.setIfInBounds_toArray, List.set_cons_succ, List.set_cons_zero]))
    (refine wpAnyC_free 2 (oi := ⟨some 12, _, _, _, _, _⟩) (v := ?_) rfl (by kernel_rfl) (by kernel_rfl) (by kernel_rfl) HC.out rfl (fun x => ?_) ?_; rotate_left; (focus (simp [go_sem]; (try go_ints); first | done | (with_reducible rfl))); (simp only [Act.put, List.setIfInBounds_toArray, List.set_cons_succ, List.set_cons_zero]))
    (refine wpAnyC_free 3 (oi := ⟨some 13, _, _, _, _, _⟩) (v := ?_) rfl (by kernel_rfl) (by kernel_rfl) (by kernel_rfl) HC.out rfl (fun x => ?_) ?_; rotate_left; (focus (simp [go_sem, hqq]; (try go_ints); first | done | (with_reducible rfl))); (simp only [Act.put, List.setIfInBounds_toArray, List.set_cons_succ, List.set_cons_zero]))
    (refine wpAnyC_free 4 (oi := ⟨some 14, _, _, _, _, _⟩) (v := ?_) rfl (by kernel_rfl) (by kernel_rfl) (by kernel_rfl) HC.out rfl (fun x => ?_) ?_; rotate_left; (focus (simp [go_sem, hqq]; (try go_ints); first | done | (with_reducible rfl))); (simp only [Act.put, List.setIfInBounds_toArray, List.set_cons_succ, List.set_cons_zero]))
    (refine wpAnyC_free 5 (oi := ⟨some 15, _, _, _, _, _⟩) (v := ?_) rfl (by kernel_rfl) (by kernel_rfl) (by kernel_rfl) HC.out rfl (fun x => ?_) ?_; rotate_left; (focus (simp [go_sem]; (try go_ints); first | done | (with_reducible rfl))); (simp only [Act.put, List.setIfInBounds_toArray, List.set_cons_succ, List.set_cons_zero]))
    (refine wpAnyC_free 6 (oi := ⟨some 16, _, _, _, _, _⟩) (v := ?_) rfl (by kernel_rfl) (by kernel_rfl) (by kernel_rfl) HC.out rfl (fun x => ?_) ?_; rotate_left; (focus (simp [go_sem, hqq]; (try go_ints); first | done | (with_reducible rfl))); (simp only [Act.put, List.setIfInBounds_toArray, List.set_cons_succ, List.set_cons_zero]))
    (refine wpAnyC_free 7 (oi := ⟨some 17, _, _, _, _, _⟩) (v := ?_) rfl (by kernel_rfl) (by kernel_rfl) (by kernel_rfl) HC.out rfl (fun x => ?_) ?_; rotate_left; (focus (simp [go_sem]; (try go_ints); first | done | (with_reducible rfl))); (simp only [Act.put, List.setIfInBounds_toArray, List.set_cons_succ, List.set_cons_zero]))
    (refine wpAnyC_free 8 (oi := ⟨some 18, _, _, _, _, _⟩) (v := ?_) rfl (by kernel_rfl) (by kernel_rfl) (by kernel_rfl) HC.out rfl (fun x => ?_) ?_; rotate_left; (focus (simp [go_sem]; (try go_ints); first | done | (with_reducible rfl))); (simp only [Act.put, List.setIfInBounds_toArray, List.set_cons_succ, List.set_cons_zero]))
    (refine wpAnyC_free 9 (oi := ⟨some 19, _, _, _, _, _⟩) (v := ?_) rfl (by kernel_rfl) (by kernel_rfl) (by kernel_rfl) HC.out rfl (fun x => ?_) ?_; rotate_left; (focus (simp [go_sem]; (try go_ints); first | done | (with_reducible rfl))); (simp only [Act.put, List.setIfInBounds_toArray, List.set_cons_succ, List.set_cons_zero]))
    (refine wpAnyC_free 10 (oi := ⟨some 20, _, _, _, _, _⟩) (v := ?_) rfl (by kernel_rfl) (by kernel_rfl) (by kernel_rfl) HC.out rfl (fun x => ?_) ?_; rotate_left; (focus (simp [go_sem, hqq]; (try go_ints); first | done | (with_reducible rfl))); (simp only [Act.put, List.setIfInBounds_toArray, List.set_cons_succ, List.set_cons_zero]))
    (refine wpAnyC_free 11 (oi := ⟨some 21, _, _, _, _, _⟩) (v := ?_) rfl (by kernel_rfl) (by kernel_rfl) (by kernel_rfl) HC.out rfl (fun x => ?_) ?_; rotate_left; (focus (simp [go_sem]; (try go_ints); first | done | (with_reducible rfl))); (simp only [Act.put, List.setIfInBounds_toArray, List.set_cons_succ, List.set_cons_zero]))
    (refine wpAnyC_free 12 (oi := ⟨some 22, _, _, _, _, _⟩) (v := ?_) rfl (by kernel_rfl) (by kernel_rfl) (by kernel_rfl) HC.out rfl (fun x => ?_) ?_; rotate_left; (focus (simp [go_sem]; (try go_ints); first | done | (with_reducible rfl))); (simp only [Act.put, List.setIfInBounds_toArray, List.set_cons_succ, List.set_cons_zero]))
    (refine wpAnyC_free 13 (oi := ⟨some 23, _, _, _, _, _⟩) (v := ?_) rfl (by kernel_rfl) (by kernel_rfl) (by kernel_rfl) HC.out rfl (fun x => ?_) ?_; rotate_left; (focus (simp [go_sem]; (try go_ints); first | done | (with_reducible rfl))); (simp only [Act.put, List.setIfInBounds_toArray, List.set_cons_succ, List.set_cons_zero]))
    (refine wpAnyC_free 14 (oi := ⟨some 24, _, _, _, _, _⟩) (v := ?_) rfl (by kernel_rfl) (by kernel_rfl) (by kernel_rfl) HC.out rfl (fun x => ?_) ?_; rotate_left; (focus (simp [go_sem, hqq]; (try go_ints); first | done | (with_reducible rfl))); (simp only [Act.put, List.setIfInBounds_toArray, List.set_cons_succ, List.set_cons_zero]))
    (refine wpAnyC_free 15 (oi := ⟨some 25, _, _, _, _, _⟩) (v := ?_) rfl (by kernel_rfl) (by kernel_rfl) (by kernel_rfl) HC.out rfl (fun x => ?_) ?_; rotate_left; (focus (simp [go_sem]; (try go_ints); first | done | (with_reducible rfl))); (simp only [Act.put, List.setIfInBounds_toArray, List.set_cons_succ, List.set_cons_zero]))
    (refine wpAnyC_free 16 (oi := ⟨some 26, _, _, _, _, _⟩) (v := ?_) rfl (by kernel_rfl) (by kernel_rfl) (by kernel_rfl) HC.out rfl (fun x => ?_) ?_; rotate_left; (focus (simp [go_sem, hqq]; (try go_ints); first | done | (with_reducible rfl))); (simp only [Act.put, List.setIfInBounds_toArray, List.set_cons_succ, List.set_cons_zero]))
    (refine wpAnyC_free 17 (oi := ⟨some 27, _, _, _, _, _⟩) (v := ?_) rfl (by kernel_rfl) (by kernel_rfl) (by kernel_rfl) HC.out rfl (fun x => ?_) ?_; rotate_left; (focus (simp [go_sem, hqq]; (try go_ints); first | done | (with_reducible rfl))); (simp only [Act.put, List.setIfInBounds_toArray, List.set_cons_succ, List.set_cons_zero]))
    (refine wpAnyC_free 18 (oi := ⟨some 28, _, _, _, _, _⟩) (v := ?_) rfl (by kernel_rfl) (by kernel_rfl) (by kernel_rfl) HC.out rfl (fun x => ?_) ?_; rotate_left; (focus (simp [go_sem]; (try go_ints); first | done | (with_reducible rfl))); (simp only [Act.put, List.setIfInBounds_toArray, List.set_cons_succ, List.set_cons_zero]))
    (refine wpAnyC_free 19 (oi := ⟨some 29, _, _, _, _, _⟩) (v := ?_) rfl (by kernel_rfl) (by kernel_rfl) (by kernel_rfl) HC.out rfl (fun x => ?_) ?_; rotate_left; (focus (simp [go_sem, hqq]; (try go_ints); first | done | (with_reducible rfl))); (simp only [Act.put, List.setIfInBounds_toArray, List.set_cons_succ, List.set_cons_zero]))
    (refine wpAnyC_free 20 (oi := ⟨some 2, _, _, _, _, _⟩) (v := ?_) rfl (by kernel_rfl) (by kernel_rfl) (by kernel_rfl) HC.out rfl (fun x => ?_) ?_; rotate_left; (focus (simp [go_sem]; (try go_ints); first | done | (with_reducible rfl))); (simp only [Act.put, List.setIfInBounds_toArray, List.set_cons_succ, List.set_cons_zero]))
    (refine wpAnyC_free 21 (oi := ⟨some 3, _, _, _, _, _⟩) (v := ?_) rfl (by kernel_rfl) (by kernel_rfl) (by kernel_rfl) HC.out rfl (fun x => ?_) ?_; rotate_left; (focus (simp [go_sem]; (try go_ints); first | done | (with_reducible rfl))); (simp only [Act.put, List.setIfInBounds_toArray, List.set_cons_succ, List.set_cons_zero]))
    refine wpAnyC_done (by kernel_rfl) (fun _ => ?_) _
    clear hqq
    go_wp2_with fail
    go_ret2
    exact ⟨by rw [HF.out, HL.out]; rfl, Grew.drewN _ _⟩
set_option maxRecDepth 100000 in
set_option maxHeartbeats 2000000 in
theorem tab_has (key : List UInt8) (w : World) (h : TabW T A n c l bk F nf cf fl w) (hk : key.length ≤ 1000000) (hall : ∀ p ∈ TabP.places key nf, TabP.bit fl p) (hnf : 0 < nf) :
    Calls Try.prog 38 #[.pointer (some ⟨T, 0, none⟩), sv key] w fun e w' => e = .returned (.bool true) ∧ Grew w w' := by
  have HT := Lib.hid h
  have hmx := h.max
  have hfl := h.len
  obtain ⟨c0, c1, c2⟩ := h.cells
  have HP := Lib.hid (tab_places key nf w hk hmx)
  have HLt := Lib.hid (fun p hp => TabP.places_lt (key := key) (size := nf) p hp)
  have HAll := Lib.hid hall
  have hle := TabP.places_len key nf
  obtain ⟨ps, hps⟩ : ∃ ps, ps = TabP.places key nf := ⟨_, rfl⟩
  rw [← hps] at HP HLt HAll hle
  clear h hps hall
  go_enter Try.func38, Try.ntmps38
  go_wp2_with (go_at_call 65; ((refine HP.out.mono ?_); rintro e w5 ⟨A5, n5, c5, rfl, hO5, hG5⟩; have HO5 := Lib.hid hO5; have HG5 := Lib.hid hG5; clear hO5 hG5))
  have hn5 := HO5.out.len
  clear c0 c1 c2
  go_loopw [6, 15] (fun _ i wy => ∃ k : Nat, k ≤ n5 ∧ i = .int .i64 (k : Int) ∧ OwnN wy w.heap.size A5 n5 c5 ps ∧ Grew w wy) (fun _ i _ => n5 - (intOf i).toNat)
  case atStart => exact ⟨0, Nat.zero_le _, rfl, HO5.out, HG5.out⟩
  case round =>
    obtain ⟨k, hkn, rfl, hO, hG⟩ := hrel
    have HO := Lib.hid hO
    have HG := Lib.hid hG
    clear hO hG HO5 HG5
    have hTW := HT.out.grew HG.out
    obtain ⟨c0, c1, c2⟩ := hTW.cells
    have hrow := hTW.row
    clear hTW
    have i0 : (0 : Int) ≤ (k : Int) := by omega
    by_cases hlt : k < n5
    · have i1 : (k : Int) < (n5 : Int) := by omega
      obtain ⟨p, hp⟩ : ∃ p, ps[k]? = some p := ⟨_, List.getElem?_eq_getElem (by omega)⟩
      have hp8 := HLt.out p (List.mem_of_getElem? hp)
      have hbit := HAll.out p (List.mem_of_getElem? hp)
      obtain ⟨ad, hA, _, hc⟩ := (Own.row HO.out (Nat.le_refl _)).at_ k (by simpa using (show k < ps.length by omega))
      subst hA
      rw [List.getElem_map, List.getElem_of_getElem? hp |> fun h => h.2] at hc
      clear hp
      obtain ⟨d, hd⟩ : ∃ d, d = p / 8 := ⟨_, rfl⟩
      obtain ⟨r, hr⟩ : ∃ r, r = p % 8 := ⟨_, rfl⟩
      have hdN : d < nf := by omega
      have hr8 : r < 8 := by omega
      obtain ⟨y, hy⟩ : ∃ y, fl[d]? = some y := ⟨_, List.getElem?_eq_getElem (by omega)⟩
      unfold TabP.bit at hbit
      rw [← hd, ← hr, List.getD_eq_getElem?_getD, hy, Option.getD_some] at hbit
      obtain ⟨ad2, hA2, _, hc2⟩ := hrow d (b8 y) (by rw [List.getElem?_map, hy]; rfl)
      subst hA2
      have iq : ((p : Int)).tdiv 8 = (d : Int) := by rw [hd]; exact (Int.ofNat_tdiv p 8).symm
      have ir : ((p : Int)).tmod 8 = (r : Int) := by rw [hr]; exact (Int.ofNat_tmod p 8).symm
      have id1 : (d : Int) < (nf : Int) := by omega
      have id0 : (0 : Int) ≤ (d : Int) := by omega
      have hy8 := y.toNat_lt
      clear hd hr hy hrow
      have hab := TabP.and_bit y hr8 hbit
      clear hbit
      go_wp2_with fail
      go_roundw
      case rel => exact ⟨k + 1, hlt, by go_num, HO.out, HG.out⟩
      case measure => simp [intOf]; omega
    · obtain rfl : k = n5 := by omega
      have i1 : ¬ (k : Int) < (k : Int) := by omega
      have i2 : (0 : Int) < (nf : Int) := by omega
      go_wp2_with fail
      go_ret
      exact ⟨rfl, HG.out⟩
end
end Go.Proofs.Ytkkeodfoiffofaa
