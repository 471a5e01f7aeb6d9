/- The walk of rolodexref8.Get. -/
import Derived.Test.YtkkeodfoiffofaaItemBox
namespace Go.Proofs.Ytkkeodfoiffofaa
open Go.RowKit
set_option linter.unusedVariables false
theorem get_add {l : List It} {i : Nat} {x : It} (hx : l[i]? = some x) (k : List UInt8) (q : Nat) : ItP.get (l.take (i + 1)) k q = ItP.best k q (ItP.get (l.take i) k q) x := by
  unfold ItP.get
  rw [List.take_add_one, hx, List.foldl_append]
  rfl
/-- where the best one so far stands -/
def BestAt (l : List It) (i : Nat) (k : List UInt8) (q : Nat) (b : Int) : Prop := (b = -1 ∧ ItP.get (l.take i) k q = none) ∨ ∃ (j : Nat) (y : It), b = (j : Int) ∧ l[j]? = some y ∧ ItP.get (l.take i) k q = some y
/-- what Get answers -/
def getV (o : Option It) : Value := .tuple #[iv (o.getD ItP.none0), .bool o.isSome]
set_option maxRecDepth 100000 in
set_option maxHeartbeats 4000000 in
theorem ref_get (A : Option Addr) (n c : Nat) (l : List It) (key : List UInt8) (q : Nat) (w : World) (h : Is w w.heap.size A n c l) :
    Calls Try.prog 24 #[.slice A n c, sv key, .int .u64 (q : Int)] w fun e w' => e = .returned (getV (ItP.get l key q)) ∧ Below w.heap.size w w' := by
  have hl := h.len
  have hm := h.le
  have hx := h.max
  unfold maxLen at hx
  have HI := Lib.hid h
  have HZ := Lib.hid (IBox.zero w)
  obtain ⟨w1, hw1⟩ : ∃ w1, w1 = w.alloc (.cells #[.string ⟨#[]⟩, .int .u64 0, .bool false, .string ⟨#[]⟩] 29) := ⟨_, rfl⟩
  have HB1 := Lib.hid (show Below w.heap.size w w1 by rw [hw1]; exact (Below.refl _ _).alloc (Nat.le_refl _) _)
  have HS1 := Lib.hid (show w1.heap.size = w.heap.size + 1 by rw [hw1]; simp)
  rw [← hw1] at HZ
  have HW1 := Lib.hid hw1
  clear h hw1
  go_enter Try.func24, Try.ntmps24
  go_upto_region 1 with fail
  rw [← HW1.out]
  go_wp2_with fail
  go_loopw [8, 9] (fun b i wy => ∃ (k : Nat) (z : Int), k ≤ n ∧ i = .int .i64 (k : Int) ∧ b = .int .i64 z ∧ BestAt l k key q z ∧ Below w1.heap.size w1 wy) (fun _ i _ => n - (intOf i).toNat)
  case atStart => exact ⟨0, -1, Nat.zero_le _, rfl, rfl, .inl ⟨rfl, rfl⟩, Below.refl _ _⟩
  case round =>
    obtain ⟨k, z, hk, rfl, rfl, hBA, hB⟩ := hrel
    have HBA := Lib.hid hBA
    have HB := Lib.hid hB
    clear hBA hB
    have i0 : (0 : Int) ≤ (k : Int) := by omega
    by_cases hlt : k < n
    · obtain ⟨xi, hxi⟩ : ∃ y, l[k]? = some y := ⟨_, List.getElem?_eq_getElem (by omega)⟩
      obtain ⟨g1, o1, rfl, hb1, hr1⟩ := HI.out.at hxi
      have HBw := Lib.hid (HB1.out.trans (HB.out.mono (by rw [HS1.out]; omega)))
      have HXg := Lib.hid (grew_cells hr1 HBw.out hb1 HBw.out.size)
      have HXI := Lib.hid hxi
      have HG := Lib.hid (get_add hxi key q)
      have i1 : (k : Int) < (n : Int) := by omega
      clear hr1 hxi
      -- what a round leaves, whatever it found
      have HNO : Hid (¬ (xi.key = key ∧ xi.seq ≤ q) → BestAt l (k + 1) key q z) := Lib.hid fun hno => by
        have e : ItP.get (l.take (k + 1)) key q = ItP.get (l.take k) key q := by rw [HG.out]; unfold ItP.best; rw [if_neg hno]
        unfold BestAt
        rw [e]
        exact HBA.out
      by_cases hkey : xi.key = key
      · have q1 : (xi.key == key) = true := by simpa using hkey
        by_cases hq : xi.seq ≤ q
        · have q2 : (xi.seq : Int) ≤ (q : Int) := by omega
          rcases HBA.out with ⟨rfl, hN⟩ | ⟨j, y, rfl, hj, hY⟩
          · have HR := Lib.hid (show BestAt l (k + 1) key q (k : Int) from .inr ⟨k, xi, rfl, HXI.out, by rw [HG.out, hN]; unfold ItP.best; rw [if_pos ⟨hkey, hq⟩]⟩)
            clear hN HNO HBA
            subst hkey
            go_upto_region 5 with fail
            have hqq := And.intro q1 (And.intro q2 (And.intro i1 HXg.out))
            refine wp_region_x [] (by kernel_rfl) (by kernel_rfl) (by kernel_rfl) ?_
            simp only [blank, List.foldl_nil]
            repeat (first | (refine wpX_value (v := ?_) rfl (by intros; simp) rfl rfl (fun x => ?_) ?_; rotate_left; (focus (simp [go_sem, hqq]; (try go_ints); first | done | (with_reducible rfl))); (simp only [Act.put, List.setIfInBounds_toArray, List.set_cons_succ, List.set_cons_zero])) | (refine wpX_skip rfl ?_; (simp only [Act.put, List.setIfInBounds_toArray, List.set_cons_succ, List.set_cons_zero])))
            (refine wpX_nil ?_; intro xb wx hxg xl; obtain ⟨xf, xe⟩ := LikeAll.end_ xl; clear xl; subst xe; simp only [fill, List.foldl_nil, Act.put])
            clear hqq
            go_wp2_with fail
            go_roundw
            case rel => exact ⟨k + 1, (k : Int), hlt, by go_num, rfl, HR.out, Below.trans HB.out (Below.mono hxg HB.out.size)⟩
            case measure => simp [intOf]; omega
          · have hjl := (List.getElem?_eq_some_iff.1 hj).1
            have HYg := Lib.hid (grew_cells (HI.out.range hj) HBw.out hb1 HBw.out.size)
            have j1 : (j : Int) < (n : Int) := by omega
            have j0 : ¬ (j : Int) < 0 := by omega
            have j2 : (0 : Int) ≤ (j : Int) := by omega
            by_cases hbig : y.seq < xi.seq
            · have HR := Lib.hid (show BestAt l (k + 1) key q (k : Int) from .inr ⟨k, xi, rfl, HXI.out, by rw [HG.out, hY]; unfold ItP.best; rw [if_pos ⟨hkey, hq⟩]; simp only; rw [if_pos hbig]⟩)
              clear hY HNO HBA hj
              subst hkey
              have q3 : (y.seq : Int) < (xi.seq : Int) := by omega
              go_upto_region 5 with fail
              have hqq := And.intro q1 (And.intro q2 (And.intro i1 (And.intro j0 (And.intro j1 (And.intro hbig (And.intro HXg.out HYg.out))))))
              refine wp_region_x [] (by kernel_rfl) (by kernel_rfl) (by kernel_rfl) ?_
              simp only [blank, List.foldl_nil]
              repeat (first | (refine wpX_value (v := ?_) rfl (by intros; simp) rfl rfl (fun x => ?_) ?_; rotate_left; (focus (simp [go_sem, hqq]; (try go_ints); first | done | (with_reducible rfl))); (simp only [Act.put, List.setIfInBounds_toArray, List.set_cons_succ, List.set_cons_zero])) | (refine wpX_skip rfl ?_; (simp only [Act.put, List.setIfInBounds_toArray, List.set_cons_succ, List.set_cons_zero])))
              (refine wpX_nil ?_; intro xb wx hxg xl; obtain ⟨xf, xe⟩ := LikeAll.end_ xl; clear xl; subst xe; simp only [fill, List.foldl_nil, Act.put])
              clear hqq
              go_wp2_with fail
              go_roundw
              case rel => exact ⟨k + 1, (k : Int), hlt, by go_num, rfl, HR.out, Below.trans HB.out (Below.mono hxg HB.out.size)⟩
              case measure => simp [intOf]; omega
            · have HR := Lib.hid (show BestAt l (k + 1) key q (j : Int) from .inr ⟨j, y, rfl, hj, by rw [HG.out, hY]; unfold ItP.best; rw [if_pos ⟨hkey, hq⟩]; simp only; rw [if_neg hbig]⟩)
              clear hY HNO HBA hj
              subst hkey
              have q3 : ¬ (y.seq : Int) < (xi.seq : Int) := by omega
              go_upto_region 5 with fail
              have hqq := And.intro q1 (And.intro q2 (And.intro i1 (And.intro j0 (And.intro j1 (And.intro hbig (And.intro HXg.out HYg.out))))))
              refine wp_region_x [] (by kernel_rfl) (by kernel_rfl) (by kernel_rfl) ?_
              simp only [blank, List.foldl_nil]
              repeat (first | (refine wpX_value (v := ?_) rfl (by intros; simp) rfl rfl (fun x => ?_) ?_; rotate_left; (focus (simp [go_sem, hqq]; (try go_ints); first | done | (with_reducible rfl))); (simp only [Act.put, List.setIfInBounds_toArray, List.set_cons_succ, List.set_cons_zero])) | (refine wpX_skip rfl ?_; (simp only [Act.put, List.setIfInBounds_toArray, List.set_cons_succ, List.set_cons_zero])))
              (refine wpX_nil ?_; intro xb wx hxg xl; obtain ⟨xf, xe⟩ := LikeAll.end_ xl; clear xl; subst xe; simp only [fill, List.foldl_nil, Act.put])
              clear hqq
              go_wp2_with fail
              go_roundw
              case rel => exact ⟨k + 1, (j : Int), hlt, by go_num, rfl, HR.out, Below.trans HB.out (Below.mono hxg HB.out.size)⟩
              case measure => simp [intOf]; omega
        · have HR := Lib.hid (HNO.out (fun h => hq h.2))
          have q2 : ¬ (xi.seq : Int) ≤ (q : Int) := by omega
          clear HNO HBA
          subst hkey
          go_upto_region 5 with fail
          have hqq := And.intro q1 (And.intro hq (And.intro i1 HXg.out))
          refine wp_region_x [] (by kernel_rfl) (by kernel_rfl) (by kernel_rfl) ?_
          simp only [blank, List.foldl_nil]
          repeat (first | (refine wpX_value (v := ?_) rfl (by intros; simp) rfl rfl (fun x => ?_) ?_; rotate_left; (focus (simp [go_sem, hqq]; (try go_ints); first | done | (with_reducible rfl))); (simp only [Act.put, List.setIfInBounds_toArray, List.set_cons_succ, List.set_cons_zero])) | (refine wpX_skip rfl ?_; (simp only [Act.put, List.setIfInBounds_toArray, List.set_cons_succ, List.set_cons_zero])))
          (refine wpX_nil ?_; intro xb wx hxg xl; obtain ⟨xf, xe⟩ := LikeAll.end_ xl; clear xl; subst xe; simp only [fill, List.foldl_nil, Act.put])
          clear hqq
          go_wp2_with fail
          go_roundw
          case rel => exact ⟨k + 1, z, hlt, by go_num, rfl, HR.out, Below.trans HB.out (Below.mono hxg HB.out.size)⟩
          case measure => simp [intOf]; omega
      · have HR := Lib.hid (HNO.out (fun h => hkey h.1))
        have q1 : (xi.key == key) = false := by simpa using hkey
        clear HNO HBA hkey
        go_upto_region 5 with fail
        have hqq := And.intro q1 (And.intro i1 HXg.out)
        refine wp_region_x [] (by kernel_rfl) (by kernel_rfl) (by kernel_rfl) ?_
        simp only [blank, List.foldl_nil]
        repeat (first | (refine wpX_value (v := ?_) rfl (by intros; simp) rfl rfl (fun x => ?_) ?_; rotate_left; (focus (simp [go_sem, hqq]; (try go_ints); first | done | (with_reducible rfl))); (simp only [Act.put, List.setIfInBounds_toArray, List.set_cons_succ, List.set_cons_zero])) | (refine wpX_skip rfl ?_; (simp only [Act.put, List.setIfInBounds_toArray, List.set_cons_succ, List.set_cons_zero])))
        (refine wpX_nil ?_; intro xb wx hxg xl; obtain ⟨xf, xe⟩ := LikeAll.end_ xl; clear xl; subst xe; simp only [fill, List.foldl_nil, Act.put])
        clear hqq
        go_wp2_with fail
        go_roundw
        case rel => exact ⟨k + 1, z, hlt, by go_num, rfl, HR.out, Below.trans HB.out (Below.mono hxg HB.out.size)⟩
        case measure => simp [intOf]; omega
    · obtain rfl : k = n := by omega
      have HT := Lib.hid (show l.take k = l from List.take_of_length_le (by omega))
      have i1 : ¬ (k : Int) < (k : Int) := by omega
      have HZr := Lib.hid (HZ.out.below HB.out (by rw [HS1.out]; omega))
      have HBw := Lib.hid (HB1.out.trans (HB.out.mono (by rw [HS1.out]; omega)))
      rcases HBA.out with ⟨rfl, hN⟩ | ⟨j, y, rfl, hj, hY⟩
      · have HR := Lib.hid (show ItP.get l key q = none by rw [HT.out] at hN; exact hN)
        have HF := Lib.hid (HZr.out.set ItP.none0).load
        have HBf := Lib.hid (HBw.out.grown (grown_setI wr w.heap.size ItP.none0) HBw.out.size (fun k e => by cases e; exact Nat.le_refl _))
        clear hN
        have hbz : ∀ W : World, (Instr.build 29 #[]).run Try.prog W = .ok (iv ItP.none0) W := fun W => by kernel_rfl
        go_wp2_with (refine wpList_storeI rfl (.tmp 6) (.tmp 52) rfl w.heap.size _ ItP.none0 rfl rfl HZr.out ?_)
        have hres := HF.out
        refine bodyPost_ret (v := getV none) (by simp [results, Try.results24, asAddr, hres, getV]) rfl ⟨by rw [HR.out], HBf.out⟩
      · have HR := Lib.hid (show ItP.get l key q = some y by rw [HT.out] at hY; exact hY)
        have hjl := (List.getElem?_eq_some_iff.1 hj).1
        obtain ⟨g1, o1, rfl, hb1, hr1⟩ := HI.out.at hj
        obtain ⟨p0, p1, p2, p3⟩ := range_cells (range_below hr1 HBw.out hb1)
        have HF := Lib.hid (HZr.out.set y).load
        have HBf := Lib.hid (HBw.out.grown (grown_setI wr w.heap.size y) HBw.out.size (fun k e => by cases e; exact Nat.le_refl _))
        have j1 : (j : Int) < (k : Int) := by omega
        have j0 : ¬ (j : Int) < 0 := by omega
        have j2 : (0 : Int) ≤ (j : Int) := by omega
        clear hY hj hr1
        go_wp2_with (refine wpList_storeI rfl (.tmp 6) (.tmp 56) rfl w.heap.size _ y rfl rfl HZr.out ?_)
        have hres := HF.out
        refine bodyPost_ret (v := getV (some y)) (by simp [results, Try.results24, asAddr, hres, getV]) rfl ⟨by rw [HR.out], HBf.out⟩
end Go.Proofs.Ytkkeodfoiffofaa
