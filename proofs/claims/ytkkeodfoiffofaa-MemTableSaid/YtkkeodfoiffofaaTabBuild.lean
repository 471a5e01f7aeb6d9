/- The walk of table.Build. -/
import Derived.Test.YtkkeodfoiffofaaTabA
import Derived.Test.YtkkeodfoiffofaaTabB
import Derived.Test.YtkkeodfoiffofaaTabGood
import Derived.Test.YtkkeodfoiffofaaTabCmp
import Derived.BigQuiet
namespace Go.Proofs.Ytkkeodfoiffofaa
open Go.RowKit
set_option linter.unusedVariables false
/-- slices.Values -/
theorem values_its (A : Option Addr) (n c : Nat) (w : World) :
    Calls Try.prog 55 #[.slice A n c] w fun e w' => e = .returned (.func (.func 71) #[] #[.pointer (some ⟨w.heap.size, 0, none⟩)]) ∧ Boxed w' w.heap.size 32 (.slice A n c) ∧ Grew w w' := by
  go_enter Try.func55, Try.ntmps55
  go_wp2_with fail
  go_ret
  exact ⟨rfl, Boxed.new w _ _, grew_new w _⟩
theorem filter_values (A : Option Addr) (n c Bs : Nat) (l : List It) (W : World) (hI : Is W W.heap.size A n c l) (hB : Boxed W Bs 32 (.slice A n c)) (hk : ∀ x ∈ l, x.key.length ≤ 1000000) (many : Nat) (hm : many ≤ 1000000) :
    Calls Try.prog 54 #[.func (.func 71) #[] #[.pointer (some ⟨Bs, 0, none⟩)], .int .i64 (many : Int)] W (GivesB W (TabP.filter l many)) := by
  have hmap : (l.attachWith (fun x => x.key.length ≤ 1000000) hk).map Subtype.val = l := by simp
  have hI2 : Is W W.heap.size A n c ((l.attachWith (fun x => x.key.length ≤ 1000000) hk).map Subtype.val) := by rw [hmap]; exact hI
  have hV := values2_gives Subtype.val Bs n c A (l.attachWith (fun x => x.key.length ≤ 1000000) hk) W hB.cell hI2
  have h := tab_filter Subtype.val 71 #[.pointer (some ⟨Bs, 0, none⟩)] (keepsvalues2 Bs A (l.attachWith (fun x => x.key.length ≤ 1000000) hk)) (l.attachWith (fun x => x.key.length ≤ 1000000) hk) many W
    (enters_of Try.func71 (by kernel_rfl) rfl) hV.1
    (fun W' hG => (values2_gives Subtype.val Bs n c A (l.attachWith (fun x => x.key.length ≤ 1000000) hk) W' ((hG.block Bs (lt_of_blk hB)).trans hB |> fun h : Boxed W' Bs 32 (.slice A n c) => h.cell) ((hI2.below hG).more hG.size)).2) hm (fun x => x.2)
  rw [hmap] at h
  exact h
theorem own_le32 (n : Nat) (hn : n < 4294967296) (w : World) : OwnB (w.alloc (.cells #[.int .u8 ((n : Int) % 256), .int .u8 ((n : Int) / 256 % 256), .int .u8 ((n : Int) / 65536 % 256), .int .u8 ((n : Int) / 16777216)] 5)) w.heap.size (some ⟨w.heap.size, 0, none⟩) 4 4 (TabP.le32 n) := by
  refine Own.made w _ _ (0, 0) 1 4 4 _ (Nat.le_refl _) rfl (Nat.le_refl _) (by decide) (by simp) (.inr rfl) ?_
  have e0 : (n : Int) % 256 = ((UInt8.ofNat n).toNat : Int) := by rw [UInt8.toNat_ofNat']; omega
  have e1 : (n : Int) / 256 % 256 = ((UInt8.ofNat (n / 256)).toNat : Int) := by rw [UInt8.toNat_ofNat']; omega
  have e2 : (n : Int) / 65536 % 256 = ((UInt8.ofNat (n / 65536)).toNat : Int) := by rw [UInt8.toNat_ofNat']; omega
  have e3 : (n : Int) / 16777216 = ((UInt8.ofNat (n / 16777216)).toNat : Int) := by rw [UInt8.toNat_ofNat']; omega
  rw [e0, e1, e2, e3]
  intro j u hu
  rw [← Array.getElem?_toList]
  exact hu
def GivesT (w0 : World) (l : List UInt8) (z : Int) (e : Ending) (w' : World) : Prop :=
  ∃ A n c, e = .returned (.tuple #[.slice A n c, .int .i64 z]) ∧ OwnB w' w0.heap.size A n c l ∧ Grew w0 w'
set_option maxRecDepth 100000 in
set_option maxHeartbeats 4000000 in
theorem tab_build (A : Option Addr) (n c : Nat) (l : List It) (a : Int) (w : World) (h : Is w w.heap.size A n c l) (hq : ∀ x ∈ l, x.seq < m64) (ha : (Lit.int .i64 a).wf = true) :
    Calls Try.prog 29 #[.slice A n c, .int .i64 a] w (GivesT w (TabP.buildB l a) (TabP.buildE l a)) := by
  have hl := h.len
  have hm := h.le
  have hx := h.max
  unfold maxLen at hx
  have HI := Lib.hid h
  have HQ := Lib.hid hq
  have ha' : -9223372036854775808 ≤ a ∧ a ≤ 9223372036854775807 := by simpa [Lit.wf, IntKind.min, IntKind.max, IntKind.signed, IntKind.bits] using ha
  obtain ⟨ha1, ha2⟩ := ha'
  clear h hq ha
  by_cases b1 : a < 1
  · have HE := Lib.hid (show TabP.buildE l a = 1 by unfold TabP.buildE; rw [if_pos (.inl b1)])
    have HB := Lib.hid (show TabP.buildB l a = [] by unfold TabP.buildB; rw [HE.out]; rfl)
    go_enter Try.func29, Try.ntmps29
    go_wp2_with fail
    go_ret2
    exact ⟨none, 0, 0, by rw [HE.out]; rfl, by rw [HB.out]; exact Own.nil _ _ _ _, Grew.refl _⟩
  by_cases b2 : 1000 < a
  · have HE := Lib.hid (show TabP.buildE l a = 1 by unfold TabP.buildE; rw [if_pos (.inr b2)])
    have HB := Lib.hid (show TabP.buildB l a = [] by unfold TabP.buildB; rw [HE.out]; rfl)
    go_enter Try.func29, Try.ntmps29
    go_wp2_with fail
    go_ret2
    exact ⟨none, 0, 0, by rw [HE.out]; rfl, by rw [HB.out]; exact Own.nil _ _ _ _, Grew.refl _⟩
  have HNO := Lib.hid (show ¬ (a < 1 ∨ 1000 < a) by omega)
  obtain ⟨q, rfl⟩ : ∃ q : Nat, a = (q : Int) := ⟨a.toNat, by omega⟩
  go_enter Try.func29, Try.ntmps29
  go_upto_region 4 with fail
  go_loopw [6, 7, 24] (fun _ _ i wy => ∃ k : Nat, k ≤ n ∧ i = .int .i64 (k : Int) ∧ (∀ x ∈ l.take k, ItP.may x = true) ∧ ItP.srt (l.take k) = true ∧ Grew w wy) (fun _ _ i _ => n - (intOf i).toNat)
  case atStart => exact ⟨0, Nat.zero_le _, rfl, (fun x h => by simp at h), rfl, Grew.refl _⟩
  case round =>
    obtain ⟨k, hk, rfl, hm1, hs1, hG⟩ := hrel
    have HM := Lib.hid hm1
    have HS := Lib.hid hs1
    have HG := Lib.hid hG
    clear hm1 hs1 hG
    have i0 : (0 : Int) ≤ (k : Int) := by omega
    by_cases hlt : k < n
    · have i1 : (k : Int) < (n : Int) := by omega
      obtain ⟨x, hxk⟩ : ∃ x, l[k]? = some x := ⟨_, List.getElem?_eq_getElem (by omega)⟩
      obtain ⟨g1, o1, rfl, q1⟩ := is_grew HI.out HG.out hxk
      have hq1 := q1 ⟨wr, Grew.refl _⟩
      obtain ⟨r0, r1, r2, r3⟩ := hq1
      go_upto_region 6 with fail
      obtain ⟨w5, hw5⟩ : ∃ W, W = wr.alloc (.cells #[.string ⟨x.key.toArray⟩, .int .u64 (x.seq : Int), .bool x.gone, .string ⟨x.val.toArray⟩] 29) := ⟨_, rfl⟩
      obtain ⟨b5, hb5⟩ : ∃ b, b = wr.heap.size := ⟨_, rfl⟩
      have HX5 := Lib.hid (show IBox w5 b5 x by rw [hw5, hb5]; exact IBox.new wr x)
      have HG5 := Lib.hid (show Grew w w5 by rw [hw5]; exact Grew.trans HG.out (grew_new wr _))
      have HMEM := Lib.hid (List.mem_of_getElem? hxk)
      rw [← hw5, ← hb5]
      clear hw5 hb5 r0 r1 r2 r3 q1
      have hbx := grew_cells0 HX5.out.range (Below.refl _ w5) HX5.out.lt (Nat.le_refl _)
      have HT1 := Lib.hid (show l.take (k + 1) = l.take k ++ [x] by rw [List.take_add_one, hxk]; rfl)
      obtain ⟨gd, hgd⟩ : ∃ b, b = ItP.may x := ⟨_, rfl⟩
      have HGd : Hid (∀ W, Calls Try.prog 49 #[iv x] W fun e w' => e = .returned (.bool gd) ∧ Grew W w') := Lib.hid fun W => by rw [hgd]; exact table_good x W
      have HXk := Lib.hid hxk
      have HGD := Lib.hid hgd
      clear hxk hgd
      rcases k with _ | j
      · have i9 : ¬ (0 : Int) < ((0 : Nat) : Int) := by omega
        have hqq := And.intro hbx i9
        clear hbx
        cases gd
        · have HNG := Lib.hid (show TabP.goodL l = false from TabP.goodL_take_no HXk.out HGD.out.symm)
          have HE := Lib.hid (show TabP.buildE l (q : Int) = 15 by unfold TabP.buildE; rw [if_neg HNO.out, if_pos HNG.out])
          have HB := Lib.hid (show TabP.buildB l (q : Int) = [] by unfold TabP.buildB; rw [HE.out]; rfl)
          refine wp_region_x [] (by kernel_rfl) (by kernel_rfl) (by kernel_rfl) ?_
          simp only [blank, List.foldl_nil]
          repeat (first | (refine wpX_value (v := ?_) rfl (by intros; simp) rfl rfl (fun x => ?_) ?_; rotate_left; (focus (simp [go_sem, hqq]; (try go_ints); first | done | (with_reducible rfl))); (simp only [Act.put, List.setIfInBounds_toArray, List.set_cons_succ, List.set_cons_zero])) | (refine wpX_skip rfl ?_; (simp only [Act.put, List.setIfInBounds_toArray, List.set_cons_succ, List.set_cons_zero])) | (refine wpX_call (.bool false) _ _ rfl (by intros; simp) rfl rfl (fun x => ?_) (fun W _ => HGd.out W) ?_; (focus (simp [go_sem]; done)); (simp only [Act.put, List.setIfInBounds_toArray, List.set_cons_succ, List.set_cons_zero])))
          (refine wpX_nil ?_; intro xb wx hxg xl; obtain ⟨xf, xe⟩ := LikeAll.end_ xl; clear xl; subst xe; simp only [fill, List.foldl_nil, Act.put])
          clear hqq
          go_wp2_with fail
          go_ret2
          exact ⟨none, 0, 0, by rw [HE.out]; rfl, by rw [HB.out]; exact Own.nil _ _ _ _, (HG5.out.trans hxg)⟩
        · have HA := Lib.hid (show ∀ y ∈ l.take (0 + 1), ItP.may y = true by rw [HT1.out]; intro y hy; simp at hy; rw [hy]; exact HGD.out.symm)
          have HSr := Lib.hid (show ItP.srt (l.take (0 + 1)) = true by rw [HT1.out]; rfl)
          refine wp_region_x [] (by kernel_rfl) (by kernel_rfl) (by kernel_rfl) ?_
          simp only [blank, List.foldl_nil]
          repeat (first | (refine wpX_value (v := ?_) rfl (by intros; simp) rfl rfl (fun x => ?_) ?_; rotate_left; (focus (simp [go_sem, hqq]; (try go_ints); first | done | (with_reducible rfl))); (simp only [Act.put, List.setIfInBounds_toArray, List.set_cons_succ, List.set_cons_zero])) | (refine wpX_skip rfl ?_; (simp only [Act.put, List.setIfInBounds_toArray, List.set_cons_succ, List.set_cons_zero])) | (refine wpX_call (.bool true) _ _ rfl (by intros; simp) rfl rfl (fun x => ?_) (fun W _ => HGd.out W) ?_; (focus (simp [go_sem]; done)); (simp only [Act.put, List.setIfInBounds_toArray, List.set_cons_succ, List.set_cons_zero])))
          (refine wpX_nil ?_; intro xb wx hxg xl; obtain ⟨xf, xe⟩ := LikeAll.end_ xl; clear xl; subst xe; simp only [fill, List.foldl_nil, Act.put])
          clear hqq
          go_wp2_with fail
          go_roundw
          case rel => exact ⟨0 + 1, hlt, by go_num, HA.out, HSr.out, HG5.out.trans hxg⟩
          case measure => simp [intOf]; omega
      · have i9 : (0 : Int) < ((j + 1 : Nat) : Int) := by omega
        obtain ⟨z, hz⟩ : ∃ z, l[j]? = some z := ⟨_, List.getElem?_eq_getElem (by omega)⟩
        have HA2 := Lib.hid (srt_take2 hz HXk.out)
        obtain ⟨g2, o2, e2, q2⟩ := is_grew HI.out HG5.out hz
        cases e2
        obtain ⟨cz, hcz⟩ : ∃ cz, cz = ItP.cmp z x := ⟨_, rfl⟩
        have HR : Hid (∀ W, Calls Try.prog 50 #[iv z, iv x] W fun e w' => e = .returned (.int .i64 cz) ∧ Grew W w') := Lib.hid fun W => by rw [hcz]; exact table_compare z x W
        have hcn := ItP.cmp_neg z x
        rw [← hcz] at hcn
        obtain ⟨b, hb⟩ : ∃ b, b = ItP.ahead z x := ⟨_, rfl⟩
        rw [← hb] at hcn HA2
        have i8 : ((j + 1 : Nat) : Int) - 1 = (j : Int) := by omega
        have i7 : (j : Int) < (n : Int) := by omega
        have i6 : (0 : Int) ≤ (j : Int) := by omega
        clear hz hcz hb
        cases gd
        · have HNG := Lib.hid (show TabP.goodL l = false from TabP.goodL_take_no HXk.out HGD.out.symm)
          have HE := Lib.hid (show TabP.buildE l (q : Int) = 15 by unfold TabP.buildE; rw [if_neg HNO.out, if_pos HNG.out])
          have HB := Lib.hid (show TabP.buildB l (q : Int) = [] by unfold TabP.buildB; rw [HE.out]; rfl)
          clear hcn
          have hqq := And.intro hbx i9
          refine wp_region_x [] (by kernel_rfl) (by kernel_rfl) (by kernel_rfl) ?_
          simp only [blank, List.foldl_nil]
          repeat (first | (refine wpX_value (v := ?_) rfl (by intros; simp) rfl rfl (fun x => ?_) ?_; rotate_left; (focus (simp [go_sem, hqq]; (try go_ints); first | done | (with_reducible rfl))); (simp only [Act.put, List.setIfInBounds_toArray, List.set_cons_succ, List.set_cons_zero])) | (refine wpX_skip rfl ?_; (simp only [Act.put, List.setIfInBounds_toArray, List.set_cons_succ, List.set_cons_zero])) | (refine wpX_call (.bool false) _ _ rfl (by intros; simp) rfl rfl (fun x => ?_) (fun W _ => HGd.out W) ?_; (focus (simp [go_sem]; done)); (simp only [Act.put, List.setIfInBounds_toArray, List.set_cons_succ, List.set_cons_zero])) | (refine wpX_call (.int .i64 cz) _ _ rfl (by intros; simp) rfl rfl (fun x => ?_) (fun W _ => HR.out W) ?_; (focus (simp [go_sem]; done)); (simp only [Act.put, List.setIfInBounds_toArray, List.set_cons_succ, List.set_cons_zero])))
          (refine wpX_nil ?_; intro xb wx hxg xl; obtain ⟨xf, xe⟩ := LikeAll.end_ xl; clear xl; subst xe; simp only [fill, List.foldl_nil, Act.put])
          clear hqq
          go_wp2_with fail
          go_ret2
          exact ⟨none, 0, 0, by rw [HE.out]; rfl, by rw [HB.out]; exact Own.nil _ _ _ _, (HG5.out.trans hxg)⟩
        · cases b
          · have HNG := Lib.hid (show TabP.goodL l = false from TabP.goodL_order (k := j + 2) (by rw [HA2.out, Bool.and_false]))
            have HE := Lib.hid (show TabP.buildE l (q : Int) = 15 by unfold TabP.buildE; rw [if_neg HNO.out, if_pos HNG.out])
            have HB := Lib.hid (show TabP.buildB l (q : Int) = [] by unfold TabP.buildB; rw [HE.out]; rfl)
            have hz0 : (0 : Int) ≤ cz := by simp at hcn; omega
            clear hcn
            have hqq := And.intro hbx (And.intro q2 (And.intro i9 (And.intro i8 (And.intro i7 (And.intro i6 hz0)))))
            refine wp_region_x [] (by kernel_rfl) (by kernel_rfl) (by kernel_rfl) ?_
            simp only [blank, List.foldl_nil]
            repeat (first | (refine wpX_value (v := ?_) rfl (by intros; simp) rfl rfl (fun x => ?_) ?_; rotate_left; (focus (simp [go_sem, hqq]; (try go_ints); first | done | (with_reducible rfl))); (simp only [Act.put, List.setIfInBounds_toArray, List.set_cons_succ, List.set_cons_zero])) | (refine wpX_skip rfl ?_; (simp only [Act.put, List.setIfInBounds_toArray, List.set_cons_succ, List.set_cons_zero])) | (refine wpX_call (.bool true) _ _ rfl (by intros; simp) rfl rfl (fun x => ?_) (fun W _ => HGd.out W) ?_; (focus (simp [go_sem]; done)); (simp only [Act.put, List.setIfInBounds_toArray, List.set_cons_succ, List.set_cons_zero])) | (refine wpX_call (.int .i64 cz) _ _ rfl (by intros; simp) rfl rfl (fun x => ?_) (fun W _ => HR.out W) ?_; (focus (simp [go_sem]; done)); (simp only [Act.put, List.setIfInBounds_toArray, List.set_cons_succ, List.set_cons_zero])))
            (refine wpX_nil ?_; intro xb wx hxg xl; obtain ⟨xf, xe⟩ := LikeAll.end_ xl; clear xl; subst xe; simp only [fill, List.foldl_nil, Act.put])
            clear hqq
            go_wp2_with fail
            go_ret2
            exact ⟨none, 0, 0, by rw [HE.out]; rfl, by rw [HB.out]; exact Own.nil _ _ _ _, (HG5.out.trans hxg)⟩
          · have hz0 : ¬ (0 : Int) ≤ cz := by simp at hcn; omega
            clear hcn
            have HA := Lib.hid (show ∀ y ∈ l.take (j + 1 + 1), ItP.may y = true by rw [HT1.out]; intro y hy; rcases List.mem_append.1 hy with hy | hy; exact HM.out y hy; simp at hy; rw [hy]; exact HGD.out.symm)
            have HSr := Lib.hid (show ItP.srt (l.take (j + 1 + 1)) = true by rw [HA2.out, HS.out]; rfl)
            have hqq := And.intro hbx (And.intro q2 (And.intro i9 (And.intro i8 (And.intro i7 (And.intro i6 hz0)))))
            refine wp_region_x [] (by kernel_rfl) (by kernel_rfl) (by kernel_rfl) ?_
            simp only [blank, List.foldl_nil]
            repeat (first | (refine wpX_value (v := ?_) rfl (by intros; simp) rfl rfl (fun x => ?_) ?_; rotate_left; (focus (simp [go_sem, hqq]; (try go_ints); first | done | (with_reducible rfl))); (simp only [Act.put, List.setIfInBounds_toArray, List.set_cons_succ, List.set_cons_zero])) | (refine wpX_skip rfl ?_; (simp only [Act.put, List.setIfInBounds_toArray, List.set_cons_succ, List.set_cons_zero])) | (refine wpX_call (.bool true) _ _ rfl (by intros; simp) rfl rfl (fun x => ?_) (fun W _ => HGd.out W) ?_; (focus (simp [go_sem]; done)); (simp only [Act.put, List.setIfInBounds_toArray, List.set_cons_succ, List.set_cons_zero])) | (refine wpX_call (.int .i64 cz) _ _ rfl (by intros; simp) rfl rfl (fun x => ?_) (fun W _ => HR.out W) ?_; (focus (simp [go_sem]; done)); (simp only [Act.put, List.setIfInBounds_toArray, List.set_cons_succ, List.set_cons_zero])))
            (refine wpX_nil ?_; intro xb wx hxg xl; obtain ⟨xf, xe⟩ := LikeAll.end_ xl; clear xl; subst xe; simp only [fill, List.foldl_nil, Act.put])
            clear hqq
            go_wp2_with fail
            go_roundw
            case rel => exact ⟨j + 1 + 1, hlt, by go_num, HA.out, HSr.out, HG5.out.trans hxg⟩
            case measure => simp [intOf]; omega
    · obtain rfl : k = n := by omega
      have HMA := Lib.hid (show ∀ x ∈ l, ItP.may x = true from fun x hx => HM.out x (by rw [List.take_of_length_le (by omega)]; exact hx))
      have HGL := Lib.hid (show TabP.goodL l = true from TabP.goodL_yes HMA.out (by have := HS.out; rwa [List.take_of_length_le (by omega)] at this))
      clear HM HS
      have i1 : ¬ (k : Int) < (k : Int) := by omega
      by_cases hbig : 10000 < k
      · have i2 : (10000 : Int) < (k : Int) := by omega
        have HE := Lib.hid (show TabP.buildE l (q : Int) = 2 by unfold TabP.buildE; rw [if_neg HNO.out, if_neg (by rw [HGL.out]; decide), if_pos (by omega)])
        have HB := Lib.hid (show TabP.buildB l (q : Int) = [] by unfold TabP.buildB; rw [HE.out]; rfl)
        go_wp2_with fail
        go_ret2
        exact ⟨none, 0, 0, by rw [HE.out]; rfl, by rw [HB.out]; exact Own.nil _ _ _ _, HG.out⟩
      have i2 : ¬ (10000 : Int) < (k : Int) := by omega
      have HE := Lib.hid (show TabP.buildE l (q : Int) = 0 by unfold TabP.buildE; rw [if_neg HNO.out, if_neg (by rw [HGL.out]; decide), if_neg (by omega)])
      have HB := Lib.hid (show TabP.buildB l (q : Int) = TabP.build l q by unfold TabP.buildB; rw [HE.out, if_pos rfl]; simp)
      have hq64 : q < two64 := by rw [two64_eq]; omega
      have hk64 : k < two64 := by rw [two64_eq]; omega
      have hlq := BinP.enc_len q
      have hlk := BinP.enc_len k
      have HU1 := Lib.hid (bin_uint none 0 0 q [] 0 wr rfl Row.nil (Nat.zero_le _) (by omega) hq64)
      have HU2 := Lib.hid (fun (A : Option Addr) (n c : Nat) (W : World) (base : Nat) (hO : OwnB W base A n c (BinP.enc q)) => bin_uint A n c k (BinP.enc q) W.heap.size W hO.len hO.row (Nat.le_refl _) (by have := hO.len; omega) hk64)
      rw [List.nil_append] at HU1
      go_upto_region 12 with (first
        | (go_at_call 51; ((with_reducible refine HU1.out.mono ?_); rintro e w2 ⟨A1, n1, c1, rfl, hO, hG⟩; have HO1 := Lib.hid hO; have HG2 := Lib.hid hG; clear hO hG))
        | (go_at_call 51; ((with_reducible refine (HU2.out _ _ _ _ _ HO1.out).mono ?_); rintro e w3 ⟨A3, n3, c3, rfl, hO, hG⟩; have HO3 := Lib.hid hO; have HG3 := Lib.hid hG; clear hO hG)))
      have HGS := Lib.hid (show Grew w w3 from Grew.trans (Grew.trans HG.out HG2.out) HG3.out)
      have HOS := Lib.hid (show OwnB w3 w.heap.size A3 n3 c3 (TabP.start q k).1 from Own.lower HO3.out (Nat.le_trans HG.out.size HG2.out.size))
      have hstl := TabP.start_len q k
      obtain ⟨R, hR⟩ : ∃ R, R = TabP.run q 0 (TabP.start q k) l := ⟨_, rfl⟩
      have HRr := Lib.hid hR
      clear HU1 HU2 HO1 HO3 HG2 HG3 HG hR
      go_wp2_with fail
      go_loopw [8, 9, 10, 11, 12, 59] (fun b p ah _ _ i wy => ∃ (j : Nat) (A8 : Option Addr) (n8 c8 : Nat) (A9 : Option Addr) (n9 c9 : Nat) (s : TabP.St3), j ≤ k ∧ i = .int .i64 (j : Int) ∧ b = .slice A8 n8 c8 ∧ p = .slice A9 n9 c9 ∧ ah = .string ⟨s.2.2.toArray⟩ ∧ OwnB wy w.heap.size A8 n8 c8 s.1 ∧ OwnB wy w.heap.size A9 n9 c9 s.2.1 ∧ TabP.run q j s (l.drop j) = R ∧ s.1.length + s.2.1.length ≤ 20 + 4403 * j ∧ s.2.2.length ≤ 256 ∧ Grew w wy) (fun _ _ _ _ _ i _ => k - (intOf i).toNat)
      case atStart => exact ⟨0, A3, n3, c3, none, 0, 0, TabP.start q k, Nat.zero_le _, rfl, rfl, rfl, rfl, HOS.out, Own.nil _ _ _ _, HRr.out.symm, by omega, Nat.zero_le _, HGS.out⟩
      case round =>
        obtain ⟨j, A8, n8, c8, A9, n9, c9, s, hj, rfl, rfl, rfl, rfl, hO8, hO9, hrun, hle, hah, hG⟩ := hrel
        have HO8 := Lib.hid hO8
        have HO9 := Lib.hid hO9
        have HRun := Lib.hid hrun
        have HG := Lib.hid hG
        clear hO8 hO9 hrun hG HOS HGS
        have i0 : (0 : Int) ≤ (j : Int) := by omega
        by_cases hlt : j < k
        · have i11 : (j : Int) < (k : Int) := by omega
          obtain ⟨x, hx0⟩ : ∃ x, l[j]? = some x := ⟨_, List.getElem?_eq_getElem (by omega)⟩
          obtain ⟨hxk, hxv⟩ := TabP.may_len (HMA.out x (List.mem_of_getElem? hx0))
          have hxs := HQ.out x (List.mem_of_getElem? hx0)
          have HRN := Lib.hid (show TabP.run q (j + 1) (TabP.step q j s x) (l.drop (j + 1)) = R by rw [← TabP.run_drop hx0]; exact HRun.out)
          have HLE := Lib.hid (show (TabP.step q j s x).1.length + (TabP.step q j s x).2.1.length ≤ 20 + 4403 * (j + 1) by have := TabP.step_len q j s (HMA.out x (List.mem_of_getElem? hx0)); omega)
          obtain ⟨g1, o1, rfl, q1⟩ := is_grew HI.out HG.out hx0
          obtain ⟨r0, r1, r2, r3⟩ := q1 ⟨wr, Grew.refl _⟩
          obtain ⟨m, hm'⟩ : ∃ m, m = j % q := ⟨_, rfl⟩
          have i12 : ((j : Int)).tmod (q : Int) = (m : Int) := by rw [hm']; exact (Int.ofNat_tmod j q).symm
          have i15 : ¬ (q : Int) = 0 := by omega
          have hmq : m ≤ j := by rw [hm']; exact Nat.mod_le _ _
          have HMQ := Lib.hid hm'
          clear hx0 hm' q1 HRun
          go_upto_region 17 with fail
          obtain ⟨w5, hw5⟩ : ∃ W, W = wr.alloc (.cells #[.string ⟨x.key.toArray⟩, .int .u64 (x.seq : Int), .bool x.gone, .string ⟨x.val.toArray⟩] 29) := ⟨_, rfl⟩
          obtain ⟨b5, hb5⟩ : ∃ b, b = wr.heap.size := ⟨_, rfl⟩
          have HX5 := Lib.hid (show IBox w5 b5 x by rw [hw5, hb5]; exact IBox.new wr x)
          have HG5 := Lib.hid (show Grew w w5 by rw [hw5]; exact Grew.trans HG.out (grew_new wr _))
          have HO8 := Lib.hid (show OwnB w5 w.heap.size A8 n8 c8 s.1 by rw [hw5]; exact Own.alloc HO8.out _)
          have HO9 := Lib.hid (show OwnB w5 w.heap.size A9 n9 c9 s.2.1 by rw [hw5]; exact Own.alloc HO9.out _)
          rw [← hw5, ← hb5]
          clear hw5 hb5 r0 r1 r2 r3
          by_cases hf : m = 0 ∧ 0 < j
          · obtain ⟨hf1, hf2⟩ := hf
            have hjq : j % q = 0 := by rw [← HMQ.out]; exact hf1
            have i13 : (m : Int) = 0 := by omega
            have i14 : (0 : Int) < (j : Int) := by omega
            have HST := Lib.hid (show TabP.step q j s x = (s.1 ++ BinP.text s.2.1, TabP.lay [] x, x.key) by unfold TabP.step; rw [if_pos (by omega)])
            have HTx := Lib.hid (bin_text A8 n8 c8 s.1 s.2.1 w5.heap.size w5 HO8.out.len HO8.out.row (Nat.le_refl _) (by have := HO8.out.len; omega))
            have HLa := Lib.hid (fun (W : World) => tab_lay none 0 0 [] 0 x [] W rfl Row.nil (Nat.zero_le _) hxs (Nat.zero_le _) (by omega))
            go_upto_region 19 with (first
              | (refine wpList_str8 (dst := some 74) A9 n9 c9 w5.heap.size s.2.1 rfl rfl HO9.out.len HO9.out.row ?_)
              | (go_at_call 52; ((with_reducible refine HTx.out.mono ?_); rintro e w6 ⟨Ab, nb, cb, rfl, hO, hG⟩; have HOb := Lib.hid (Own.lower hO HG5.out.size); have HG6 := Lib.hid hG; clear hO hG)))
            have HX6 := Lib.hid (HX5.out.grew HG6.out)
            obtain ⟨r0, r1, r2, r3⟩ := range_cells HX6.out.range
            go_upto_region 21 with (go_at_call 53; ((with_reducible refine (HLa.out _).mono ?_); rintro e w7 ⟨Ap, np, cp, rfl, hO, hG⟩; have HOp := Lib.hid (Own.lower hO (Nat.le_trans HG5.out.size HG6.out.size)); have HG7 := Lib.hid hG; clear hO hG))
            clear r0 r1 r2 r3
            have HX7 := Lib.hid (HX6.out.grew HG7.out)
            have HOb7 := Lib.hid (OwnB.below_all HOb.out HG7.out)
            obtain ⟨r0, r1, r2, r3⟩ := range_cells HX7.out.range
            go_wp2_with fail
            go_roundw
            case rel => exact ⟨j + 1, Ab, nb, cb, Ap, np, cp, (s.1 ++ BinP.text s.2.1, TabP.lay [] x, x.key), hlt, by go_num, rfl, rfl, rfl, HOb7.out, HOp.out, by rw [← HST.out]; exact HRN.out, by rw [← HST.out]; exact HLE.out, hxk, Grew.trans (Grew.trans HG5.out HG6.out) HG7.out⟩
            case measure => simp [intOf]; omega
          · have hjq : ¬ (j % q = 0 ∧ 0 < j) := by rw [← HMQ.out]; exact hf
            by_cases hm0 : m = 0
            · have hj0 : j = 0 := by omega
              have i13 : (m : Int) = 0 := by omega
              have i14 : ¬ (0 : Int) < (j : Int) := by omega
              have HST := Lib.hid (show TabP.step q j s x = (s.1, s.2.1 ++ TabP.lay s.2.2 x, x.key) by unfold TabP.step; rw [if_neg (by omega)])
              have HLa := Lib.hid (tab_lay A9 n9 c9 s.2.1 w5.heap.size x s.2.2 w5 HO9.out.len HO9.out.row (Nat.le_refl _) hxs (by unfold maxLen; omega) (by have := HO9.out.len; omega))
              obtain ⟨r0, r1, r2, r3⟩ := range_cells HX5.out.range
              go_upto_region 21 with (go_at_call 53; ((with_reducible refine HLa.out.mono ?_); rintro e w7 ⟨Ap, np, cp, rfl, hO, hG⟩; have HOp := Lib.hid (Own.lower hO HG5.out.size); have HG7 := Lib.hid hG; clear hO hG))
              clear r0 r1 r2 r3
              have HX7 := Lib.hid (HX5.out.grew HG7.out)
              have HOb7 := Lib.hid (OwnB.below_all HO8.out HG7.out)
              obtain ⟨r0, r1, r2, r3⟩ := range_cells HX7.out.range
              go_wp2_with fail
              go_roundw
              case rel => exact ⟨j + 1, A8, n8, c8, Ap, np, cp, (s.1, s.2.1 ++ TabP.lay s.2.2 x, x.key), hlt, by go_num, rfl, rfl, rfl, HOb7.out, HOp.out, by rw [← HST.out]; exact HRN.out, by rw [← HST.out]; exact HLE.out, hxk, Grew.trans HG5.out HG7.out⟩
              case measure => simp [intOf]; omega
            · have i13 : ¬ (m : Int) = 0 := by omega
              have HST := Lib.hid (show TabP.step q j s x = (s.1, s.2.1 ++ TabP.lay s.2.2 x, x.key) by unfold TabP.step; rw [if_neg (by omega)])
              have HLa := Lib.hid (tab_lay A9 n9 c9 s.2.1 w5.heap.size x s.2.2 w5 HO9.out.len HO9.out.row (Nat.le_refl _) hxs (by unfold maxLen; omega) (by have := HO9.out.len; omega))
              obtain ⟨r0, r1, r2, r3⟩ := range_cells HX5.out.range
              go_upto_region 21 with (go_at_call 53; ((with_reducible refine HLa.out.mono ?_); rintro e w7 ⟨Ap, np, cp, rfl, hO, hG⟩; have HOp := Lib.hid (Own.lower hO HG5.out.size); have HG7 := Lib.hid hG; clear hO hG))
              clear r0 r1 r2 r3
              have HX7 := Lib.hid (HX5.out.grew HG7.out)
              have HOb7 := Lib.hid (OwnB.below_all HO8.out HG7.out)
              obtain ⟨r0, r1, r2, r3⟩ := range_cells HX7.out.range
              go_wp2_with fail
              go_roundw
              case rel => exact ⟨j + 1, A8, n8, c8, Ap, np, cp, (s.1, s.2.1 ++ TabP.lay s.2.2 x, x.key), hlt, by go_num, rfl, rfl, rfl, HOb7.out, HOp.out, by rw [← HST.out]; exact HRN.out, by rw [← HST.out]; exact HLE.out, hxk, Grew.trans HG5.out HG7.out⟩
              case measure => simp [intOf]; omega
        · obtain rfl : j = k := by omega
          have i11 : ¬ (j : Int) < (j : Int) := by omega
          obtain rfl : s = R := by have := HRun.out; rwa [List.drop_of_length_le (by omega)] at this
          have HGe := Lib.hid HG.out
          go_upto_if 85 with fail
          go_cut [8] from 85 to 90 (fun b wy => ∃ (A8 : Option Addr) (n8 c8 : Nat), b = .slice A8 n8 c8 ∧ OwnB wy w.heap.size A8 n8 c8 (if l = [] then s.1 else s.1 ++ BinP.text s.2.1) ∧ Grew w wy)
          case first =>
            by_cases hnil : j = 0
            · have i16 : ¬ (0 : Int) < (j : Int) := by omega
              have HNil := Lib.hid (show l = [] from List.length_eq_zero_iff.1 (by omega))
              clear hnil
              go_wp2_with fail
              go_meet
              case rel => exact ⟨A8, n8, c8, rfl, by rw [if_pos HNil.out]; exact HO8.out, HG.out⟩
            · have i16 : (0 : Int) < (j : Int) := by omega
              have HNil := Lib.hid (show l ≠ [] from fun e => by rw [e] at hl; simp at hl; omega)
              have HTx := Lib.hid (bin_text A8 n8 c8 s.1 s.2.1 wr.heap.size wr HO8.out.len HO8.out.row (Nat.le_refl _) (by have := HO8.out.len; omega))
              go_wp2_with (first
                | (refine wpList_str8 (dst := some 88) A9 n9 c9 wr.heap.size s.2.1 rfl rfl HO9.out.len HO9.out.row ?_)
                | (go_at_call 52; ((with_reducible refine HTx.out.mono ?_); rintro e w6 ⟨Ab, nb, cb, rfl, hO, hG⟩; have HOb := Lib.hid (Own.lower hO HG.out.size); have HG6 := Lib.hid hG; clear hO hG)))
              go_meet
              case rel => exact ⟨Ab, nb, cb, rfl, by rw [if_neg HNil.out]; exact HOb.out, Grew.trans HG.out HG6.out⟩
          case rest =>
          clear HO8 HO9 HG HGe
          obtain ⟨Ad, nd, cd, rfl, hO, hG⟩ := hcut
          have HOd := Lib.hid hO
          have HGd := Lib.hid hG
          clear hO hG
          have HFl : Hid (∀ (B : Nat) (W : World), Grew w W → Boxed W B 32 (.slice A j c) → Calls Try.prog 54 #[.func (.func 71) #[] #[.pointer (some ⟨B, 0, none⟩)], .int .i64 (j : Int)] W (GivesB W (TabP.filter l j))) := Lib.hid fun B W hG hBx => filter_values A j c B l W ((HI.out.below hG).more hG.size) hBx (fun x hx => Nat.le_trans (TabP.may_len (HMA.out x hx)).1 (by omega)) j (by omega)
          have HBD := Lib.hid (show TabP.body l q = (if l = [] then s.1 else s.1 ++ BinP.text s.2.1) ++ TabP.filter l j by unfold TabP.body; rw [hl, ← HRr.out])
          have hbl := TabP.body_len HMA.out (by omega) q
          have hfl := TabP.filter_len l j
          have hfs := TabP.fsize_le (n := j) (by omega)
          obtain ⟨D, hD⟩ : ∃ D, D = (if l = [] then s.1 else s.1 ++ BinP.text s.2.1) := ⟨_, rfl⟩
          obtain ⟨FL, hFL⟩ : ∃ F, F = TabP.filter l j := ⟨_, rfl⟩
          rw [← hD] at HOd HBD
          rw [← hFL] at HFl HBD hfl
          clear hD hFL HRr HRun hle hah hstl
          have hDl : D.length ≤ 44100000 := by rw [HBD.out, List.length_append] at hbl; omega
          go_upto_region 26 with (first
            | (go_at_call 55; ((refine (values_its A j c _).mono ?_); rintro e w7 ⟨rfl, hBx, hG⟩; have HBx7 := Lib.hid hBx; have HG7 := Lib.hid hG; clear hBx hG))
            | (go_at_call 54; ((with_reducible refine (HFl.out _ _ (Grew.trans HGd.out HG7.out) HBx7.out).mono ?_); rintro e w8 ⟨Af, nf, cf, rfl, hO, hG⟩; have HOf := Lib.hid hO; have HG8 := Lib.hid hG; have HOd8 := Lib.hid (OwnB.below_all (OwnB.below_all HOd.out HG7.out) hG); clear hO hG))
            | (at_builtin; go_loud (refine wpList_app8 rfl (.tmp 90) (.tmp 95) 49 rfl (.inl ⟨_, Try.underlying49⟩) w.heap.size _ _ _ D rfl HOd8.out _ FL (Src.slice (by rw [List.length_map, Nat.mul_one]; exact HOf.out.len) HOf.out.row) (.inl (by have := HOd8.out.len; have := HOf.out.len; omega)) (Nat.le_trans HGd.out.size (Nat.le_trans HG7.out.size HG8.out.size)) ?_; intro A5 c5 w9 hO5 hg5 hB5 hb5)))
          have HO9 := Lib.hid (show OwnB w9 w.heap.size A5 (nd + nf) c5 (TabP.body l q) by rw [HBD.out]; exact hO5)
          have HG9 := Lib.hid (show Grew w w9 from Grew.trans (Grew.trans HGd.out HG7.out) HG8.out |> fun h => Below.trans h hB5)
          clear hO5 hg5 hB5 hb5 HOd HOd8 HOf HFl HG7 HG8 HBx7 HGd HBD
          obtain ⟨nB, hnB⟩ : ∃ m, m = nd + nf := ⟨_, rfl⟩
          rw [← hnB] at HO9 ⊢
          have hBn := HO9.out.len
          have hnB2 : nB ≤ 44100000 := by omega
          clear hnB
          have i20 : (nB : Int) ≤ 44100000 := by omega
          go_upto_region 27 with fail
          obtain ⟨wA, hwA⟩ : ∃ W, W = w9.alloc (.cells #[.int .u8 ((nB : Int) % 256), .int .u8 ((nB : Int) / 256 % 256), .int .u8 ((nB : Int) / 65536 % 256), .int .u8 ((nB : Int) / 16777216)] 5) := ⟨_, rfl⟩
          have HL4 := Lib.hid (show OwnB wA w.heap.size (some ⟨w9.heap.size, 0, none⟩) 4 4 (TabP.le32 nB) by rw [hwA]; exact Own.lower (own_le32 nB (by omega) w9) HG9.out.size)
          have HBA := Lib.hid (show OwnB wA w.heap.size A5 nB c5 (TabP.body l q) by rw [hwA]; exact Own.alloc HO9.out _)
          have HGA := Lib.hid (show Grew w wA by rw [hwA]; exact HG9.out.alloc HG9.out.size _)
          have hrow := HBA.out.row
          rw [hwA] at HL4 hrow
          have hzA := HGA.out.size
          rw [hwA] at hzA
          go_upto_region 28 with (at_builtin; go_loud (refine wpList_app8 rfl (.tmp 111) (.tmp 112) 49 rfl (.inl ⟨_, Try.underlying49⟩) w.heap.size _ _ _ (TabP.le32 nB) rfl HL4.out _ (TabP.body l q) (Src.slice (by rw [List.length_map, Nat.mul_one]; exact HO9.out.len) hrow) (.inl (by omega)) hzA ?_; intro AB cB wB hOB hgB hBB hbB))
          have HHD := Lib.hid (show TabP.head l q = TabP.le32 nB ++ TabP.body l q by unfold TabP.head; rw [hBn])
          have HOH := Lib.hid (show OwnB wB w.heap.size AB (4 + nB) cB (TabP.head l q) by rw [HHD.out]; exact hOB)
          have HGB := Lib.hid (show Grew w wB by rw [← hwA] at hBB hzA; exact Below.trans HGA.out hBB)
          clear hOB hgB hBB hbB hrow HL4 HBA HGA hwA hzA HO9 HG9 HHD
          obtain ⟨nH, hnH⟩ : ∃ m, m = 4 + nB := ⟨_, rfl⟩
          rw [← hnH] at HOH ⊢
          have hHn := HOH.out.len
          have hnH2 : nH ≤ 44100004 := by omega
          clear hnH
          obtain ⟨sm, hsm⟩ : ∃ z : BitVec 32, z = CrcP.sum (TabP.head l q) := ⟨_, rfl⟩
          have HSm := Lib.hid (show Calls Try.prog 56 #[.slice AB nH cB] wB fun e w' => e = .returned (.int .u32 (bv32 sm)) ∧ wB = w' by rw [hsm]; exact crc_sum AB nH cB (TabP.head l q) wB.heap.size wB HOH.out.len HOH.out.row (by unfold maxLen; omega))
          have HBU := Lib.hid (show TabP.build l q = TabP.head l q ++ TabP.le32 sm.toNat by unfold TabP.build; rw [← hsm])
          clear hsm
          have hs0 := u32_bd sm
          unfold bv32 at *
          have hs32 := sm.isLt
          obtain ⟨z, hz⟩ : ∃ z : Nat, z = sm.toNat := ⟨_, rfl⟩
          rw [← hz] at HSm HBU hs0 hs32
          clear hz
          go_upto_region 29 with (go_at_call 56; ((with_reducible refine HSm.out.mono ?_); rintro e w2 ⟨rfl, rfl⟩))
          obtain ⟨wC, hwC⟩ : ∃ W, W = wB.alloc (.cells #[.int .u8 ((z : Int) % 256), .int .u8 ((z : Int) / 256 % 256), .int .u8 ((z : Int) / 65536 % 256), .int .u8 ((z : Int) / 16777216)] 5) := ⟨_, rfl⟩
          have HLC := Lib.hid (show OwnB wC wB.heap.size (some ⟨wB.heap.size, 0, none⟩) 4 4 (TabP.le32 z) by rw [hwC]; exact own_le32 z hs32 wB)
          have HOC := Lib.hid (show OwnB wC w.heap.size AB nH cB (TabP.head l q) by rw [hwC]; exact Own.alloc HOH.out _)
          have hzC : w.heap.size ≤ wC.heap.size := by rw [hwC]; have := HGB.out.size; simp; omega
          have HGC := Lib.hid (show Grew w wC by rw [hwC]; exact HGB.out.alloc HGB.out.size _)
          have hrowC := HLC.out.row
          rw [hwC] at hrowC HOC hzC
          go_wp2_with (at_builtin; go_loud (refine wpList_app8 rfl (.tmp 116) (.tmp 128) 49 rfl (.inl ⟨_, Try.underlying49⟩) w.heap.size _ _ _ (TabP.head l q) rfl HOC.out _ (TabP.le32 z) (Src.slice rfl hrowC) (.inl (by omega)) hzC ?_; intro AF cF wF hOF hgF hBF hbF))
          go_ret2
          exact ⟨AF, nH + 4, cF, by rw [HE.out]; rfl, by rw [HB.out, HBU.out]; exact hOF, by rw [← hwC] at hBF; exact Below.trans HGC.out hBF⟩
end Go.Proofs.Ytkkeodfoiffofaa
