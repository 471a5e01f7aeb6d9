/- A table that is opened: what stands in memory. -/
import Derived.Test.YtkkeodfoiffofaaTabA
import Derived.Test.YtkkeodfoiffofaaTabC
import Derived.Test.YtkkeodfoiffofaaTabE
import Derived.Test.YtkkeodfoiffofaaValIter
import Derived.Test.YtkkeodfoiffofaaTabBuild
import Derived.Test.YtkkeodfoiffofaaRefMay
import Derived.Test.YtkkeodfoiffofaaRefSorted
namespace Go.Proofs.Ytkkeodfoiffofaa
open Go.RowKit
set_option linter.unusedVariables false
structure OpenI (w : World) (T lo hi g : Nat) (A1 : Option Addr) (n1 c1 : Nat) (l : List It) (bk flt : Value) (st : BinP.St) (W : World) : Prop where
  rd : RdS W (lo, hi) g st
  obj : W.heap[T]? = some (TabV A1 n1 c1 bk flt)
  own : OwnI W (T + 1) A1 n1 c1 l
  row : ∀ k, blk A1 = some k → hi ≤ k
  bel : Below w.heap.size w W
  wT : w.heap.size ≤ T
  Tlo : T < lo
  hi_ : hi ≤ W.heap.size
section
variable {w W W' : World} {T lo hi g n1 c1 : Nat} {A1 : Option Addr} {l : List It} {bk flt : Value} {st st' : BinP.St}
theorem OpenI.read (h : OpenI w T lo hi g A1 n1 c1 l bk flt st W) (hr : RdS W' (lo, hi) g st') (hg : W.grownBy W' (some g)) : OpenI w T lo hi g A1 n1 c1 l bk flt st' W' := by
  have hb := (RdS.base_le h.rd).1
  have h1 := h.Tlo
  have h2 := h.wT
  simp only at hb
  refine ⟨hr, (hg.block T (lt_of_blk h.obj) (fun e => by injection e with e; omega)).trans h.obj, Own.grown h.own hg (.inr fun e => by have := h.row g e; omega), h.row, h.bel.grown hg (by have := h.bel.size; omega) (fun k e => by injection e with e; omega), h2, h1, Nat.le_trans h.hi_ hg.size⟩
theorem OpenI.grew (h : OpenI w T lo hi g A1 n1 c1 l bk flt st W) (hg : Grew W W') : OpenI w T lo hi g A1 n1 c1 l bk flt st W' :=
  ⟨h.rd.below hg, (hg.block T (lt_of_blk h.obj)).trans h.obj, Own.below_all h.own hg, h.row, Below.trans h.bel (Below.mono hg h.bel.size), h.wT, h.Tlo, Nat.le_trans h.hi_ hg.size⟩
/-- the block's size is kept -/
theorem OpenI.set1 (h : OpenI w T lo hi g A1 n1 c1 l bk flt st W) (v : Value) : OpenI w T lo hi g A1 n1 c1 l v flt st (W.setCell ⟨T, 1, none⟩ v) := by
  have h1 := h.Tlo
  have h2 := h.wT
  have hs : W.grownBy (W.setCell ⟨T, 1, none⟩ v) (some T) := grown_setCells T [v] 1 W
  exact ⟨h.rd.other hs (.inl h1), heap_setCell_at W T 1 _ _ _ _ h.obj, Own.setCell h.own (fun e => by have := (Own.lt h.own T e).1; omega) _, h.row, h.bel.grown hs (by have := h.bel.size; omega) (fun k e => by injection e with e; omega), h2, h1, Nat.le_trans h.hi_ hs.size⟩
/-- a block was read -/
theorem OpenI.part {A2 : Option Addr} {n2 c2 : Nat} {l2 : List It} (h : OpenI w T lo hi g A1 n1 c1 l bk flt st W) (ho : W'.heap[T]? = some (TabV A2 n2 c2 bk flt)) (hw : OwnI W' (T + 1) A2 n2 c2 l2) (hb : But T A1 W W') (hr : ∀ k, blk A2 = some k → (blk A1 = some k ∧ k < W.heap.size) ∨ W.heap.size ≤ k) :
    OpenI w T lo hi g A2 n2 c2 l2 bk flt st W' := by
  have h1 := h.Tlo
  have h2 := h.wT
  have h3 := h.hi_
  refine ⟨h.rd.keep hb.size fun k hk hb1 hb2 => hb.block k hk (by simp only at hb1; omega) (fun e => by have := h.row k e; simp only at hb2; omega), ho, hw, fun k e => ?_, Below.trans h.bel ?_, h2, h1, Nat.le_trans h3 hb.size⟩
  · rcases hr k e with ⟨h4, _⟩ | h4
    · exact h.row k h4
    · omega
  · exact (hb.below (by have := lt_of_blk h.obj; omega) (fun k e => by have := (Own.lt h.own k e).1; omega)).mono h2
end
theorem bytes_equal (A : Option Addr) (n c : Nat) (l : List UInt8) (A2 : Option Addr) (n2 c2 : Nat) (l2 : List UInt8) (B B2 : Nat) (w : World) (hn : l.length = n) (hr : Row w B A (l.map b8)) (hn2 : l2.length = n2) (hr2 : Row w B2 A2 (l2.map b8)) :
    Calls Try.prog 63 #[.slice A n c, .slice A2 n2 c2] w fun e w' => e = .returned (.bool (l == l2)) ∧ w = w' := by
  go_enter Try.func63, Try.ntmps63
  go_wp2_with (first | (refine wpList_str8 (dst := some 6) A n c B l rfl rfl hn hr ?_) | (refine wpList_str8 (dst := some 8) A2 n2 c2 B2 l2 rfl rfl hn2 hr2 ?_))
  go_ret
  exact ⟨rfl, rfl⟩
end Go.Proofs.Ytkkeodfoiffofaa
namespace Go.Proofs.Ytkkeodfoiffofaa
open Go.RowKit
set_option linter.unusedVariables false
theorem or_apart32 (a b k : Nat) (ha : a < 2 ^ k) (h : a + b * 2 ^ k < 4294967296) : bits .or .u32 (a : Int) ((b * 2 ^ k : Nat) : Int) = ((a + b * 2 ^ k : Nat) : Int) := by
  rw [u32_or_nat _ _ (by omega) (by omega), Nat.or_comm, Nat.mul_comm b, ← Nat.two_pow_add_eq_or_of_lt ha, Nat.add_comm]
theorem or_four32 (a b x y : UInt8) : bits .or .u32 (bits .or .u32 (bits .or .u32 (a.toNat : Int) ((b.toNat : Int) * 256)) ((x.toNat : Int) * 65536)) ((y.toNat : Int) * 16777216) = ((a.toNat + b.toNat * 256 + x.toNat * 65536 + y.toNat * 16777216 : Nat) : Int) := by
  have ha := a.toNat_lt; have hb := b.toNat_lt; have hx := x.toNat_lt; have hy := y.toNat_lt
  have e1 := or_apart32 a.toNat b.toNat 8 (by omega) (by omega)
  have e2 := or_apart32 (a.toNat + b.toNat * 2 ^ 8) x.toNat 16 (by omega) (by omega)
  have e3 := or_apart32 (a.toNat + b.toNat * 2 ^ 8 + x.toNat * 2 ^ 16) y.toNat 24 (by omega) (by omega)
  have f1 : ((b.toNat : Int) * 256) = ((b.toNat * 2 ^ 8 : Nat) : Int) := by omega
  have f2 : ((x.toNat : Int) * 65536) = ((x.toNat * 2 ^ 16 : Nat) : Int) := by omega
  have f3 : ((y.toNat : Int) * 16777216) = ((y.toNat * 2 ^ 24 : Nat) : Int) := by omega
  rw [f1, f2, f3, e1, e2, e3]
def itemsN (T : Nat) (W : World) : Nat := match W.cell? ⟨T, 0, none⟩ with
  | some (.slice _ n _) => n
  | _ => 0
def OpenR (w : World) (r : Option (List It × Nat)) (e : Ending) (w' : World) : Prop :=
  match r with
  | none => e = .returned (.tuple #[.pointer none, .int .i64 7]) ∧ Grew w w'
  | some (l, k) => ∃ T A n c F nf cf, e = .returned (.tuple #[.pointer (some ⟨T, 0, none⟩), .int .i64 0]) ∧ TabW T A n c l k F nf cf (TabP.filter l l.length) w' ∧ w.heap.size ≤ T ∧ T < w'.heap.size ∧ Grew w w'
/-- the same, and its rows are fresh -/
def OpenS (w : World) (r : Option (List It × Nat)) (e : Ending) (w' : World) : Prop :=
  match r with
  | none => e = .returned (.tuple #[.pointer none, .int .i64 7]) ∧ Grew w w'
  | some (l, k) => ∃ T A n c F nf cf, e = .returned (.tuple #[.pointer (some ⟨T, 0, none⟩), .int .i64 0]) ∧ TabW T A n c l k F nf cf (TabP.filter l l.length) w' ∧ w.heap.size ≤ T ∧ T < w'.heap.size ∧ Grew w w' ∧ ∀ g, blk A = some g ∨ blk F = some g → w.heap.size ≤ g
theorem openS_none {w : World} {e : Ending} {w' : World} {r : Option (List It × Nat)} (hr : r = none) (h1 : e = .returned (.tuple #[.pointer none, .int .i64 7])) (h2 : Grew w w') : OpenS w r e w' := by
  rw [hr]
  exact ⟨h1, h2⟩
set_option maxRecDepth 100000 in
set_option maxHeartbeats 4000000 in
theorem tab_openS (A : Option Addr) (n c : Nat) (b : List UInt8) (w : World) (hn : b.length = n) (hnc : n ≤ c) (hc : c ≤ maxLen) (hr : Row w w.heap.size A (b.map b8)) (hm : n ≤ 1000000000) :
    Calls Try.prog 31 #[.slice A n c] w (OpenS w (TabP.openP b)) := by
  unfold maxLen at hc
  by_cases h8 : n < 8
  · have i1 : (n : Int) < 8 := by omega
    have HN := Lib.hid (show TabP.openP b = none by unfold TabP.openP; rw [if_pos (by omega)])
    clear hr
    go_enter Try.func31, Try.ntmps31
    go_wp2_with fail
    go_ret2
    exact openS_none HN.out rfl (Grew.refl _)
  have i1 : ¬ (n : Int) < 8 := by omega
  obtain ⟨x0, h0⟩ : ∃ x, b[0]? = some x := ⟨_, List.getElem?_eq_getElem (by omega)⟩
  obtain ⟨x1, h1⟩ : ∃ x, b[1]? = some x := ⟨_, List.getElem?_eq_getElem (by omega)⟩
  obtain ⟨x2, h2⟩ : ∃ x, b[2]? = some x := ⟨_, List.getElem?_eq_getElem (by omega)⟩
  obtain ⟨x3, h3⟩ : ∃ x, b[3]? = some x := ⟨_, List.getElem?_eq_getElem (by omega)⟩
  have HLe := Lib.hid (show TabP.le4 b = x0.toNat + x1.toNat * 256 + x2.toNat * 65536 + x3.toNat * 16777216 by unfold TabP.le4; simp only [List.getD_eq_getElem?_getD, h0, h1, h2, h3, Option.getD_some])
  have HR := Lib.hid hr
  obtain ⟨ad, rfl, _, c0⟩ := hr 0 (b8 x0) (by simp [h0])
  have hsp : ad.spot = none := spot_none (w := w) (ad := ad) c0
  obtain ⟨gA, oA, sp⟩ := ad
  simp only at hsp
  subst hsp
  obtain ⟨ad', e, _, c1⟩ := hr 1 (b8 x1) (by simp [h1])
  injection e with e; subst e
  obtain ⟨ad', e, _, c2⟩ := hr 2 (b8 x2) (by simp [h2])
  injection e with e; subst e
  obtain ⟨ad', e, _, c3⟩ := hr 3 (b8 x3) (by simp [h3])
  injection e with e; subst e
  have k0 : w.cell? ⟨gA, oA, none⟩ = some (b8 x0) := c0
  have k1 : w.cell? ⟨gA, oA + 1, none⟩ = some (b8 x1) := c1
  have k2 : w.cell? ⟨gA, oA + 2, none⟩ = some (b8 x2) := c2
  have k3 : w.cell? ⟨gA, oA + 3, none⟩ = some (b8 x3) := c3
  have ha := x0.toNat_lt; have hb := x1.toNat_lt; have hx := x2.toNat_lt; have hy := x3.toNat_lt
  have hor := or_four32 x0 x1 x2 x3
  obtain ⟨z, hz⟩ : ∃ z, z = x0.toNat + x1.toNat * 256 + x2.toNat * 65536 + x3.toNat * 16777216 := ⟨_, rfl⟩
  rw [← hz] at hor HLe
  have hz32 : z < 4294967296 := by omega
  have j1 : (1 : Int) < (n : Int) := by omega
  have j2 : (2 : Int) < (n : Int) := by omega
  have j3 : (3 : Int) < (n : Int) := by omega
  have j0 : (0 : Int) < (n : Int) := by omega
  clear hr h0 h1 h2 h3 c0 c1 c2 c3 hz
  go_enter Try.func31, Try.ntmps31
  go_upto_region 3 with fail
  go_quiet (fail)
  go_upto_region 4 with fail
  by_cases hz : z = n - 8
  · have i2 : ((z : Int) == (n : Int) - 8) = true := by rw [beq_iff_eq]; omega
    have HZ := Lib.hid hz
    have HG1 := Lib.hid (Grew.drewN w nq)
    obtain ⟨w1, hw1⟩ : ∃ W, W = w.drewN nq := ⟨_, rfl⟩
    rw [← hw1] at HG1 ⊢
    clear hz hw1 hor k0 k1 k2 k3
    have HR1 := Lib.hid (HR.out.below HG1.out)
    have HOP : Hid (TabP.openP b = TabP.openQ b (BinP.pInt 1000 (some (TabP.inner b))) (BinP.pInt 10000 (BinP.pInt 1000 (some (TabP.inner b))).2)) := Lib.hid (by unfold TabP.openP; rw [if_neg (by omega), if_neg (by rw [HLe.out, hn]; exact fun h => h HZ.out)])
    obtain ⟨bk, st1, hA⟩ : ∃ x y, BinP.pInt 1000 (some (TabP.inner b)) = (x, y) := ⟨_, _, rfl⟩
    obtain ⟨many, st2, hB⟩ : ∃ x y, BinP.pInt 10000 st1 = (x, y) := ⟨_, _, rfl⟩
    have hbk : bk ≤ 1000 := by have := TabP.pInt_le (st := some (TabP.inner b)) (most := 1000) (by omega); rw [hA] at this; simp only at this; omega
    have hmy : many ≤ 10000 := by have := TabP.pInt_le (st := st1) (most := 10000) (by omega); rw [hB] at this; simp only at this; omega
    have hlf : BinP.left st2 ≤ 1000000000 := by
      have h1 := TabP.pInt_left 1000 (some (TabP.inner b))
      have h2 := TabP.pInt_left 10000 st1
      rw [hA] at h1
      rw [hB] at h2
      have h3 : BinP.left (some (TabP.inner b)) ≤ n := by show (TabP.inner b).length ≤ n; unfold TabP.inner; rw [List.length_take, List.length_drop]; omega
      simp only at h1 h2
      omega
    rw [hA] at HOP
    simp only at HOP
    rw [hB] at HOP
    have hil : (TabP.inner b).length = n - 4 - 4 := by unfold TabP.inner; rw [List.length_take, List.length_drop]; omega
    obtain ⟨wT, hwT⟩ : ∃ W, W = w1.alloc (.cells #[.slice none 0 0, .int .i64 0, .slice none 0 0] 87) := ⟨_, rfl⟩
    have HGT := Lib.hid (show Grew w wT by rw [hwT]; exact Grew.trans HG1.out (grew_new w1 _))
    have hrow : Row wT wT.heap.size (some ⟨gA, oA + 4, none⟩) ((TabP.inner b).map b8) := fun j u hu => by
      obtain ⟨ad', e, hb1, hc1⟩ := (HR.out.below HGT.out) (4 + j) u (by
        unfold TabP.inner at hu
        rw [List.map_take, List.map_drop, List.getElem?_take] at hu
        split at hu
        · rwa [List.getElem?_drop] at hu
        · cases hu)
      injection e with e
      subst e
      exact ⟨_, rfl, Nat.lt_of_lt_of_le hb1 HGT.out.size, by rw [add_off, Nat.add_assoc]; rw [add_off] at hc1; exact hc1⟩
    have HRd := Lib.hid (bin_read (some ⟨gA, oA + 4, none⟩) (n - 4 - 4) (c - 4) (TabP.inner b) wT.heap.size wT hil hrow (Nat.le_refl _) (by omega))
    rw [hwT] at HRd
    have hTobj : wT.heap[w1.heap.size]? = some (TabV none 0 0 (.int .i64 0) (.slice none 0 0)) := by rw [hwT]; exact heap_alloc_new w1 _
    have hTs : wT.heap.size = w1.heap.size + 1 := by rw [hwT]; simp
    clear hrow HR1
    go_upto_region 8 with (go_at_call 57; ((with_reducible refine HRd.out.mono ?_); rintro e w2 ⟨g, rfl, hR, hG⟩))
    rw [← hwT] at hR hG
    have HP := Lib.hid (show OpenI w w1.heap.size wT.heap.size w2.heap.size g none 0 0 [] (.int .i64 0) (.slice none 0 0) (some (TabP.inner b)) w2 from
      ⟨hR, (hG.block _ (lt_of_blk hTobj)).trans hTobj, OwnI.nil _ _, (fun k e => by cases e), Grew.trans HGT.out hG, HG1.out.size, by omega, Nat.le_refl _⟩)
    obtain ⟨T, hT⟩ : ∃ x, x = w1.heap.size := ⟨_, rfl⟩
    obtain ⟨lo, hlo⟩ : ∃ x, x = wT.heap.size := ⟨_, rfl⟩
    obtain ⟨hi, hhi⟩ : ∃ x, x = w2.heap.size := ⟨_, rfl⟩
    rw [← hT, ← hlo, ← hhi] at HP
    rw [← hT]
    have hT8 : w.heap.size ≤ T := by rw [hT]; exact HG1.out.size
    clear hR hG hTobj hTs hT hlo hhi HGT HRd hwT HG1
    have HR1 := Lib.hid (fun (W : World) (h : OpenI w T lo hi g none 0 0 [] (.int .i64 0) (.slice none 0 0) (some (TabP.inner b)) W) => by have := rd_int g (some (TabP.inner b)) (lo, hi) W 1000 (by decide) h.rd; rw [hA] at this; exact this)
    have HR2 := Lib.hid (fun (W : World) (h : OpenI w T lo hi g none 0 0 [] (.int .i64 (bk : Int)) (.slice none 0 0) st1 W) => by have := rd_int g st1 (lo, hi) W 10000 (by decide) h.rd; rw [hB] at this; exact this)
    clear hA hB
    go_upto_region 9 with (go_at_call 58; ((refine (HR1.out _ HP.out).mono ?_); rintro e w3 ⟨rfl, hR, hG⟩; have HP := Lib.hid (HP.out.read hR hG); (obtain ⟨t0, t1, t2, tf⟩ := tabv_cell HP.out.obj); have f1 := tf 1; clear hR hG tf))
    have HP := Lib.hid (HP.out.set1 (.int .i64 (bk : Int)))
    obtain ⟨w4, hw4⟩ : ∃ W, W = w3.setCell ⟨T, 1, none⟩ (.int .i64 (bk : Int)) := ⟨_, rfl⟩
    rw [← hw4] at HP ⊢
    clear hw4 t0 t1 t2 f1
    go_upto_region 10 with (go_at_call 58; ((refine (HR2.out _ HP.out).mono ?_); rintro e w5 ⟨rfl, hR, hG⟩; have HP := Lib.hid (HP.out.read hR hG); clear hR hG))
    clear HR1 HR2
    obtain ⟨PR, hPR⟩ : ∃ R, R = TabP.partsF 10001 bk many [] st2 := ⟨_, rfl⟩
    have HPR := Lib.hid hPR
    have HP0 := HP
    clear hPR HP
    go_loopw [87] (fun _ wy => ∃ (A1 : Option Addr) (n1 c1 : Nat) (l1 : List It) (st : BinP.St) (f : Nat), OpenI w T lo hi g A1 n1 c1 l1 (.int .i64 (bk : Int)) (.slice none 0 0) st wy ∧ TabP.partsF f bk many l1 st = PR ∧ many - l1.length < f ∧ (∀ x ∈ l1, x.seq < m64) ∧ n1 ≤ many ∧ BinP.left st ≤ 1000000000) (fun _ wy => many - itemsN T wy)
    case atStart => exact ⟨none, 0, 0, [], st2, 10001, HP0.out, HPR.out.symm, by simp; omega, (fun x h => by cases h), Nat.zero_le _, hlf⟩
    case round =>
      obtain ⟨A1, n1, c1, l1, st, f, hP, hpf, hf, hq, hn1, hlf1⟩ := hrel
      have HP := Lib.hid hP
      have HPF := Lib.hid hpf
      have HQ := Lib.hid hq
      have hl1 : l1.length = n1 := (hP.own.is (Nat.le_refl _)).len
      obtain ⟨t0, t1, t2, tf⟩ := tabv_cell hP.obj
      clear hP hpf hq HP0 tf
      by_cases hlt : n1 < many
      · have i5 : (n1 : Int) < (many : Int) := by omega
        rcases st with _ | r
        · have HPF := Lib.hid (show PR = some (l1, none) by
            obtain ⟨f', rfl⟩ : ∃ g, f = g + 1 := ⟨f - 1, by omega⟩
            have := HPF.out
            unfold TabP.partsF at this
            rw [if_pos (by omega)] at this
            exact this.symm)
          have HNo := Lib.hid (show TabP.openP b = none by rw [HOP.out]; unfold TabP.openQ; simp only; rw [← HPR.out, HPF.out])
          have HRe := Lib.hid (fun (W : World) (h : OpenI w T lo hi g A1 n1 c1 l1 (.int .i64 (bk : Int)) (.slice none 0 0) none W) => rd_err g none (lo, hi) W h.rd)
          go_upto_region 13 with (go_at_call 59; ((refine (HRe.out _ HP.out).mono ?_); rintro e wE ⟨rfl, rfl⟩; rw [errN_none]))
          have HC := Lib.hid (HP.out.grew (Grew.drewN wr 1))
          refine wp_region_c (fun V => OpenI w T lo hi g A1 n1 c1 l1 (.int .i64 (bk : Int)) (.slice none 0 0) none V) (by kernel_rfl) HC.out ?_
          have hcell := fun V : { V : World // OpenI w T lo hi g A1 n1 c1 l1 (.int .i64 (bk : Int)) (.slice none 0 0) none V } => (And.intro (tabv_cell V.2.obj).1 (tabv_cell V.2.obj).2.1)
          (refine wpAnyC_free 0 (oi := ⟨some 89, _, _, _, _, _⟩) (v := ?_) rfl (by kernel_rfl) (by kernel_rfl) (by kernel_rfl) HC.out rfl (fun x => ?_) ?_; rotate_left; (focus (simp [go_sem]; (try go_ints); first | done | (with_reducible rfl))); (simp only [Act.put, List.setIfInBounds_toArray, List.set_cons_succ, List.set_cons_zero]))
          (refine wpAnyC_free 1 (oi := ⟨some 90, _, _, _, _, _⟩) (v := ?_) rfl (by kernel_rfl) (by kernel_rfl) (by kernel_rfl) HC.out rfl (fun x => ?_) ?_; rotate_left; (focus (simp [go_sem]; (try go_ints); first | done | (with_reducible rfl))); (simp only [Act.put, List.setIfInBounds_toArray, List.set_cons_succ, List.set_cons_zero]))
          (refine wpAnyC_free 2 (oi := ⟨some 91, _, _, _, _, _⟩) (v := ?_) rfl (by kernel_rfl) (by kernel_rfl) (by kernel_rfl) HC.out rfl (fun x => ?_) ?_; rotate_left; (focus (simp [go_sem]; (try go_ints); first | done | (with_reducible rfl))); (simp only [Act.put, List.setIfInBounds_toArray, List.set_cons_succ, List.set_cons_zero]))
          (refine wpAnyC_free 3 (oi := ⟨some 92, _, _, _, _, _⟩) (v := ?_) rfl (by kernel_rfl) (by kernel_rfl) (by kernel_rfl) HC.out rfl (fun x => ?_) ?_; rotate_left; (focus (simp [go_sem, hcell]; (try go_ints); first | done | (with_reducible rfl))); (simp only [Act.put, List.setIfInBounds_toArray, List.set_cons_succ, List.set_cons_zero]))
          (refine wpAnyC_free 4 (oi := ⟨some 93, _, _, _, _, _⟩) (v := ?_) rfl (by kernel_rfl) (by kernel_rfl) (by kernel_rfl) HC.out rfl (fun x => ?_) ?_; rotate_left; (focus (simp [go_sem]; (try go_ints); first | done | (with_reducible rfl))); (simp only [Act.put, List.setIfInBounds_toArray, List.set_cons_succ, List.set_cons_zero]))
          (refine wpAnyC_free 5 (oi := ⟨some 94, _, _, _, _, _⟩) (v := ?_) rfl (by kernel_rfl) (by kernel_rfl) (by kernel_rfl) HC.out rfl (fun x => ?_) ?_; rotate_left; (focus (simp [go_sem]; (try go_ints); first | done | (with_reducible rfl))); (simp only [Act.put, List.setIfInBounds_toArray, List.set_cons_succ, List.set_cons_zero]))
          (refine wpAnyC_free 6 (oi := ⟨some 95, _, _, _, _, _⟩) (v := ?_) rfl (by kernel_rfl) (by kernel_rfl) (by kernel_rfl) HC.out rfl (fun x => ?_) ?_; rotate_left; (focus (simp [go_sem]; (try go_ints); first | done | (with_reducible rfl))); (simp only [Act.put, List.setIfInBounds_toArray, List.set_cons_succ, List.set_cons_zero]))
          (refine wpAnyC_free 7 (oi := ⟨some 96, _, _, _, _, _⟩) (v := ?_) rfl (by kernel_rfl) (by kernel_rfl) (by kernel_rfl) HC.out rfl (fun x => ?_) ?_; rotate_left; (focus (simp [go_sem, hcell]; (try go_ints); first | done | (with_reducible rfl))); (simp only [Act.put, List.setIfInBounds_toArray, List.set_cons_succ, List.set_cons_zero]))
          clear hcell
          change wpAnyC _ _ _ _ _ _ _ _ (World.drewN wr 1)
          refine wpAnyC_step 8 (o := ⟨some 97, _, _, _, _, _⟩) rfl (by kernel_rfl) rfl ?_
          refine wpList_callR rfl _ _ (fun v w' => ∃ Ab nb cb, v = .tuple #[.slice Ab nb cb, .int .i64 (TabP.buildE l1 (bk : Int))] ∧ OwnB w' (World.drewN wr 1).heap.size Ab nb cb (TabP.buildB l1 (bk : Int)) ∧ OpenI w T lo hi g A1 n1 c1 l1 (.int .i64 (bk : Int)) (.slice none 0 0) none w') (by simp [go_sem]) ((tab_build A1 n1 c1 l1 (bk : Int) _ (HC.out.own.is (Nat.le_refl _)) HQ.out (by simp [Lit.wf, IntKind.min, IntKind.max, IntKind.signed, IntKind.bits]; omega)).mono fun e w' ⟨Ab, nb, cb, h1, h2, h3⟩ => ⟨_, h1, Ab, nb, cb, rfl, h2, HC.out.grew h3⟩) ?_
          rintro v wb ⟨Ab, nb, cb, rfl, hOb, hPb⟩
          have HOb := Lib.hid hOb
          have HC := Lib.hid hPb
          clear hOb hPb
          (simp only [Act.put, List.setIfInBounds_toArray, List.set_cons_succ, List.set_cons_zero])
          refine wpList_nil ⟨rfl, HC.out, ?_⟩
          (refine wpAnyC_free 9 (oi := ⟨some 88, _, _, _, _, _⟩) (v := ?_) rfl (by kernel_rfl) (by kernel_rfl) (by kernel_rfl) HC.out rfl (fun x => ?_) ?_; rotate_left; (focus (simp [go_sem]; (try go_ints); first | done | (with_reducible rfl))); (simp only [Act.put, List.setIfInBounds_toArray, List.set_cons_succ, List.set_cons_zero]))
          (refine wpAnyC_free 10 (oi := ⟨some 98, _, _, _, _, _⟩) (v := ?_) rfl (by kernel_rfl) (by kernel_rfl) (by kernel_rfl) HC.out rfl (fun x => ?_) ?_; rotate_left; (focus (simp [go_sem]; (try go_ints); first | done | (with_reducible rfl))); (simp only [Act.put, List.setIfInBounds_toArray, List.set_cons_succ, List.set_cons_zero]))
          (refine wpAnyC_free 11 (oi := ⟨some 99, _, _, _, _, _⟩) (v := ?_) rfl (by kernel_rfl) (by kernel_rfl) (by kernel_rfl) HC.out rfl (fun x => ?_) ?_; rotate_left; (focus (simp [go_sem]; (try go_ints); first | done | (with_reducible rfl))); (simp only [Act.put, List.setIfInBounds_toArray, List.set_cons_succ, List.set_cons_zero]))
          (refine wpAnyC_free 12 (oi := ⟨some 8, _, _, _, _, _⟩) (v := ?_) rfl (by kernel_rfl) (by kernel_rfl) (by kernel_rfl) HC.out rfl (fun x => ?_) ?_; rotate_left; (focus (simp [go_sem]; (try go_ints); first | done | (with_reducible rfl))); (simp only [Act.put, List.setIfInBounds_toArray, List.set_cons_succ, List.set_cons_zero]))
          (refine wpAnyC_free 13 (oi := ⟨some 9, _, _, _, _, _⟩) (v := ?_) rfl (by kernel_rfl) (by kernel_rfl) (by kernel_rfl) HC.out rfl (fun x => ?_) ?_; rotate_left; (focus (simp [go_sem]; (try go_ints); first | done | (with_reducible rfl))); (simp only [Act.put, List.setIfInBounds_toArray, List.set_cons_succ, List.set_cons_zero]))
          refine wpAnyC_done (by kernel_rfl) (fun _ => ?_) _
          go_wp2_with (go_at_call 59; ((refine (HRe.out _ HC.out).mono ?_); rintro e wE ⟨rfl, rfl⟩; rw [errN_none]))
          go_ret2
          exact openS_none HNo.out rfl HC.out.bel
        · obtain ⟨t, st', hV⟩ : ∃ x y, BinP.pText (r.length : Int) (some r) = (x, y) := ⟨_, _, rfl⟩
          obtain ⟨mm, hmm'⟩ : ∃ x, x = min bk (many - n1) := ⟨_, rfl⟩
          have im : (if (many : Int) - (n1 : Int) < (bk : Int) then (many : Int) - (n1 : Int) else (bk : Int)) = (mm : Int) := by split <;> omega
          have hmm : mm ≤ 10000 := by omega
          have hmn : n1 + mm ≤ many := by omega
          have hrl : r.length ≤ 1000000000 := hlf1
          have hlf2 := TabP.pText_left (r.length : Int) (some r)
          rw [hV] at hlf2
          have hlf3 : BinP.left st' ≤ 1000000000 := Nat.le_trans hlf2 hlf1
          have htl : t.length ≤ 1000000000 := by have := TabP.pText_le (st := some r) (most := (r.length : Int)) (by omega); rw [hV] at this; simp only at this; omega
          obtain ⟨f, rfl⟩ : ∃ g, f = g + 1 := ⟨f - 1, by omega⟩
          have HSTEP := Lib.hid (show (match TabP.partP t mm l1 with | none => none | some l' => TabP.partsF f bk many l' st') = PR by
            have := HPF.out
            unfold TabP.partsF at this
            rw [if_pos (by omega)] at this
            simp only at this
            rw [hV, hl1, ← hmm'] at this
            exact this)
          have HRt := Lib.hid (fun (W : World) (h : OpenI w T lo hi g A1 n1 c1 l1 (.int .i64 (bk : Int)) (.slice none 0 0) (some r) W) => by have := rd_text g (some r) (lo, hi) W (r.length : Int) (by simp [Lit.wf, IntKind.min, IntKind.max, IntKind.signed, IntKind.bits]; omega) h.rd; rw [hV] at this; exact this)
          have HRe := Lib.hid (fun (W : World) (h : OpenI w T lo hi g A1 n1 c1 l1 (.int .i64 (bk : Int)) (.slice none 0 0) (some r) W) => rd_err g (some r) (lo, hi) W h.rd)
          clear hV hmm' HPF
          go_upto_region 11 with (go_at_call 59; ((refine (HRe.out _ HP.out).mono ?_); rintro e wE ⟨rfl, rfl⟩; rw [errN_some]))
          go_cut [87] from 69 to 87 (fun v wy => ∃ (A2 : Option Addr) (n2 c2 : Nat) (l2 : List It), v = .bool (TabP.partP t mm l1).isNone ∧ OpenI w T lo hi g A2 n2 c2 l2 (.int .i64 (bk : Int)) (.slice none 0 0) st' wy ∧ (∀ l3, TabP.partP t mm l1 = some l3 → l2 = l3 ∧ n2 = n1 + mm) ∧ ∀ x ∈ l2, x.seq < m64)
          case first =>
            have HC := Lib.hid (show (World.drewN wr 1).cell? ⟨T, 1, none⟩ = some (.int .i64 (bk : Int)) from (tabv_cell HP.out.obj).2.1)
            refine wp_region_c (fun V => V.cell? ⟨T, 1, none⟩ = some (.int .i64 (bk : Int))) (by kernel_rfl) HC.out ?_
            have hcl := fun V : { V : World // V.cell? ⟨T, 1, none⟩ = some (.int .i64 (bk : Int)) } => V.2
            (refine wpAnyC_free 0 (oi := ⟨some 69, _, _, _, _, _⟩) (v := ?_) rfl (by kernel_rfl) (by kernel_rfl) (by kernel_rfl) HC.out rfl (fun x => ?_) ?_; rotate_left; (focus (simp [go_sem]; (try go_ints); first | done | (with_reducible rfl))); (simp only [Act.put, List.setIfInBounds_toArray, List.set_cons_succ, List.set_cons_zero]))
            (refine wpAnyC_free 1 (oi := ⟨some 70, _, _, _, _, _⟩) (v := ?_) rfl (by kernel_rfl) (by kernel_rfl) (by kernel_rfl) HC.out rfl (fun x => ?_) ?_; rotate_left; (focus (simp [go_sem]; (try go_ints); first | done | (with_reducible rfl))); (simp only [Act.put, List.setIfInBounds_toArray, List.set_cons_succ, List.set_cons_zero]))
            (refine wpAnyC_free 2 (oi := ⟨some 71, _, _, _, _, _⟩) (v := ?_) rfl (by kernel_rfl) (by kernel_rfl) (by kernel_rfl) HC.out rfl (fun x => ?_) ?_; rotate_left; (focus (simp [go_sem]; (try go_ints); first | done | (with_reducible rfl))); (simp only [Act.put, List.setIfInBounds_toArray, List.set_cons_succ, List.set_cons_zero]))
            (refine wpAnyC_free 5 (oi := ⟨some 74, _, _, _, _, _⟩) (v := ?_) rfl (by kernel_rfl) (by kernel_rfl) (by kernel_rfl) HC.out rfl (fun x => ?_) ?_; rotate_left; (focus (simp [go_sem]; (try go_ints); first | done | (with_reducible rfl))); (simp only [Act.put, List.setIfInBounds_toArray, List.set_cons_succ, List.set_cons_zero]))
            (refine wpAnyC_free 6 (oi := ⟨some 75, _, _, _, _, _⟩) (v := ?_) rfl (by kernel_rfl) (by kernel_rfl) (by kernel_rfl) HC.out rfl (fun x => ?_) ?_; rotate_left; (focus (simp [go_sem]; (try go_ints); first | done | (with_reducible rfl))); (simp only [Act.put, List.setIfInBounds_toArray, List.set_cons_succ, List.set_cons_zero]))
            (refine wpAnyC_free 7 (oi := ⟨some 76, _, _, _, _, _⟩) (v := ?_) rfl (by kernel_rfl) (by kernel_rfl) (by kernel_rfl) HC.out rfl (fun x => ?_) ?_; rotate_left; (focus (simp [go_sem]; (try go_ints); first | done | (with_reducible rfl))); (simp only [Act.put, List.setIfInBounds_toArray, List.set_cons_succ, List.set_cons_zero]))
            (refine wpAnyC_free 8 (oi := ⟨some 77, _, _, _, _, _⟩) (v := ?_) rfl (by kernel_rfl) (by kernel_rfl) (by kernel_rfl) HC.out rfl (fun x => ?_) ?_; rotate_left; (focus (simp [go_sem, hcl]; (try go_ints); first | done | (with_reducible rfl))); (simp only [Act.put, List.setIfInBounds_toArray, List.set_cons_succ, List.set_cons_zero]))
            (refine wpAnyC_free 9 (oi := ⟨some 78, _, _, _, _, _⟩) (v := ?_) rfl (by kernel_rfl) (by kernel_rfl) (by kernel_rfl) HC.out rfl (fun x => ?_) ?_; rotate_left; (focus (simp [go_sem]; (try go_ints); first | done | (with_reducible rfl))); (simp only [Act.put, List.setIfInBounds_toArray, List.set_cons_succ, List.set_cons_zero]))
            (refine wpAnyC_free 10 (oi := ⟨some 79, _, _, _, _, _⟩) (v := ?_) rfl (by kernel_rfl) (by kernel_rfl) (by kernel_rfl) HC.out rfl (fun x => ?_) ?_; rotate_left; (focus (simp [go_sem]; (try go_ints); first | done | (with_reducible rfl))); (simp only [Act.put, List.setIfInBounds_toArray, List.set_cons_succ, List.set_cons_zero]))
            (refine wpAnyC_free 11 (oi := ⟨some 80, _, _, _, _, _⟩) (v := ?_) rfl (by kernel_rfl) (by kernel_rfl) (by kernel_rfl) HC.out rfl (fun x => ?_) ?_; rotate_left; (focus (simp [go_sem]; (try go_ints); first | done | (with_reducible rfl))); (simp only [Act.put, List.setIfInBounds_toArray, List.set_cons_succ, List.set_cons_zero]))
            (refine wpAnyC_free 12 (oi := ⟨some 81, _, _, _, _, _⟩) (v := ?_) rfl (by kernel_rfl) (by kernel_rfl) (by kernel_rfl) HC.out rfl (fun x => ?_) ?_; rotate_left; (focus (simp [go_sem]; (try go_ints); first | done | (with_reducible rfl))); (simp only [Act.put, List.setIfInBounds_toArray, List.set_cons_succ, List.set_cons_zero]))
            clear hcl
            change wpAnyC _ _ _ _ _ _ _ _ (World.drewN wr 1)
            have HP := Lib.hid (HP.out.grew (Grew.drewN wr 1))
            obtain ⟨wd, hwd⟩ : ∃ W, W = World.drewN wr 1 := ⟨_, rfl⟩
            rw [← hwd] at HP HC ⊢
            clear hwd
            refine wpAnyC_fork 3 13 (oi := ⟨some 72, _, _, _, _, _⟩) (oj := ⟨some 82, _, _, _, _, _⟩) rfl rfl (by kernel_rfl) ?_ ?_
            · refine cOp_list 3 (o := ⟨some 72, _, _, _, _, _⟩) rfl rfl ?_
              refine wpList_callR rfl _ _ (fun v w' => v = .int .i64 (r.length : Int) ∧ wd = w') (by simp [go_sem]) ((rd_left g (some r) (lo, hi) wd HP.out.rd).mono fun e w' ⟨h1, h2⟩ => ⟨_, h1, rfl, h2⟩) ?_
              rintro v w' ⟨rfl, rfl⟩
              (simp only [Act.put, List.setIfInBounds_toArray, List.set_cons_succ, List.set_cons_zero])
              refine wpList_nil ⟨rfl, HC.out, ?_⟩
              refine wpAnyC_fork 4 13 (oi := ⟨some 73, _, _, _, _, _⟩) (oj := ⟨some 82, _, _, _, _, _⟩) rfl rfl (by kernel_rfl) ?_ ?_
              · refine cOp_list 4 (o := ⟨some 73, _, _, _, _, _⟩) rfl rfl ?_
                refine wpList_callR rfl _ _ (fun v w' => v = .string ⟨t.toArray⟩ ∧ OpenI w T lo hi g A1 n1 c1 l1 (.int .i64 (bk : Int)) (.slice none 0 0) st' w') (by simp [go_sem]) ((HRt.out _ HP.out).mono fun e w' ⟨h1, h2, h3⟩ => ⟨_, h1, rfl, HP.out.read h2 h3⟩) ?_
                rintro v w6 ⟨rfl, hP⟩
                have HP := Lib.hid hP
                have HC := Lib.hid (tabv_cell hP.obj).2.1
                clear hP
                (simp only [Act.put, List.setIfInBounds_toArray, List.set_cons_succ, List.set_cons_zero])
                refine wpList_nil ⟨rfl, HC.out, ?_⟩
                refine wpAnyC_step 13 (o := ⟨some 82, _, _, _, _, _⟩) rfl (by kernel_rfl) rfl ?_
                refine wpList_value (o := ⟨some 82, _, _, _, _, _⟩) rfl (exec_loadIs (.tmp 81) rfl rfl (tabv_cell HP.out.obj).1) ?_
                (simp only [Act.put, List.setIfInBounds_toArray, List.set_cons_succ, List.set_cons_zero])
                refine wpList_nil ⟨rfl, HC.out, ?_⟩
                (refine wpAnyC_free 14 (oi := ⟨some 83, _, _, _, _, _⟩) (v := ?_) rfl (by kernel_rfl) (by kernel_rfl) (by kernel_rfl) HC.out rfl (fun x => ?_) ?_; rotate_left; (focus (simp [go_sem]; (try go_ints); first | done | (with_reducible rfl))); (simp only [Act.put, List.setIfInBounds_toArray, List.set_cons_succ, List.set_cons_zero]))
                (refine wpAnyC_free 15 (oi := ⟨some 84, _, _, _, _, _⟩) (v := ?_) rfl (by kernel_rfl) (by kernel_rfl) (by kernel_rfl) HC.out rfl (fun x => ?_) ?_; rotate_left; (focus (simp [go_sem]; (try go_ints); first | done | (with_reducible rfl))); (simp only [Act.put, List.setIfInBounds_toArray, List.set_cons_succ, List.set_cons_zero]))
                (refine wpAnyC_free 16 (oi := ⟨some 85, _, _, _, _, _⟩) (v := ?_) rfl (by kernel_rfl) (by kernel_rfl) (by kernel_rfl) HC.out rfl (fun x => ?_) ?_; rotate_left; (focus (simp [go_sem, im]; (try go_ints); first | done | (with_reducible rfl))); (simp only [Act.put, List.setIfInBounds_toArray, List.set_cons_succ, List.set_cons_zero]))
                refine wpAnyC_step 17 (o := ⟨some 86, _, _, _, _, _⟩) rfl (by kernel_rfl) rfl ?_
                refine wpList_callR rfl _ _ (fun v w' => ∃ A2 n2 c2 l2, v = .bool (TabP.partP t mm l1).isSome ∧ OpenI w T lo hi g A2 n2 c2 l2 (.int .i64 (bk : Int)) (.slice none 0 0) st' w' ∧ (∀ l3, TabP.partP t mm l1 = some l3 → l2 = l3 ∧ n2 = n1 + mm) ∧ ∀ x ∈ l2, x.seq < m64) (by simp [go_sem]) ((tab_part T A1 n1 c1 l1 (.int .i64 (bk : Int)) (.slice none 0 0) t mm _ HP.out.obj HP.out.own htl hmm (by omega) HQ.out).mono fun e w' ⟨A2, n2, c2, l2, h1, h2, h3, h4, h5, h6, h7⟩ => ⟨_, h1, A2, n2, c2, l2, rfl, HP.out.part h2 h3 h6 h7, h4, h5⟩) ?_
                rintro v w7 ⟨A2, n2, c2, l2, rfl, hP, h4, h5⟩
                have HP7 := Lib.hid hP
                have HC7 := Lib.hid (tabv_cell hP.obj).2.1
                have H4 := Lib.hid h4
                have H5 := Lib.hid h5
                clear hP h4 h5
                (simp only [Act.put, List.setIfInBounds_toArray, List.set_cons_succ, List.set_cons_zero])
                refine wpList_nil ⟨rfl, HC7.out, ?_⟩
                have HC := HC7
                (refine wpAnyC_free 18 (oi := ⟨some 87, _, _, _, _, _⟩) (v := ?_) rfl (by kernel_rfl) (by kernel_rfl) (by kernel_rfl) HC.out rfl (fun x => ?_) ?_; rotate_left; (focus (simp [go_sem]; (try go_ints); first | done | (with_reducible rfl))); (simp only [Act.put, List.setIfInBounds_toArray, List.set_cons_succ, List.set_cons_zero]))
                refine wpAnyC_done (by kernel_rfl) (fun _ => ?_) _
                clear im
                go_wp2_with fail
                go_meet
                case rel => exact ⟨A2, n2, c2, l2, rfl, HP7.out, H4.out, H5.out⟩
              · refine cOp_list 13 (o := ⟨some 82, _, _, _, _, _⟩) rfl rfl ?_
                refine wpList_value (o := ⟨some 82, _, _, _, _, _⟩) rfl (exec_loadIs (.tmp 81) rfl rfl (tabv_cell HP.out.obj).1) ?_
                (simp only [Act.put, List.setIfInBounds_toArray, List.set_cons_succ, List.set_cons_zero])
                refine wpList_nil ⟨rfl, HC.out, ?_⟩
                (refine wpAnyC_free 14 (oi := ⟨some 83, _, _, _, _, _⟩) (v := ?_) rfl (by kernel_rfl) (by kernel_rfl) (by kernel_rfl) HC.out rfl (fun x => ?_) ?_; rotate_left; (focus (simp [go_sem]; (try go_ints); first | done | (with_reducible rfl))); (simp only [Act.put, List.setIfInBounds_toArray, List.set_cons_succ, List.set_cons_zero]))
                (refine wpAnyC_free 15 (oi := ⟨some 84, _, _, _, _, _⟩) (v := ?_) rfl (by kernel_rfl) (by kernel_rfl) (by kernel_rfl) HC.out rfl (fun x => ?_) ?_; rotate_left; (focus (simp [go_sem]; (try go_ints); first | done | (with_reducible rfl))); (simp only [Act.put, List.setIfInBounds_toArray, List.set_cons_succ, List.set_cons_zero]))
                (refine wpAnyC_free 16 (oi := ⟨some 85, _, _, _, _, _⟩) (v := ?_) rfl (by kernel_rfl) (by kernel_rfl) (by kernel_rfl) HC.out rfl (fun x => ?_) ?_; rotate_left; (focus (simp [go_sem, im]; (try go_ints); first | done | (with_reducible rfl))); (simp only [Act.put, List.setIfInBounds_toArray, List.set_cons_succ, List.set_cons_zero]))
                refine wpAnyC_step 4 (o := ⟨some 73, _, _, _, _, _⟩) rfl (by kernel_rfl) rfl ?_
                refine wpList_callR rfl _ _ (fun v w' => v = .string ⟨t.toArray⟩ ∧ OpenI w T lo hi g A1 n1 c1 l1 (.int .i64 (bk : Int)) (.slice none 0 0) st' w') (by simp [go_sem]) ((HRt.out _ HP.out).mono fun e w' ⟨h1, h2, h3⟩ => ⟨_, h1, rfl, HP.out.read h2 h3⟩) ?_
                rintro v w6 ⟨rfl, hP⟩
                have HP := Lib.hid hP
                have HC := Lib.hid (tabv_cell hP.obj).2.1
                clear hP
                (simp only [Act.put, List.setIfInBounds_toArray, List.set_cons_succ, List.set_cons_zero])
                refine wpList_nil ⟨rfl, HC.out, ?_⟩
                refine wpAnyC_step 17 (o := ⟨some 86, _, _, _, _, _⟩) rfl (by kernel_rfl) rfl ?_
                refine wpList_callR rfl _ _ (fun v w' => ∃ A2 n2 c2 l2, v = .bool (TabP.partP t mm l1).isSome ∧ OpenI w T lo hi g A2 n2 c2 l2 (.int .i64 (bk : Int)) (.slice none 0 0) st' w' ∧ (∀ l3, TabP.partP t mm l1 = some l3 → l2 = l3 ∧ n2 = n1 + mm) ∧ ∀ x ∈ l2, x.seq < m64) (by simp [go_sem]) ((tab_part T A1 n1 c1 l1 (.int .i64 (bk : Int)) (.slice none 0 0) t mm _ HP.out.obj HP.out.own htl hmm (by omega) HQ.out).mono fun e w' ⟨A2, n2, c2, l2, h1, h2, h3, h4, h5, h6, h7⟩ => ⟨_, h1, A2, n2, c2, l2, rfl, HP.out.part h2 h3 h6 h7, h4, h5⟩) ?_
                rintro v w7 ⟨A2, n2, c2, l2, rfl, hP, h4, h5⟩
                have HP7 := Lib.hid hP
                have HC7 := Lib.hid (tabv_cell hP.obj).2.1
                have H4 := Lib.hid h4
                have H5 := Lib.hid h5
                clear hP h4 h5
                (simp only [Act.put, List.setIfInBounds_toArray, List.set_cons_succ, List.set_cons_zero])
                refine wpList_nil ⟨rfl, HC7.out, ?_⟩
                have HC := HC7
                (refine wpAnyC_free 18 (oi := ⟨some 87, _, _, _, _, _⟩) (v := ?_) rfl (by kernel_rfl) (by kernel_rfl) (by kernel_rfl) HC.out rfl (fun x => ?_) ?_; rotate_left; (focus (simp [go_sem]; (try go_ints); first | done | (with_reducible rfl))); (simp only [Act.put, List.setIfInBounds_toArray, List.set_cons_succ, List.set_cons_zero]))
                refine wpAnyC_done (by kernel_rfl) (fun _ => ?_) _
                clear im
                go_wp2_with fail
                go_meet
                case rel => exact ⟨A2, n2, c2, l2, rfl, HP7.out, H4.out, H5.out⟩
            · refine cOp_list 13 (o := ⟨some 82, _, _, _, _, _⟩) rfl rfl ?_
              refine wpList_value (o := ⟨some 82, _, _, _, _, _⟩) rfl (exec_loadIs (.tmp 81) rfl rfl (tabv_cell HP.out.obj).1) ?_
              (simp only [Act.put, List.setIfInBounds_toArray, List.set_cons_succ, List.set_cons_zero])
              refine wpList_nil ⟨rfl, HC.out, ?_⟩
              (refine wpAnyC_free 14 (oi := ⟨some 83, _, _, _, _, _⟩) (v := ?_) rfl (by kernel_rfl) (by kernel_rfl) (by kernel_rfl) HC.out rfl (fun x => ?_) ?_; rotate_left; (focus (simp [go_sem]; (try go_ints); first | done | (with_reducible rfl))); (simp only [Act.put, List.setIfInBounds_toArray, List.set_cons_succ, List.set_cons_zero]))
              (refine wpAnyC_free 15 (oi := ⟨some 84, _, _, _, _, _⟩) (v := ?_) rfl (by kernel_rfl) (by kernel_rfl) (by kernel_rfl) HC.out rfl (fun x => ?_) ?_; rotate_left; (focus (simp [go_sem]; (try go_ints); first | done | (with_reducible rfl))); (simp only [Act.put, List.setIfInBounds_toArray, List.set_cons_succ, List.set_cons_zero]))
              (refine wpAnyC_free 16 (oi := ⟨some 85, _, _, _, _, _⟩) (v := ?_) rfl (by kernel_rfl) (by kernel_rfl) (by kernel_rfl) HC.out rfl (fun x => ?_) ?_; rotate_left; (focus (simp [go_sem, im]; (try go_ints); first | done | (with_reducible rfl))); (simp only [Act.put, List.setIfInBounds_toArray, List.set_cons_succ, List.set_cons_zero]))
              refine wpAnyC_step 3 (o := ⟨some 72, _, _, _, _, _⟩) rfl (by kernel_rfl) rfl ?_
              refine wpList_callR rfl _ _ (fun v w' => v = .int .i64 (r.length : Int) ∧ wd = w') (by simp [go_sem]) ((rd_left g (some r) (lo, hi) wd HP.out.rd).mono fun e w' ⟨h1, h2⟩ => ⟨_, h1, rfl, h2⟩) ?_
              rintro v w' ⟨rfl, rfl⟩
              (simp only [Act.put, List.setIfInBounds_toArray, List.set_cons_succ, List.set_cons_zero])
              refine wpList_nil ⟨rfl, HC.out, ?_⟩
              refine wpAnyC_step 4 (o := ⟨some 73, _, _, _, _, _⟩) rfl (by kernel_rfl) rfl ?_
              refine wpList_callR rfl _ _ (fun v w' => v = .string ⟨t.toArray⟩ ∧ OpenI w T lo hi g A1 n1 c1 l1 (.int .i64 (bk : Int)) (.slice none 0 0) st' w') (by simp [go_sem]) ((HRt.out _ HP.out).mono fun e w' ⟨h1, h2, h3⟩ => ⟨_, h1, rfl, HP.out.read h2 h3⟩) ?_
              rintro v w6 ⟨rfl, hP⟩
              have HP := Lib.hid hP
              have HC := Lib.hid (tabv_cell hP.obj).2.1
              clear hP
              (simp only [Act.put, List.setIfInBounds_toArray, List.set_cons_succ, List.set_cons_zero])
              refine wpList_nil ⟨rfl, HC.out, ?_⟩
              refine wpAnyC_step 17 (o := ⟨some 86, _, _, _, _, _⟩) rfl (by kernel_rfl) rfl ?_
              refine wpList_callR rfl _ _ (fun v w' => ∃ A2 n2 c2 l2, v = .bool (TabP.partP t mm l1).isSome ∧ OpenI w T lo hi g A2 n2 c2 l2 (.int .i64 (bk : Int)) (.slice none 0 0) st' w' ∧ (∀ l3, TabP.partP t mm l1 = some l3 → l2 = l3 ∧ n2 = n1 + mm) ∧ ∀ x ∈ l2, x.seq < m64) (by simp [go_sem]) ((tab_part T A1 n1 c1 l1 (.int .i64 (bk : Int)) (.slice none 0 0) t mm _ HP.out.obj HP.out.own htl hmm (by omega) HQ.out).mono fun e w' ⟨A2, n2, c2, l2, h1, h2, h3, h4, h5, h6, h7⟩ => ⟨_, h1, A2, n2, c2, l2, rfl, HP.out.part h2 h3 h6 h7, h4, h5⟩) ?_
              rintro v w7 ⟨A2, n2, c2, l2, rfl, hP, h4, h5⟩
              have HP7 := Lib.hid hP
              have HC7 := Lib.hid (tabv_cell hP.obj).2.1
              have H4 := Lib.hid h4
              have H5 := Lib.hid h5
              clear hP h4 h5
              (simp only [Act.put, List.setIfInBounds_toArray, List.set_cons_succ, List.set_cons_zero])
              refine wpList_nil ⟨rfl, HC7.out, ?_⟩
              have HC := HC7
              (refine wpAnyC_free 18 (oi := ⟨some 87, _, _, _, _, _⟩) (v := ?_) rfl (by kernel_rfl) (by kernel_rfl) (by kernel_rfl) HC.out rfl (fun x => ?_) ?_; rotate_left; (focus (simp [go_sem]; (try go_ints); first | done | (with_reducible rfl))); (simp only [Act.put, List.setIfInBounds_toArray, List.set_cons_succ, List.set_cons_zero]))
              refine wpAnyC_done (by kernel_rfl) (fun _ => ?_) _
              clear im
              go_wp2_with fail
              go_meet
              case rel => exact ⟨A2, n2, c2, l2, rfl, HP7.out, H4.out, H5.out⟩
          case rest =>
          obtain ⟨A2, n2, c2, l2, rfl, hP2, h4, h5⟩ := hcut
          have HP2 := Lib.hid hP2
          have HQ2 := Lib.hid h5
          cases hok : TabP.partP t mm l1 with
          | none =>
            have HNo := Lib.hid (show TabP.openP b = none by rw [HOP.out]; unfold TabP.openQ; simp only; rw [← HPR.out, ← HSTEP.out, hok])
            clear hok h4 hP2 h5
            (simp only [Option.isNone_none])
            go_wp2_with fail
            go_ret2
            exact openS_none HNo.out rfl HP2.out.bel
          | some l3 =>
            obtain ⟨rfl, rfl⟩ := h4 l3 hok
            have HL := Lib.hid (TabP.partP_len hok)
            have HST := Lib.hid (show TabP.partsF f bk many l2 st' = PR by rw [← HSTEP.out, hok])
            have hn2 := (HP2.out.own.is (Nat.le_refl _)).len
            clear hok h4 hP2 h5
            (simp only [Option.isNone_some])
            go_wp2_with fail
            go_roundw
            case rel => exact ⟨A2, n1 + mm, c2, l2, st', f, HP2.out, HST.out, by have := HL.out; omega, HQ2.out, by omega, hlf3⟩
            case measure =>
              have e1 : itemsN T wc = n1 + mm := by unfold itemsN; rw [(tabv_cell HP2.out.obj).1]
              have e2 : itemsN T wr = n1 := by unfold itemsN; rw [(tabv_cell HP.out.obj).1]
              have := HL.out
              simp only [e1, e2]
              omega
      · have i5 : ¬ (n1 : Int) < (many : Int) := by omega
        have HPF := Lib.hid (show PR = some (l1, st) by
          obtain ⟨f', rfl⟩ : ∃ g, f = g + 1 := ⟨f - 1, by omega⟩
          have := HPF.out
          unfold TabP.partsF at this
          rw [if_neg (by omega)] at this
          exact this.symm)
        rcases st with _ | r
        · have HNo := Lib.hid (show TabP.openP b = none by rw [HOP.out]; unfold TabP.openQ; simp only; rw [← HPR.out, HPF.out])
          have HRe := Lib.hid (fun (W : World) (h : OpenI w T lo hi g A1 n1 c1 l1 (.int .i64 (bk : Int)) (.slice none 0 0) none W) => rd_err g none (lo, hi) W h.rd)
          go_upto_region 13 with fail
          have HC := Lib.hid (HP.out.grew (Grew.drewN wr 1))
          refine wp_region_c (fun V => OpenI w T lo hi g A1 n1 c1 l1 (.int .i64 (bk : Int)) (.slice none 0 0) none V) (by kernel_rfl) HC.out ?_
          have hcell := fun V : { V : World // OpenI w T lo hi g A1 n1 c1 l1 (.int .i64 (bk : Int)) (.slice none 0 0) none V } => (And.intro (tabv_cell V.2.obj).1 (tabv_cell V.2.obj).2.1)
          (refine wpAnyC_free 0 (oi := ⟨some 89, _, _, _, _, _⟩) (v := ?_) rfl (by kernel_rfl) (by kernel_rfl) (by kernel_rfl) HC.out rfl (fun x => ?_) ?_; rotate_left; (focus (simp [go_sem]; (try go_ints); first | done | (with_reducible rfl))); (simp only [Act.put, List.setIfInBounds_toArray, List.set_cons_succ, List.set_cons_zero]))
          (refine wpAnyC_free 1 (oi := ⟨some 90, _, _, _, _, _⟩) (v := ?_) rfl (by kernel_rfl) (by kernel_rfl) (by kernel_rfl) HC.out rfl (fun x => ?_) ?_; rotate_left; (focus (simp [go_sem]; (try go_ints); first | done | (with_reducible rfl))); (simp only [Act.put, List.setIfInBounds_toArray, List.set_cons_succ, List.set_cons_zero]))
          (refine wpAnyC_free 2 (oi := ⟨some 91, _, _, _, _, _⟩) (v := ?_) rfl (by kernel_rfl) (by kernel_rfl) (by kernel_rfl) HC.out rfl (fun x => ?_) ?_; rotate_left; (focus (simp [go_sem]; (try go_ints); first | done | (with_reducible rfl))); (simp only [Act.put, List.setIfInBounds_toArray, List.set_cons_succ, List.set_cons_zero]))
          (refine wpAnyC_free 3 (oi := ⟨some 92, _, _, _, _, _⟩) (v := ?_) rfl (by kernel_rfl) (by kernel_rfl) (by kernel_rfl) HC.out rfl (fun x => ?_) ?_; rotate_left; (focus (simp [go_sem, hcell]; (try go_ints); first | done | (with_reducible rfl))); (simp only [Act.put, List.setIfInBounds_toArray, List.set_cons_succ, List.set_cons_zero]))
          (refine wpAnyC_free 4 (oi := ⟨some 93, _, _, _, _, _⟩) (v := ?_) rfl (by kernel_rfl) (by kernel_rfl) (by kernel_rfl) HC.out rfl (fun x => ?_) ?_; rotate_left; (focus (simp [go_sem]; (try go_ints); first | done | (with_reducible rfl))); (simp only [Act.put, List.setIfInBounds_toArray, List.set_cons_succ, List.set_cons_zero]))
          (refine wpAnyC_free 5 (oi := ⟨some 94, _, _, _, _, _⟩) (v := ?_) rfl (by kernel_rfl) (by kernel_rfl) (by kernel_rfl) HC.out rfl (fun x => ?_) ?_; rotate_left; (focus (simp [go_sem]; (try go_ints); first | done | (with_reducible rfl))); (simp only [Act.put, List.setIfInBounds_toArray, List.set_cons_succ, List.set_cons_zero]))
          (refine wpAnyC_free 6 (oi := ⟨some 95, _, _, _, _, _⟩) (v := ?_) rfl (by kernel_rfl) (by kernel_rfl) (by kernel_rfl) HC.out rfl (fun x => ?_) ?_; rotate_left; (focus (simp [go_sem]; (try go_ints); first | done | (with_reducible rfl))); (simp only [Act.put, List.setIfInBounds_toArray, List.set_cons_succ, List.set_cons_zero]))
          (refine wpAnyC_free 7 (oi := ⟨some 96, _, _, _, _, _⟩) (v := ?_) rfl (by kernel_rfl) (by kernel_rfl) (by kernel_rfl) HC.out rfl (fun x => ?_) ?_; rotate_left; (focus (simp [go_sem, hcell]; (try go_ints); first | done | (with_reducible rfl))); (simp only [Act.put, List.setIfInBounds_toArray, List.set_cons_succ, List.set_cons_zero]))
          clear hcell
          change wpAnyC _ _ _ _ _ _ _ _ (World.drewN wr 1)
          refine wpAnyC_step 8 (o := ⟨some 97, _, _, _, _, _⟩) rfl (by kernel_rfl) rfl ?_
          refine wpList_callR rfl _ _ (fun v w' => ∃ Ab nb cb, v = .tuple #[.slice Ab nb cb, .int .i64 (TabP.buildE l1 (bk : Int))] ∧ OwnB w' (World.drewN wr 1).heap.size Ab nb cb (TabP.buildB l1 (bk : Int)) ∧ OpenI w T lo hi g A1 n1 c1 l1 (.int .i64 (bk : Int)) (.slice none 0 0) none w') (by simp [go_sem]) ((tab_build A1 n1 c1 l1 (bk : Int) _ (HC.out.own.is (Nat.le_refl _)) HQ.out (by simp [Lit.wf, IntKind.min, IntKind.max, IntKind.signed, IntKind.bits]; omega)).mono fun e w' ⟨Ab, nb, cb, h1, h2, h3⟩ => ⟨_, h1, Ab, nb, cb, rfl, h2, HC.out.grew h3⟩) ?_
          rintro v wb ⟨Ab, nb, cb, rfl, hOb, hPb⟩
          have HOb := Lib.hid hOb
          have HC := Lib.hid hPb
          clear hOb hPb
          (simp only [Act.put, List.setIfInBounds_toArray, List.set_cons_succ, List.set_cons_zero])
          refine wpList_nil ⟨rfl, HC.out, ?_⟩
          (refine wpAnyC_free 9 (oi := ⟨some 88, _, _, _, _, _⟩) (v := ?_) rfl (by kernel_rfl) (by kernel_rfl) (by kernel_rfl) HC.out rfl (fun x => ?_) ?_; rotate_left; (focus (simp [go_sem]; (try go_ints); first | done | (with_reducible rfl))); (simp only [Act.put, List.setIfInBounds_toArray, List.set_cons_succ, List.set_cons_zero]))
          (refine wpAnyC_free 10 (oi := ⟨some 98, _, _, _, _, _⟩) (v := ?_) rfl (by kernel_rfl) (by kernel_rfl) (by kernel_rfl) HC.out rfl (fun x => ?_) ?_; rotate_left; (focus (simp [go_sem]; (try go_ints); first | done | (with_reducible rfl))); (simp only [Act.put, List.setIfInBounds_toArray, List.set_cons_succ, List.set_cons_zero]))
          (refine wpAnyC_free 11 (oi := ⟨some 99, _, _, _, _, _⟩) (v := ?_) rfl (by kernel_rfl) (by kernel_rfl) (by kernel_rfl) HC.out rfl (fun x => ?_) ?_; rotate_left; (focus (simp [go_sem]; (try go_ints); first | done | (with_reducible rfl))); (simp only [Act.put, List.setIfInBounds_toArray, List.set_cons_succ, List.set_cons_zero]))
          (refine wpAnyC_free 12 (oi := ⟨some 8, _, _, _, _, _⟩) (v := ?_) rfl (by kernel_rfl) (by kernel_rfl) (by kernel_rfl) HC.out rfl (fun x => ?_) ?_; rotate_left; (focus (simp [go_sem]; (try go_ints); first | done | (with_reducible rfl))); (simp only [Act.put, List.setIfInBounds_toArray, List.set_cons_succ, List.set_cons_zero]))
          (refine wpAnyC_free 13 (oi := ⟨some 9, _, _, _, _, _⟩) (v := ?_) rfl (by kernel_rfl) (by kernel_rfl) (by kernel_rfl) HC.out rfl (fun x => ?_) ?_; rotate_left; (focus (simp [go_sem]; (try go_ints); first | done | (with_reducible rfl))); (simp only [Act.put, List.setIfInBounds_toArray, List.set_cons_succ, List.set_cons_zero]))
          refine wpAnyC_done (by kernel_rfl) (fun _ => ?_) _
          go_wp2_with (go_at_call 59; ((refine (HRe.out _ HC.out).mono ?_); rintro e wE ⟨rfl, rfl⟩; rw [errN_none]))
          go_ret2
          exact openS_none HNo.out rfl HC.out.bel
        · have HRe := Lib.hid (fun (W : World) (h : OpenI w T lo hi g A1 n1 c1 l1 (.int .i64 (bk : Int)) (.slice none 0 0) (some r) W) => rd_err g (some r) (lo, hi) W h.rd)
          go_upto_region 13 with fail
          have HC := Lib.hid (HP.out.grew (Grew.drewN wr 1))
          refine wp_region_c (fun V => OpenI w T lo hi g A1 n1 c1 l1 (.int .i64 (bk : Int)) (.slice none 0 0) (some r) V) (by kernel_rfl) HC.out ?_
          have hcell := fun V : { V : World // OpenI w T lo hi g A1 n1 c1 l1 (.int .i64 (bk : Int)) (.slice none 0 0) (some r) V } => (And.intro (tabv_cell V.2.obj).1 (tabv_cell V.2.obj).2.1)
          (refine wpAnyC_free 0 (oi := ⟨some 89, _, _, _, _, _⟩) (v := ?_) rfl (by kernel_rfl) (by kernel_rfl) (by kernel_rfl) HC.out rfl (fun x => ?_) ?_; rotate_left; (focus (simp [go_sem]; (try go_ints); first | done | (with_reducible rfl))); (simp only [Act.put, List.setIfInBounds_toArray, List.set_cons_succ, List.set_cons_zero]))
          (refine wpAnyC_free 1 (oi := ⟨some 90, _, _, _, _, _⟩) (v := ?_) rfl (by kernel_rfl) (by kernel_rfl) (by kernel_rfl) HC.out rfl (fun x => ?_) ?_; rotate_left; (focus (simp [go_sem]; (try go_ints); first | done | (with_reducible rfl))); (simp only [Act.put, List.setIfInBounds_toArray, List.set_cons_succ, List.set_cons_zero]))
          (refine wpAnyC_free 2 (oi := ⟨some 91, _, _, _, _, _⟩) (v := ?_) rfl (by kernel_rfl) (by kernel_rfl) (by kernel_rfl) HC.out rfl (fun x => ?_) ?_; rotate_left; (focus (simp [go_sem]; (try go_ints); first | done | (with_reducible rfl))); (simp only [Act.put, List.setIfInBounds_toArray, List.set_cons_succ, List.set_cons_zero]))
          (refine wpAnyC_free 3 (oi := ⟨some 92, _, _, _, _, _⟩) (v := ?_) rfl (by kernel_rfl) (by kernel_rfl) (by kernel_rfl) HC.out rfl (fun x => ?_) ?_; rotate_left; (focus (simp [go_sem, hcell]; (try go_ints); first | done | (with_reducible rfl))); (simp only [Act.put, List.setIfInBounds_toArray, List.set_cons_succ, List.set_cons_zero]))
          (refine wpAnyC_free 4 (oi := ⟨some 93, _, _, _, _, _⟩) (v := ?_) rfl (by kernel_rfl) (by kernel_rfl) (by kernel_rfl) HC.out rfl (fun x => ?_) ?_; rotate_left; (focus (simp [go_sem]; (try go_ints); first | done | (with_reducible rfl))); (simp only [Act.put, List.setIfInBounds_toArray, List.set_cons_succ, List.set_cons_zero]))
          (refine wpAnyC_free 5 (oi := ⟨some 94, _, _, _, _, _⟩) (v := ?_) rfl (by kernel_rfl) (by kernel_rfl) (by kernel_rfl) HC.out rfl (fun x => ?_) ?_; rotate_left; (focus (simp [go_sem]; (try go_ints); first | done | (with_reducible rfl))); (simp only [Act.put, List.setIfInBounds_toArray, List.set_cons_succ, List.set_cons_zero]))
          (refine wpAnyC_free 6 (oi := ⟨some 95, _, _, _, _, _⟩) (v := ?_) rfl (by kernel_rfl) (by kernel_rfl) (by kernel_rfl) HC.out rfl (fun x => ?_) ?_; rotate_left; (focus (simp [go_sem]; (try go_ints); first | done | (with_reducible rfl))); (simp only [Act.put, List.setIfInBounds_toArray, List.set_cons_succ, List.set_cons_zero]))
          (refine wpAnyC_free 7 (oi := ⟨some 96, _, _, _, _, _⟩) (v := ?_) rfl (by kernel_rfl) (by kernel_rfl) (by kernel_rfl) HC.out rfl (fun x => ?_) ?_; rotate_left; (focus (simp [go_sem, hcell]; (try go_ints); first | done | (with_reducible rfl))); (simp only [Act.put, List.setIfInBounds_toArray, List.set_cons_succ, List.set_cons_zero]))
          clear hcell
          change wpAnyC _ _ _ _ _ _ _ _ (World.drewN wr 1)
          refine wpAnyC_step 8 (o := ⟨some 97, _, _, _, _, _⟩) rfl (by kernel_rfl) rfl ?_
          refine wpList_callR rfl _ _ (fun v w' => ∃ Ab nb cb, v = .tuple #[.slice Ab nb cb, .int .i64 (TabP.buildE l1 (bk : Int))] ∧ OwnB w' (World.drewN wr 1).heap.size Ab nb cb (TabP.buildB l1 (bk : Int)) ∧ OpenI w T lo hi g A1 n1 c1 l1 (.int .i64 (bk : Int)) (.slice none 0 0) (some r) w') (by simp [go_sem]) ((tab_build A1 n1 c1 l1 (bk : Int) _ (HC.out.own.is (Nat.le_refl _)) HQ.out (by simp [Lit.wf, IntKind.min, IntKind.max, IntKind.signed, IntKind.bits]; omega)).mono fun e w' ⟨Ab, nb, cb, h1, h2, h3⟩ => ⟨_, h1, Ab, nb, cb, rfl, h2, HC.out.grew h3⟩) ?_
          rintro v wb ⟨Ab, nb, cb, rfl, hOb, hPb⟩
          have HOb := Lib.hid hOb
          have HC := Lib.hid hPb
          clear hOb hPb
          (simp only [Act.put, List.setIfInBounds_toArray, List.set_cons_succ, List.set_cons_zero])
          refine wpList_nil ⟨rfl, HC.out, ?_⟩
          (refine wpAnyC_free 9 (oi := ⟨some 88, _, _, _, _, _⟩) (v := ?_) rfl (by kernel_rfl) (by kernel_rfl) (by kernel_rfl) HC.out rfl (fun x => ?_) ?_; rotate_left; (focus (simp [go_sem]; (try go_ints); first | done | (with_reducible rfl))); (simp only [Act.put, List.setIfInBounds_toArray, List.set_cons_succ, List.set_cons_zero]))
          (refine wpAnyC_free 10 (oi := ⟨some 98, _, _, _, _, _⟩) (v := ?_) rfl (by kernel_rfl) (by kernel_rfl) (by kernel_rfl) HC.out rfl (fun x => ?_) ?_; rotate_left; (focus (simp [go_sem]; (try go_ints); first | done | (with_reducible rfl))); (simp only [Act.put, List.setIfInBounds_toArray, List.set_cons_succ, List.set_cons_zero]))
          (refine wpAnyC_free 11 (oi := ⟨some 99, _, _, _, _, _⟩) (v := ?_) rfl (by kernel_rfl) (by kernel_rfl) (by kernel_rfl) HC.out rfl (fun x => ?_) ?_; rotate_left; (focus (simp [go_sem]; (try go_ints); first | done | (with_reducible rfl))); (simp only [Act.put, List.setIfInBounds_toArray, List.set_cons_succ, List.set_cons_zero]))
          (refine wpAnyC_free 12 (oi := ⟨some 8, _, _, _, _, _⟩) (v := ?_) rfl (by kernel_rfl) (by kernel_rfl) (by kernel_rfl) HC.out rfl (fun x => ?_) ?_; rotate_left; (focus (simp [go_sem]; (try go_ints); first | done | (with_reducible rfl))); (simp only [Act.put, List.setIfInBounds_toArray, List.set_cons_succ, List.set_cons_zero]))
          (refine wpAnyC_free 13 (oi := ⟨some 9, _, _, _, _, _⟩) (v := ?_) rfl (by kernel_rfl) (by kernel_rfl) (by kernel_rfl) HC.out rfl (fun x => ?_) ?_; rotate_left; (focus (simp [go_sem]; (try go_ints); first | done | (with_reducible rfl))); (simp only [Act.put, List.setIfInBounds_toArray, List.set_cons_succ, List.set_cons_zero]))
          refine wpAnyC_done (by kernel_rfl) (fun _ => ?_) _
          have HEq := Lib.hid (bytes_equal Ab nb cb (TabP.buildB l1 (bk : Int)) (some ⟨gA, oA, none⟩) n c b wb.heap.size w.heap.size wb HOb.out.len HOb.out.row hn (HR.out.below HC.out.bel))
          by_cases hE : TabP.buildE l1 (bk : Int) = 0
          · by_cases hBb : TabP.buildB l1 (bk : Int) = b
            · have HYes := Lib.hid (show TabP.openP b = some (l1, bk) by rw [HOP.out]; unfold TabP.openQ; simp only; rw [← HPR.out, HPF.out]; simp only; rw [if_pos ⟨hE, hBb⟩])
              obtain ⟨hgl, hl4, _, _⟩ := TabP.buildE_zero hE
              obtain ⟨hsr, hmy1⟩ := TabP.goodL_srt hgl
              have HSr := Lib.hid hsr
              have HMy := Lib.hid hmy1
              have HTW := Lib.hid (fun (W : World) (h : OpenI w T lo hi g A1 n1 c1 l1 (.int .i64 (bk : Int)) (.slice none 0 0) (some r) W) => show TabW T A1 n1 c1 l1 bk none 0 0 [] W from ⟨h.obj, h.own.is (Nat.le_refl _), Row.nil, rfl, Nat.zero_le _, by omega⟩)
              have HFr := Lib.hid (fun (W : World) (h : OpenI w T lo hi g A1 n1 c1 l1 (.int .i64 (bk : Int)) (.slice none 0 0) (some r) W) => show Calls Try.prog 40 #[.pointer (some ⟨T, 0, none⟩), .string ⟨#[]⟩] W _ from tab_from [] W (HTW.out W h) HSr.out)
              have HLn := Lib.hid (fun (W : World) (h : OpenI w T lo hi g A1 n1 c1 l1 (.int .i64 (bk : Int)) (.slice none 0 0) (some r) W) => tab_len W (HTW.out W h))
              have HEq := Lib.hid (show Calls Try.prog 63 #[.slice Ab nb cb, .slice (some ⟨gA, oA, none⟩) n c] wb fun e w' => e = .returned (.bool true) ∧ wb = w' by have := HEq.out; rwa [show (TabP.buildB l1 (bk : Int) == b) = true from by rw [beq_iff_eq]; exact hBb] at this)
              rw [hE]
              have HP := HC
              clear hE hBb hgl hsr hmy1 HPF
              go_upto_region 16 with (first
                | (go_at_call 59; ((refine (HRe.out _ HC.out).mono ?_); rintro e wE ⟨rfl, rfl⟩; rw [errN_some]))
                | (go_at_call 63; ((with_reducible refine HEq.out.mono ?_); rintro e wE ⟨rfl, rfl⟩)))
              have HFl := Lib.hid (fun (W : World) (B : Nat) (A' : Option Addr) (n' c' : Nat) (hB : Boxed W B 32 (.slice A' n' c')) (hI : Is W W.heap.size A' n' c' (l1.drop (TabP.frm [] l1))) => show Calls Try.prog 54 #[.func (.func 71) #[] #[.pointer (some ⟨B, 0, none⟩)], .int .i64 (n1 : Int)] W (GivesB W (TabP.filter l1 n1)) by
                rw [TabP.frm_nil HMy.out, List.drop_zero] at hI
                exact filter_values A' n' c' B l1 W hI hB (fun x hx => Nat.le_trans (TabP.may_len (HMy.out x hx)).1 (by omega)) n1 (by omega))
              have HGF := Lib.hid (Grew.refl wb)
              go_upto_region 17 with (first
                | (go_at_call 40; ((refine (HFr.out _ HP.out).mono ?_); rintro e w8 ⟨B8, A8, n8, c8, rfl, hB, hI, hG⟩; have HB8 := Lib.hid hB; have HI8 := Lib.hid hI; have HP := Lib.hid (HP.out.grew hG); clear hB hI hG))
                | (go_at_call 33; ((refine (HLn.out _ HP.out).mono ?_); rintro e wE ⟨rfl, rfl⟩))
                | (go_at_call 54; go_loud ((refine (HFl.out _ _ _ _ _ HB8.out HI8.out).mono ?_); rintro e w9 ⟨F9, n9, c9, rfl, hO, hG⟩; have HO9 := Lib.hid (Own.lower hO (show T + 1 ≤ w8.heap.size by have h1 := HP.out.hi_; have h2 := HP.out.Tlo; have h3 := (RdS.base_le HP.out.rd).1; simp only at h3; omega)); have HP := Lib.hid (HP.out.grew hG); (obtain ⟨t0, t1, t2, tf⟩ := tabv_cell HP.out.obj); have f2 := tf 2; clear hO hG tf)))
              have hs9 : w9.grownBy (w9.setCell ⟨T, 2, none⟩ (.slice F9 n9 c9)) (some T) := grown_setCells T [.slice F9 n9 c9] 2 w9
              have hTw : TabW T A1 n1 c1 l1 bk F9 n9 c9 (TabP.filter l1 l1.length) (w9.setCell ⟨T, 2, none⟩ (.slice F9 n9 c9)) := by
                rw [hl1]
                refine ⟨heap_setCell_at w9 T 2 _ _ _ _ HP.out.obj, OwnI.is (Own.setCell HP.out.own (fun e => by have := (Own.lt HP.out.own T e).1; omega) _) (Nat.le_refl _), OwnB.row (Own.setCell HO9.out (fun e => by have := (Own.lt HO9.out T e).1; omega) _), OwnB.len HO9.out, ?_, by omega⟩
                have h1 := OwnB.len HO9.out
                rw [TabP.filter_len] at h1
                have h2 := TabP.fsize_le (n := n1) (by omega)
                omega
              have hGw : Grew w (w9.setCell ⟨T, 2, none⟩ (.slice F9 n9 c9)) := HP.out.bel.grown hs9 (by have := HP.out.bel.size; omega) (fun k e => by injection e with e; omega)
              have hTl : T < (w9.setCell ⟨T, 2, none⟩ (.slice F9 n9 c9)).heap.size := lt_of_blk hTw.obj
              have HTw := Lib.hid hTw
              have HGw := Lib.hid hGw
              have HTl := Lib.hid hTl
              have hFre : ∀ k, blk A1 = some k ∨ blk F9 = some k → w.heap.size ≤ k := by
                rintro k (h | h)
                · have := (Own.lt HP.out.own k h).1; omega
                · have := (Own.lt HO9.out k h).1; omega
              have HFre := Lib.hid hFre
              clear hTw hGw hTl hs9 t0 t1 t2 f2 hFre
              go_wp2_with fail
              go_ret2
              rw [HYes.out]
              exact ⟨T, A1, n1, c1, F9, n9, c9, rfl, HTw.out, hT8, HTl.out, HGw.out, HFre.out⟩
            · have HNo := Lib.hid (show TabP.openP b = none by rw [HOP.out]; unfold TabP.openQ; simp only; rw [← HPR.out, HPF.out]; simp only; rw [if_neg (fun h => hBb h.2)])
              have HEq := Lib.hid (show Calls Try.prog 63 #[.slice Ab nb cb, .slice (some ⟨gA, oA, none⟩) n c] wb fun e w' => e = .returned (.bool false) ∧ wb = w' by have := HEq.out; rwa [show (TabP.buildB l1 (bk : Int) == b) = false from by rw [beq_eq_false_iff_ne]; exact hBb] at this)
              rw [hE]
              clear hE hBb
              go_wp2_with (first
                | (go_at_call 59; ((refine (HRe.out _ HC.out).mono ?_); rintro e wE ⟨rfl, rfl⟩; rw [errN_some]))
                | (go_at_call 63; ((with_reducible refine HEq.out.mono ?_); rintro e wE ⟨rfl, rfl⟩)))
              go_ret2
              exact openS_none HNo.out rfl HC.out.bel
          · have HNo := Lib.hid (show TabP.openP b = none by rw [HOP.out]; unfold TabP.openQ; simp only; rw [← HPR.out, HPF.out]; simp only; rw [if_neg (fun h => hE h.1)])
            obtain ⟨E, hEE⟩ : ∃ E, E = TabP.buildE l1 (bk : Int) := ⟨_, rfl⟩
            rw [← hEE] at hE ⊢
            have hEb : (E == 0) = false := by rw [beq_eq_false_iff_ne]; exact hE
            clear hEE HEq
            go_wp2_with (go_at_call 59; ((refine (HRe.out _ HC.out).mono ?_); rintro e wE ⟨rfl, rfl⟩; rw [errN_some]))
            go_ret2
            exact openS_none HNo.out rfl HC.out.bel
  · have i2 : ((z : Int) == (n : Int) - 8) = false := by rw [beq_eq_false_iff_ne]; omega
    have HN := Lib.hid (show TabP.openP b = none by unfold TabP.openP; rw [if_neg (by omega), if_pos (by rw [HLe.out]; omega)])
    clear hz
    go_wp2_with fail
    go_ret2
    exact openS_none HN.out rfl (Grew.drewN w nq)
theorem openS_R {w w' : World} {r : Option (List It × Nat)} {e : Ending} (h : OpenS w r e w') : OpenR w r e w' := by
  rcases r with _ | ⟨l, k⟩
  · exact h
  · obtain ⟨T, A, n, c, F, nf, cf, h1, h2, h3, h4, h5, _⟩ := h
    exact ⟨T, A, n, c, F, nf, cf, h1, h2, h3, h4, h5⟩
theorem tab_open (A : Option Addr) (n c : Nat) (b : List UInt8) (w : World) (hn : b.length = n) (hnc : n ≤ c) (hc : c ≤ maxLen) (hr : Row w w.heap.size A (b.map b8)) (hm : n ≤ 1000000000) :
    Calls Try.prog 31 #[.slice A n c] w (OpenR w (TabP.openP b)) := (tab_openS A n c b w hn hnc hc hr hm).mono fun _ _ h => openS_R h
end Go.Proofs.Ytkkeodfoiffofaa
namespace Go.Proofs.Ytkkeodfoiffofaa
open Go.RowKit
set_option linter.unusedVariables false
theorem Is.grew {w w' : World} {A : Option Addr} {n c : Nat} {l : List It} (h : Is w w.heap.size A n c l) (hg : Grew w w') : Is w' w'.heap.size A n c l := (h.below hg).more hg.size
/-- Build, where the answer's number is named -/
theorem build_is {A : Option Addr} {n c : Nat} {l : List It} {a z : Int} {w : World} (h : Is w w.heap.size A n c l) (hq : ∀ x ∈ l, x.seq < m64) (ha : (Lit.int .i64 a).wf = true) (hz : TabP.buildE l a = z) :
    Calls Try.prog 29 #[.slice A n c, .int .i64 a] w fun e w' => ∃ A' n' c', e = .returned (.tuple #[.slice A' n' c', .int .i64 z]) ∧ OwnB w' w.heap.size A' n' c' (TabP.buildB l a) ∧ Grew w w' := by
  subst hz
  exact tab_build A n c l a w h hq ha
/-- Open of bytes of one's own -/
theorem open_own {A : Option Addr} {n c base : Nat} {b : List UInt8} {w : World} {r : Option (List It × Nat)} (h : OwnB w base A n c b) (hb : b.length ≤ 1000000000) (hr : TabP.openP b = r) :
    Calls Try.prog 31 #[.slice A n c] w (OpenR w r) := by
  subst hr
  exact tab_open A n c b w h.len h.le.1 h.le.2 h.row (by have := h.len; omega)
theorem build_le {l : List It} {a : Int} : (TabP.buildB l a).length ≤ 100000000 := by
  unfold TabP.buildB
  split
  · rename_i h
    obtain ⟨h1, h2, h3, h4⟩ := TabP.buildE_zero h
    rw [TabP.build_len]
    have := TabP.body_len (TabP.goodL_srt h1).2 h2 a.toNat
    omega
  · simp
theorem openP_buildB {l : List It} {a : Int} (hE : TabP.buildE l a = 0) (hq : ∀ x ∈ l, x.seq < m64) : TabP.openP (TabP.buildB l a) = some (l, a.toNat) := by
  obtain ⟨h1, h2, h3, h4⟩ := TabP.buildE_zero hE
  have e : ((a.toNat : Nat) : Int) = a := by omega
  unfold TabP.buildB
  rw [if_pos hE]
  exact TabP.open_build (by rw [e]; exact hE) hq
/-- tables of unlike items are unlike -/
theorem buildB_inj {l m : List It} {a b : Int} (hl : TabP.buildE l a = 0) (hm : TabP.buildE m b = 0) (ql : ∀ x ∈ l, x.seq < m64) (qm : ∀ x ∈ m, x.seq < m64) (h : TabP.buildB l a = TabP.buildB m b) : l = m := by
  have h1 := openP_buildB hl ql
  have h2 := openP_buildB hm qm
  rw [h, h2] at h1
  injection h1 with h1
  injection h1 with h1 _
  exact h1.symm
/-- a box of a slice is no row of items -/
theorem boxedS_not_is {W : World} {b Bd n c : Nat} {v : Value} {A : Option Addr} {l : List It} (hb : Boxed W b 32 v) (hv : ∀ s, v ≠ .string s) (hI : Is W Bd A n c l) (hl : l ≠ []) : blk A ≠ some b := by
  rcases l with _ | ⟨x, r⟩
  · exact absurd rfl hl
  · obtain ⟨g, o, rfl, _, hr⟩ := hI.at (i := 0) (x := x) rfl
    intro e
    simp [blk] at e
    subst e
    have h0 := (range_cells hr).1
    rw [Nat.zero_mul, Nat.add_zero, cell_blk hb] at h0
    rcases o with _ | o
    · simp at h0
      exact hv _ h0
    · simp at h0
/-- what a sequence of values reads is not the empty box that its items go to -/
theorem keeps_box {W : World} {bx B Bd n c : Nat} {A : Option Addr} {l : List It} (hx : Boxed W bx 32 (.slice none 0 0)) (hB : Boxed W B 32 (.slice A n c)) (hI : Is W Bd A n c l) (hl : l ≠ []) :
    ∀ g, keepsvalues1 B A l g → g ≠ bx := by
  rintro g (rfl | ⟨_, hg⟩)
  · intro e
    subst e
    have h1 : W.heap[g]? = some (.cells #[.slice none 0 0] 32) := hx
    rw [show W.heap[g]? = _ from hB] at h1
    injection h1 with h1
    injection h1 with h1 _ _
    have hn := hI.len
    rcases l with _ | ⟨x, r⟩
    · exact hl rfl
    · simp at h1 hn
      omega
  · intro e
    subst e
    exact boxedS_not_is hx (fun s h => by cases h) hI hl hg
/-- items gone through go to a box: what holds all along -/
structure Col (bx : Nat) (w0 : World) (A : Option Addr) (n c : Nat) (pre : List It) (W : World) : Prop where
  box : Boxed W bx 32 (.slice A n c)
  own : OwnI W w0.heap.size A n c pre
  below : Below bx w0 W
  low : ∀ g, g < w0.heap.size → g ≠ bx → W.heap[g]? = w0.heap[g]?
section
variable {bx n c : Nat} {w0 W W' : World} {A : Option Addr} {pre : List It}
theorem Col.nil (h : Boxed w0 bx 32 (.slice none 0 0)) : Col bx w0 none 0 0 [] w0 := ⟨h, OwnI.nil _ _, Below.refl _ _, fun _ _ _ => rfl⟩
theorem Col.apart (h : Col bx w0 A n c pre W) (ha : Apart w0.heap.size W W') (hb : bx < w0.heap.size) : Col bx w0 A n c pre W' :=
  ⟨ha.boxed h.box, ha.ownI h.own, ha.kept h.below (Nat.le_of_lt hb), fun g hg hne => (ha.below.block g hg).trans (h.low g hg hne)⟩
theorem Col.boxed (h : Col bx w0 A n c pre W) {b : Nat} {t : TypeId} {v : Value} (hb : Boxed w0 b t v) (hne : b ≠ bx) : Boxed W b t v := (h.low b hb.lt hne).trans hb
theorem Col.ibox (h : Col bx w0 A n c pre W) {b : Nat} {x : It} (hb : IBox w0 b x) (hne : b ≠ bx) : IBox W b x := (h.low b hb.lt hne).trans hb
theorem Col.round {A' : Option Addr} {n' c' : Nat} {l' : List It} {K : Nat → Prop} {tmp : Obj} {w3 : World} (h : Col bx w0 A n c pre W) (hs : w0.heap.size ≤ W.heap.size) (hb : bx < w0.heap.size) (hO3 : OwnI w3 w0.heap.size A' n' c' l') (hg3 : (W.alloc tmp).grownBy w3 (blk A))
    (hK : ∀ g, K g → g < w0.heap.size ∧ g ≠ bx) :
    w3.cell? ⟨bx, 0, none⟩ = some (.slice A n c) ∧ w3.frozen? ⟨bx, 0, none⟩ = false ∧ KeepsOthers W (w3.setCell ⟨bx, 0, none⟩ (.slice A' n' c')) ∧ KeepSet K W (w3.setCell ⟨bx, 0, none⟩ (.slice A' n' c')) ∧ Col bx w0 A' n' c' l' (w3.setCell ⟨bx, 0, none⟩ (.slice A' n' c')) := by
  obtain ⟨h1, h2, h3, h4, h5, h6, h7⟩ := collectI h.box h.own h.below hO3 hg3 hK hs (Nat.le_of_lt hb) (Nat.le_refl _)
  refine ⟨h1, h2, h3, h4, h5, h6, h7, fun g hg hne => ?_⟩
  have e1 : (w3.setCell ⟨bx, 0, none⟩ (.slice A' n' c')).heap[g]? = w3.heap[g]? := Below.heap_setCell _ _ _ _ (fun e => hne e)
  have e2 : w3.heap[g]? = (W.alloc tmp).heap[g]? := hg3.block g (by simp; omega) (fun e => by have := (h.own.lt g e.symm).1; omega)
  have e3 : (W.alloc tmp).heap[g]? = W.heap[g]? := Below.heap_alloc W tmp g (by omega)
  rw [e1, e2, e3]
  exact h.low g hg hne
end
/-- Open of what Build gave -/
theorem open_buildB {A : Option Addr} {n c base : Nat} {l : List It} {a : Int} {w : World} (hE : TabP.buildE l a = 0) (hq : ∀ x ∈ l, x.seq < m64) (h : OwnB w base A n c (TabP.buildB l a)) :
    Calls Try.prog 31 #[.slice A n c] w fun e w' => ∃ T A n c F nf cf, e = .returned (.tuple #[.pointer (some ⟨T, 0, none⟩), .int .i64 0]) ∧ TabW T A n c l a.toNat F nf cf (TabP.filter l l.length) w' ∧ w.heap.size ≤ T ∧ T < w'.heap.size ∧ Grew w w' :=
  open_own h (Nat.le_trans build_le (by omega)) (openP_buildB hE hq)
/-- the same, its rows fresh -/
theorem open_buildS {A : Option Addr} {n c base : Nat} {l : List It} {a : Int} {w : World} (hE : TabP.buildE l a = 0) (hq : ∀ x ∈ l, x.seq < m64) (h : OwnB w base A n c (TabP.buildB l a)) :
    Calls Try.prog 31 #[.slice A n c] w fun e w' => ∃ T A n c F nf cf, e = .returned (.tuple #[.pointer (some ⟨T, 0, none⟩), .int .i64 0]) ∧ TabW T A n c l a.toNat F nf cf (TabP.filter l l.length) w' ∧ w.heap.size ≤ T ∧ T < w'.heap.size ∧ Grew w w' ∧ ∀ g, blk A = some g ∨ blk F = some g → w.heap.size ≤ g := by
  have h2 := tab_openS A n c _ w h.len h.le.1 h.le.2 h.row (by have h1 := h.len; have h2 := build_le (l := l) (a := a); omega)
  rw [openP_buildB hE hq] at h2
  exact h2
theorem row_but {w w' : World} {A : Option Addr} {xs : List Value} {gc : Nat} (h : Row w w.heap.size A xs) (hs : w.heap.size ≤ w'.heap.size) (hk : ∀ g, g < w.heap.size → g ≠ gc → w'.heap[g]? = w.heap[g]?) (hA : blk A ≠ some gc) : Row w' w'.heap.size A xs := fun j u hu => by
  obtain ⟨a, e, hb, hc⟩ := h j u hu
  subst e
  refine ⟨a, rfl, by omega, ?_⟩
  have hne : a.block ≠ gc := fun e => hA (by simp [blk, e])
  rw [← hc]
  unfold World.cell?
  have : (a.add j).block = a.block := add_block _ _
  simp only [this, hk a.block hb hne]
/-- a table stays when a block of others is written -/
theorem TabW.but {T n c bk nf cf gc : Nat} {A F : Option Addr} {l : List It} {fl : List UInt8} {w w' : World} (h : TabW T A n c l bk F nf cf fl w) (hs : w.heap.size ≤ w'.heap.size) (hk : ∀ g, g < w.heap.size → g ≠ gc → w'.heap[g]? = w.heap[g]?) (hT : T ≠ gc) (hA : blk A ≠ some gc) (hF : blk F ≠ some gc) : TabW T A n c l bk F nf cf fl w' :=
  ⟨(hk T (lt_of_blk h.obj) hT).trans h.obj, ⟨h.is.len, h.is.le, h.is.max, row_but h.is.row hs hk hA⟩, row_but h.row hs hk hF, h.len, h.max, h.n_⟩
end Go.Proofs.Ytkkeodfoiffofaa
namespace Go.Proofs.Ytkkeodfoiffofaa
open Go.RowKit
set_option linter.unusedVariables false
attribute [local go_sem] Oper.semAt_some
theorem all_take {l : List It} {k : Nat} {x : It} (hx : l[k]? = some x) (h : (l.take k).all ItP.may = true) : (l.take (k + 1)).all ItP.may = ItP.may x := by
  rw [List.take_add_one, hx]
  simp [List.all_append, h]
theorem all_no {l : List It} {k : Nat} {x : It} (hx : l[k]? = some x) (h : ItP.may x = false) : l.all ItP.may = false := by
  rw [List.all_eq_false]
  exact ⟨x, List.mem_of_getElem? hx, by rw [h]; simp⟩
theorem goodL_eq (l : List It) : TabP.goodL l = (ItP.srt l && l.all ItP.may) := by unfold TabP.goodL; rw [Bool.and_comm]
set_option maxRecDepth 100000 in
set_option maxHeartbeats 1000000 in
theorem law_may (A : Option Addr) (n c : Nat) (l : List It) (w : World) (h : Is w w.heap.size A n c l) (hn : n ≤ 1000000) :
    Calls Try.prog 36 #[.slice A n c] w fun e w' => e = .returned (.bool (l.all ItP.may)) ∧ Grew w w' := by
  have hl := h.len
  have hm := h.le
  have HI := Lib.hid h
  clear h
  go_enter Try.func36, Try.ntmps36
  go_wp2_with fail
  go_loopw [3] (fun i wy => ∃ k : Nat, k ≤ n ∧ i = .int .i64 (k : Int) ∧ (l.take k).all ItP.may = true ∧ Grew w wy) (fun i _ => n - (intOf i).toNat)
  case atStart => exact ⟨0, Nat.zero_le _, rfl, by simp, Grew.refl _⟩
  case round =>
    obtain ⟨k, hk, rfl, hs, hG⟩ := hrel
    have HG := Lib.hid hG
    have HS := Lib.hid hs
    clear hs hG
    have i0 : (0 : Int) ≤ (k : Int) := by omega
    by_cases hlt : k < n
    · obtain ⟨x, hx⟩ : ∃ x, l[k]? = some x := ⟨_, List.getElem?_eq_getElem (by omega)⟩
      have HT := Lib.hid (all_take hx HS.out)
      have HN := Lib.hid (fun h => all_no hx h)
      obtain ⟨g1, o1, rfl, q1⟩ := is_grew HI.out HG.out hx
      obtain ⟨c0, c1, c2, c3⟩ := q1 ⟨_, Grew.refl _⟩
      simp only [sv] at c0 c1 c2 c3
      have i1 : (k : Int) < (n : Int) := by omega
      cases hb : ItP.may x with
      | false =>
        have HY : Hid (∀ W, Calls Try.prog 17 #[.agg #[.string ⟨x.key.toArray⟩, .int .u64 (x.seq : Int), .bool x.gone, .string ⟨x.val.toArray⟩]] W fun e w' => e = .returned (.bool false) ∧ Grew W w') := Lib.hid fun W => by have := ref_may x W; rw [hb] at this; exact this
        have HN := Lib.hid (HN.out hb)
        clear hx hb q1
        go_wp2_with (go_at_call 17; ((with_reducible refine (HY.out _).mono ?_); rintro e w5 ⟨rfl, hG⟩; have HG5 := Lib.hid hG; clear hG))
        go_ret
        exact ⟨by rw [HN.out]; rfl, HG.out.trans HG5.out⟩
      | true =>
        have HY : Hid (∀ W, Calls Try.prog 17 #[.agg #[.string ⟨x.key.toArray⟩, .int .u64 (x.seq : Int), .bool x.gone, .string ⟨x.val.toArray⟩]] W fun e w' => e = .returned (.bool true) ∧ Grew W w') := Lib.hid fun W => by have := ref_may x W; rw [hb] at this; exact this
        rw [hb] at HT
        clear hx hb q1
        go_wp2_with (go_at_call 17; ((with_reducible refine (HY.out _).mono ?_); rintro e w5 ⟨rfl, hG⟩; have HG5 := Lib.hid hG; clear hG))
        go_roundw
        case rel => exact ⟨k + 1, hlt, by go_num, HT.out, HG.out.trans HG5.out⟩
        case measure => simp [intOf]; omega
    · have HT := Lib.hid (show l.take k = l from List.take_of_length_le (by omega))
      have i1 : ¬ (k : Int) < (n : Int) := by omega
      go_wp2_with fail
      go_ret
      exact ⟨by have := HS.out; rw [HT.out] at this; rw [this]; rfl, HG.out⟩
end Go.Proofs.Ytkkeodfoiffofaa
