/- The walk of sha's take: a block taken in. -/
import Derived.Test.YtohgkadbajmphaaSha
import Derived.Test.YtohgkadbajmphaaArr
import Derived.Test.YtohgkadbajmphaaSt
import Derived.Deep.CutRange
namespace Go.Proofs.Ytohgkadbajmphaa
open Go.RowKit
set_option linter.unusedVariables false
attribute [local irreducible] wpStill
attribute [local go_sem] u32_xor_bv u32_and_bv u32_or_bv u32_not_bv u32_add_bv u32_wadd_bv
theorem u32_div8_bv (a : BitVec 32) : bv32 a / (8 : Int) = bv32 (a >>> 3) := u32_div_bv a 3
theorem u32_div1024_bv (a : BitVec 32) : bv32 a / (1024 : Int) = bv32 (a >>> 10) := u32_div_bv a 10
attribute [local go_sem] u32_div8_bv u32_div1024_bv
theorem u32_not_if (a : BitVec 32) : bits .xor .u32 (if IntKind.u32.signed = true then -1 else IntKind.u32.max) (bv32 a) = bv32 (~~~ a) := by
  rw [if_neg (by decide), u32_not_bv]
attribute [local go_sem] u32_not_if
theorem or_apart' (a b k : Nat) (ha : a < 2 ^ k) (h : a + b * 2 ^ k < 4294967296) : bits .or .u32 ((b * 2 ^ k : Nat) : Int) (a : Int) = ((b * 2 ^ k + a : Nat) : Int) := by
  rw [u32_or_nat _ _ (by omega) (by omega), Nat.mul_comm b, ← Nat.two_pow_add_eq_or_of_lt ha]
theorem or_be4 (a b x y : UInt8) : bits .or .u32 (bits .or .u32 (bits .or .u32 ((a.toNat : Int) * 16777216) ((b.toNat : Int) * 65536)) ((x.toNat : Int) * 256)) (y.toNat : Int) = bv32 (ShaP.be4 a b x y) := by
  have ha := a.toNat_lt; have hb := b.toNat_lt; have hx := x.toNat_lt; have hy := y.toNat_lt
  unfold bv32
  rw [ShaP.be4_toNat]
  have e1 := or_apart' (b.toNat * 2 ^ 16) a.toNat 24 (by omega) (by omega)
  have e2 := or_apart' (x.toNat * 2 ^ 8) (a.toNat * 2 ^ 8 + b.toNat) 16 (by omega) (by omega)
  have e3 := or_apart' y.toNat (a.toNat * 2 ^ 16 + b.toNat * 2 ^ 8 + x.toNat) 8 (by omega) (by omega)
  have f1 : ((a.toNat : Int) * 16777216) = ((a.toNat * 2 ^ 24 : Nat) : Int) := by omega
  have f2 : ((b.toNat : Int) * 65536) = ((b.toNat * 2 ^ 16 : Nat) : Int) := by omega
  have f3 : ((x.toNat : Int) * 256) = ((x.toNat * 2 ^ 8 : Nat) : Int) := by omega
  rw [f1, f2, f3, e1, show a.toNat * 2 ^ 24 + b.toNat * 2 ^ 16 = (a.toNat * 2 ^ 8 + b.toNat) * 2 ^ 16 by omega, e2, show (a.toNat * 2 ^ 8 + b.toNat) * 2 ^ 16 + x.toNat * 2 ^ 8 = (a.toNat * 2 ^ 16 + b.toNat * 2 ^ 8 + x.toNat) * 2 ^ 8 by omega, e3]
  congr 1
  omega
theorem Laid.cell {w : World} {g : Nat} {b : List UInt8} {k : Nat} (h : ∃ xs : List (BitVec 32), ArrV w g (u32s xs) ∧ xs.length = 64 ∧ ∀ j, j < k → xs.getD j 0 = ShaP.sw b j) {j : Nat} (hj : j < k) (h64 : j < 64) : w.cell? ⟨g, j, none⟩ = some (.int .u32 (bv32 (ShaP.sw b j))) := by
  obtain ⟨xs, hX, hl, hx⟩ := h
  rw [hX.cell (i := j) (by simp; omega), ← hx j hj]
  have : j < xs.length := by omega
  simp [List.getD_eq_getElem?_getD, this]
theorem u32_sum4 (a b c d : BitVec 32) : (bv32 a + bv32 b + bv32 c + bv32 d) % 4294967296 = bv32 (a + b + c + d) := by
  rw [← u32_add_bv, ← u32_add_bv, ← u32_add_bv]
  omega
/-- eight words, one by one -/
theorem ArrV.eight {w : World} {g : Nat} {v : ShaP.V8} (h : ArrV w g (u32s v.list)) :
    w.cell? ⟨g, 0, none⟩ = some (.int .u32 (bv32 v.a)) ∧ w.cell? ⟨g, 1, none⟩ = some (.int .u32 (bv32 v.b)) ∧ w.cell? ⟨g, 2, none⟩ = some (.int .u32 (bv32 v.c)) ∧ w.cell? ⟨g, 3, none⟩ = some (.int .u32 (bv32 v.d)) ∧
    w.cell? ⟨g, 4, none⟩ = some (.int .u32 (bv32 v.e)) ∧ w.cell? ⟨g, 5, none⟩ = some (.int .u32 (bv32 v.f)) ∧ w.cell? ⟨g, 6, none⟩ = some (.int .u32 (bv32 v.g)) ∧ w.cell? ⟨g, 7, none⟩ = some (.int .u32 (bv32 v.h)) :=
  ⟨h.cell (i := 0) (show 0 < 8 by decide), h.cell (i := 1) (show 1 < 8 by decide), h.cell (i := 2) (show 2 < 8 by decide), h.cell (i := 3) (show 3 < 8 by decide), h.cell (i := 4) (show 4 < 8 by decide), h.cell (i := 5) (show 5 < 8 by decide), h.cell (i := 6) (show 6 < 8 by decide), h.cell (i := 7) (show 7 < 8 by decide)⟩
/-- the schedule's words up to k are laid -/
def Laid (w : World) (g : Nat) (b : List UInt8) (k : Nat) : Prop := ∃ xs : List (BitVec 32), ArrV w g (u32s xs) ∧ xs.length = 64 ∧ ∀ j, j < k → xs.getD j 0 = ShaP.sw b j
/-- the first k words of the sum, the others as they were -/
def mix8 (v u : ShaP.V8) (k : Nat) : List (BitVec 32) := (v.add u).list.take k ++ v.list.drop k
theorem mix8_set (v u : ShaP.V8) : ∀ k, k < 8 → (mix8 v u k).set k (v.list.getD k 0 + u.list.getD k 0) = mix8 v u (k + 1)
  | 0, _ => rfl | 1, _ => rfl | 2, _ => rfl | 3, _ => rfl | 4, _ => rfl | 5, _ => rfl | 6, _ => rfl | 7, _ => rfl
  | k + 8, h => by omega
theorem mix8_at (v u : ShaP.V8) : ∀ k, k < 8 → (u32s (mix8 v u k))[k]? = some (.int .u32 (bv32 (v.list.getD k 0)))
  | 0, _ => rfl | 1, _ => rfl | 2, _ => rfl | 3, _ => rfl | 4, _ => rfl | 5, _ => rfl | 6, _ => rfl | 7, _ => rfl
  | k + 8, h => by omega
theorem mix8_zero (v u : ShaP.V8) : mix8 v u 0 = v.list := rfl
theorem mix8_all (v u : ShaP.V8) : mix8 v u 8 = (v.add u).list := rfl
theorem ArrV.atSome {w : World} {g : Nat} {xs : List Value} (h : ArrV w g xs) {i : Nat} {x : Value} (hx : xs[i]? = some x) : w.cell? ⟨g, i, none⟩ = some x := by
  obtain ⟨hi, e⟩ := List.getElem?_eq_some_iff.1 hx
  rw [h.cell hi, e]
theorem grown_store {a b : World} {g i n : Nat} {v : Value} (h : a.grownBy b (some g)) : a.grownBy ((b.drewN n).setCell ⟨g, i, none⟩ v) (some g) :=
  ⟨h.os, h.tape, h.output, by have := h.size; simpa [World.setCell, World.drewN] using this, fun k hk hne => by
    rw [Below.heap_setCell (b.drewN n) ⟨g, i, none⟩ v k (fun e => hne (by rw [e]))]
    exact h.block k hk hne⟩
theorem below_grows {a b c : World} {g : Nat} (h : Below a.heap.size a b) (k : b.grownBy c (some g)) : a.grownBy c (some g) :=
  ⟨k.os.trans h.os, k.tape.trans h.tape, k.output.trans h.output, Nat.le_trans h.size k.size, fun i hi hne => (k.block i (Nat.lt_of_lt_of_le hi h.size) hne).trans (h.block i hi)⟩
theorem idx8 (u : ShaP.V8) (W : World) : ∀ k : Nat, k < 8 → (Instr.index 89 (.agg #[.int .u32 (bv32 u.a), .int .u32 (bv32 u.b), .int .u32 (bv32 u.c), .int .u32 (bv32 u.d), .int .u32 (bv32 u.e), .int .u32 (bv32 u.f), .int .u32 (bv32 u.g), .int .u32 (bv32 u.h)]) (.int .i64 (k : Int))).run Try.prog W = .ok (.int .u32 (bv32 (u.list.getD k 0))) W
  | 0, _ => by kernel_rfl
  | 1, _ => by kernel_rfl
  | 2, _ => by kernel_rfl
  | 3, _ => by kernel_rfl
  | 4, _ => by kernel_rfl
  | 5, _ => by kernel_rfl
  | 6, _ => by kernel_rfl
  | 7, _ => by kernel_rfl
  | k + 8, h => by omega
set_option maxRecDepth 4000 in
set_option maxHeartbeats 2000000 in
theorem sha_take (gs gk : Nat) (A : Option Addr) (c B : Nat) (b : List UInt8) (v : ShaP.V8) (w : World) (hs : ArrV w gs (u32s v.list)) (hk : ArrV w gk (u32s ShaP.K)) (hne : gs ≠ gk) (hb : Sl w B A 64 c b) (hB : B ≤ w.heap.size) (hA : ∀ ad, A = some ad → ad.block ≠ gs) :
    Calls Try.prog 44 #[.pointer (some ⟨gs, 0, none⟩), .slice A 64 c, .pointer (some ⟨gk, 0, none⟩)] w fun e w' => e = .returned (.tuple #[]) ∧ ArrV w' gs (u32s (ShaP.compress v b).list) ∧ w.grownBy w' (some gs) := by
  obtain ⟨hn, hnc, hcm, hr⟩ := id hb
  unfold maxLen at hcm
  obtain ⟨ad, hA', _, _⟩ := hr.at_ 0 (by simp; omega)
  subst hA'
  go_enter Try.func44, Try.ntmps44
  go_wp2_with fail
  go_loopw [19] (fun i wr => ∃ k : Nat, k ≤ 16 ∧ i = .int .i64 (k : Int) ∧ Laid wr w.heap.size b k ∧ Below w.heap.size w wr) (fun i _ => 16 - (intOf i).toNat)
  case atStart =>
    refine ⟨0, by omega, rfl, ⟨List.replicate 64 0#32, ?_, by simp, by omega⟩, (Below.refl _ _).alloc (Nat.le_refl _) _⟩
    exact ArrV.made w _ _
  case round =>
    obtain ⟨k, hk16, rfl, hL, hBw⟩ := hrel
    by_cases hlt : k < 16
    · obtain ⟨xs, hX, hxl, hxs⟩ := hL
      obtain ⟨x, hX', hx⟩ : ∃ x : Nat → UInt8, (∀ j, j < 4 → wr.cell? (ad.add (4 * k + j)) = some (b8 (x j))) ∧ ∀ j, j < 4 → x j = b.getD (4 * k + j) 0 := by
        refine ⟨fun j => b.getD (4 * k + j) 0, fun j hj => ?_, fun j _ => rfl⟩
        have hlen : 4 * k + j < b.length := by omega
        obtain ⟨ad', e, _, hc⟩ := (hr.below (hBw.mono hB)).at_ (4 * k + j) (by simpa using hlen)
        injection e with e
        subst e
        rw [hc]
        simp [List.getD_eq_getElem?_getD, hlen]
      have c0 := hX' 0 (by omega)
      have c1 := hX' 1 (by omega)
      have c2 := hX' 2 (by omega)
      have c3 := hX' 3 (by omega)
      rw [Nat.add_zero] at c0
      have HXS := Lib.hid hxs
      have HX := Lib.hid hx
      have hlt32 : k < xs.length := by omega
      have q1 := hX.cell (i := k) (by simpa using hlt32)
      have q2 := hX.frozen k
      have HSET := Lib.hid (hX.set k)
      have t0 := (x 0).toNat_lt
      have t1 := (x 1).toNat_lt
      have t2 := (x 2).toNat_lt
      have t3 := (x 3).toNat_lt
      have HXL := Lib.hid hxl
      clear hxs hx hX' hX hxl
      go_upto_region 4 with fail
      have d1 : wr.cell? ⟨ad.block, ad.off + (4 * k + 1), none⟩ = some (b8 (x 1)) := c1
      have d2 : wr.cell? ⟨ad.block, ad.off + (4 * k + 2), none⟩ = some (b8 (x 2)) := c2
      have d3 : wr.cell? ⟨ad.block, ad.off + (4 * k + 3), none⟩ = some (b8 (x 3)) := c3
      have hqq := And.intro c0 (And.intro d1 (And.intro d2 d3))
      refine wp_region_st 35 (by kernel_rfl) (by kernel_rfl) ?_
      simp only [List.take_succ_cons, List.take_zero, List.drop_succ_cons, List.drop_zero]
      repeat ((refine wpS_value (v := ?_) rfl ?_ ?_; rotate_left; (focus (simp [go_sem, hqq, ↓IntWalk.iteOmega]; (try go_ints); first | done | (with_reducible rfl))); (simp only [Act.put, List.setIfInBounds_toArray, List.set_cons_succ, List.set_cons_zero])))
      refine wpStill_nil ?_
      go_wp2
      go_roundw
      case rel =>
        refine ⟨k + 1, by omega, by go_num, ⟨xs.set k (ShaP.sw b k), ?_, by simp [HXL.out], fun j hj => ?_⟩, ?_⟩
        · have e1 := HSET.out (.int .u32 (bv32 (ShaP.sw b k)))
          rw [ShaP.sw_first b k hlt] at e1 ⊢
          have e2 : bv32 (ShaP.wordAt b k) = bits .or .u32 (bits .or .u32 (bits .or .u32 (((x 0).toNat : Int) * 16777216) (((x 1).toNat : Int) * 65536)) (((x 2).toNat : Int) * 256)) ((x 3).toNat : Int) := by
            rw [or_be4, HX.out 0 (by omega), HX.out 1 (by omega), HX.out 2 (by omega), HX.out 3 (by omega)]
            rfl
          unfold u32s at e1 ⊢
          rw [List.map_set]
          rw [e2] at e1 ⊢
          exact e1
        · by_cases hjk : j = k
          · subst hjk
            simp [List.getD_eq_getElem?_getD, hlt32]
          · rw [← HXS.out j (by omega)]
            simp only [List.getD_eq_getElem?_getD]
            rw [List.getElem?_set_ne (fun e => hjk e.symm)]
        · exact Below.setCell (Below.trans hBw ((Grew.drewN wr 1).mono hBw.size)) (Nat.le_refl _) _
      case measure => simp [intOf]; omega
    · obtain rfl : k = 16 := by omega
      go_wp2_with fail
      go_loopw [8] (fun i wr => ∃ j : Nat, j ≤ 48 ∧ i = .int .i64 ((j : Int) + 16) ∧ Laid wr w.heap.size b (j + 16) ∧ Below w.heap.size w wr) (fun i _ => 64 - (intOf i).toNat)
      case atStart => exact ⟨0, by omega, rfl, hL, hBw⟩
      case round =>
        clear hL hBw
        obtain ⟨j, hj48, rfl, hL, hBw⟩ := hrel
        by_cases hlt : j < 48
        · have hI : (j : Int) + 16 < 64 := by omega
          have f1 := Laid.cell hL (j := j) (by omega) (by omega)
          have f2 := Laid.cell hL (j := j + 1) (by omega) (by omega)
          have f3 := Laid.cell hL (j := j + 9) (by omega) (by omega)
          have f4 := Laid.cell hL (j := j + 14) (by omega) (by omega)
          obtain ⟨xs, hX, hxl, hxs⟩ := hL
          have hlt32 : j + 16 < xs.length := by omega
          have q1 := hX.cell (i := j + 16) (by simpa using hlt32)
          have q2 := hX.frozen (j + 16)
          have HSET := Lib.hid (hX.set (j + 16))
          have hnx := ShaP.sw_next b (j + 16) (by omega) (by omega)
          rw [show j + 16 - 16 = j by omega, show j + 16 - 15 = j + 1 by omega, show j + 16 - 7 = j + 9 by omega, show j + 16 - 2 = j + 14 by omega] at hnx
          obtain ⟨X, hXe⟩ : ∃ X, X = ShaP.sw b (j + 1) := ⟨_, rfl⟩
          obtain ⟨Y, hYe⟩ : ∃ Y, Y = ShaP.sw b (j + 14) := ⟨_, rfl⟩
          obtain ⟨U, hUe⟩ : ∃ U, U = ShaP.sw b j := ⟨_, rfl⟩
          obtain ⟨V, hVe⟩ : ∃ V, V = ShaP.sw b (j + 9) := ⟨_, rfl⟩
          rw [← hUe] at f1 hnx
          rw [← hXe] at f2 hnx
          rw [← hVe] at f3 hnx
          rw [← hYe] at f4 hnx
          have HNX := Lib.hid hnx
          have HXS := Lib.hid hxs
          have HXL := Lib.hid hxl
          clear hXe hYe hUe hVe hnx hxs hxl
          have F1 := Lib.hid f1
          have F2 := Lib.hid f2
          have F3 := Lib.hid f3
          have F4 := Lib.hid f4
          have HX := Lib.hid hX
          clear f1 f2 f3 f4 q1 q2 hX
          go_upto_region 9 with fail
          have hg1 : ∀ y : GrewOf wr, y.1.cell? ⟨w.heap.size, j + 1, none⟩ = some (.int .u32 (bv32 X)) := fun y => (Below.cell y.2 (p := ⟨w.heap.size, j + 1, none⟩) HX.out.lt).trans F2.out
          have hg2 : ∀ y : GrewOf wr, y.1.cell? ⟨w.heap.size, j + 14, none⟩ = some (.int .u32 (bv32 Y)) := fun y => (Below.cell y.2 (p := ⟨w.heap.size, j + 14, none⟩) HX.out.lt).trans F4.out
          have hqq := And.intro hg1 hg2
          refine wp_region_x [] (by kernel_rfl) (by kernel_rfl) (by kernel_rfl) ?_
          simp only [blank, List.foldl_nil]
          repeat ((refine wpX_value (v := ?_) rfl (by intros; simp) rfl rfl (fun x => ?_) ?_; rotate_left; (focus (simp [go_sem, hqq, ↓IntWalk.iteOmega]; (try go_ints); first | done | (with_reducible rfl))); (simp only [Act.put, List.setIfInBounds_toArray, List.set_cons_succ, List.set_cons_zero])))
          (refine wpX_nil ?_; intro xb wx hxg xl; obtain ⟨xf, xe⟩ := LikeAll.end_ xl; clear xl; subst xe; simp only [fill, List.foldl_nil, Act.put])
          clear hqq hg1 hg2
          have hX2 := HX.out.grew hxg
          have g1 : wx.cell? ⟨w.heap.size, j, none⟩ = some (.int .u32 (bv32 U)) := (Below.cell hxg (p := ⟨w.heap.size, j, none⟩) HX.out.lt).trans F1.out
          have g3 : wx.cell? ⟨w.heap.size, j + 9, none⟩ = some (.int .u32 (bv32 V)) := (Below.cell hxg (p := ⟨w.heap.size, j + 9, none⟩) HX.out.lt).trans F3.out
          have G1 := Lib.hid g1
          have G3 := Lib.hid g3
          have HX2 := Lib.hid hX2
          clear g1 g3 hX2
          go_upto_region 10 with fail
          have hqq := And.intro G1.out G3.out
          refine wp_region_st 29 (by kernel_rfl) (by kernel_rfl) ?_
          simp only [List.take_succ_cons, List.take_zero, List.drop_succ_cons, List.drop_zero]
          repeat (first
            | (refine wpS_value (v := ?_) rfl ?_ ?_; rotate_left; (focus (simp [go_sem, hqq, ↓IntWalk.iteOmega]; (try go_ints); first | done | (with_reducible rfl))); (simp only [Act.put, List.setIfInBounds_toArray, List.set_cons_succ, List.set_cons_zero]))
            | (refine wpS_call (.int .u32 (bv32 (ShaP.rotr X 7))) _ _ rfl ?_ (sha_turn X 7 (by decide) (by decide) _) ?_; (focus (simp [go_sem]; done)); (simp only [Act.put, List.setIfInBounds_toArray, List.set_cons_succ, List.set_cons_zero]))
            | (refine wpS_call (.int .u32 (bv32 (ShaP.rotr X 18))) _ _ rfl ?_ (sha_turn X 18 (by decide) (by decide) _) ?_; (focus (simp [go_sem]; done)); (simp only [Act.put, List.setIfInBounds_toArray, List.set_cons_succ, List.set_cons_zero]))
            | (refine wpS_call (.int .u32 (bv32 (ShaP.rotr Y 17))) _ _ rfl ?_ (sha_turn Y 17 (by decide) (by decide) _) ?_; (focus (simp [go_sem]; done)); (simp only [Act.put, List.setIfInBounds_toArray, List.set_cons_succ, List.set_cons_zero]))
            | (refine wpS_call (.int .u32 (bv32 (ShaP.rotr Y 19))) _ _ rfl ?_ (sha_turn Y 19 (by decide) (by decide) _) ?_; (focus (simp [go_sem]; done)); (simp only [Act.put, List.setIfInBounds_toArray, List.set_cons_succ, List.set_cons_zero])))
          refine wpStill_nil ?_
          have q1 := HX2.out.cell (i := j + 16) (by simpa using hlt32)
          have q2 := HX2.out.frozen (j + 16)
          clear hqq
          go_wp2
          go_roundw
          case rel =>
            refine ⟨j + 1, by omega, by go_num, ⟨xs.set (j + 16) (ShaP.sw b (j + 16)), ?_, by simp [HXL.out], fun i hi => ?_⟩, ?_⟩
            · have e1 := (HX2.out.drewN 1).set (j + 16) (.int .u32 (bv32 (ShaP.sw b (j + 16))))
              unfold u32s at e1 ⊢
              rw [List.map_set]
              rw [HNX.out] at e1 ⊢
              exact e1
            · by_cases hij : i = j + 16
              · subst hij
                simp [List.getD_eq_getElem?_getD, hlt32]
              · rw [← HXS.out i (by omega)]
                simp only [List.getD_eq_getElem?_getD]
                rw [List.getElem?_set_ne (fun e => hij e.symm)]
            · exact Below.setCell (Below.trans hBw ((Grew.trans hxg (Grew.drewN wx 1)).mono hBw.size)) (Nat.le_refl _) _
          case measure => simp [intOf]; omega
        · obtain rfl : j = 48 := by omega
          obtain ⟨wo, rfl⟩ : ∃ wo : World, wo = wr := ⟨_, rfl⟩
          have hsr := hs.below hBw hs.lt
          have hkr := hk.below hBw hk.lt
          obtain ⟨p0, p1, p2, p3, p4, p5, p6, p7⟩ := hsr.eight
          have HSR := Lib.hid hsr
          have HKR := Lib.hid hkr
          have HL := Lib.hid hL
          have hsz := hBw.size
          clear hsr hkr hL
          go_wp2_with fail
          have hV0 : ArrV (wo.alloc (.cells #[.int .u32 (bv32 v.a), .int .u32 (bv32 v.b), .int .u32 (bv32 v.c), .int .u32 (bv32 v.d), .int .u32 (bv32 v.e), .int .u32 (bv32 v.f), .int .u32 (bv32 v.g), .int .u32 (bv32 v.h)] 89)) wo.heap.size (u32s v.list) := ArrV.made wo _ _
          clear p0 p1 p2 p3 p4 p5 p6 p7
          have hBa : Below wo.heap.size wo (wo.alloc (.cells #[.int .u32 (bv32 v.a), .int .u32 (bv32 v.b), .int .u32 (bv32 v.c), .int .u32 (bv32 v.d), .int .u32 (bv32 v.e), .int .u32 (bv32 v.f), .int .u32 (bv32 v.g), .int .u32 (bv32 v.h)] 89)) := (Below.refl _ _).alloc (Nat.le_refl _) _
          obtain ⟨gv, hgv⟩ : ∃ gv, gv = wo.heap.size := ⟨_, rfl⟩
          rw [← hgv] at hV0 ⊢
          have HGV := Lib.hid hgv
          clear hgv
          go_loopw [102] (fun i wy => ∃ n : Nat, n ≤ 64 ∧ i = .int .i64 (n : Int) ∧ ArrV wy gv (u32s (ShaP.upto v b n).list) ∧ Below wo.heap.size wo wy) (fun i _ => 64 - (intOf i).toNat)
          case atStart => exact ⟨0, by omega, rfl, hV0, hBa⟩
          case round =>
            obtain ⟨n, hn64, rfl, hV, hBy⟩ := hrel
            have hszy := hBy.size
            by_cases hlt : n < 64
            · obtain ⟨u, hu⟩ : ∃ u, u = ShaP.upto v b n := ⟨_, rfl⟩
              have hrnd := ShaP.upto_succ v b n hlt
              rw [← hu] at hV hrnd
              obtain ⟨kk, hkk⟩ : ∃ x, x = ShaP.K.getD n 0 := ⟨_, rfl⟩
              obtain ⟨ww, hww⟩ : ∃ x, x = ShaP.sw b n := ⟨_, rfl⟩
              rw [← hkk, ← hww] at hrnd
              have e1 : wr.cell? ⟨gk, n, none⟩ = some (.int .u32 (bv32 kk)) := by
                have h1 := HKR.out.below hBy HKR.out.lt
                rw [h1.cell (i := n) (by simp [ShaP.K_len, hlt]), hkk]
                have : n < ShaP.K.length := by rw [ShaP.K_len]; exact hlt
                simp [List.getD_eq_getElem?_getD, this]
              have e2 : wr.cell? ⟨w.heap.size, n, none⟩ = some (.int .u32 (bv32 ww)) := by
                have h1 := Laid.cell HL.out (j := n) (by omega) hlt
                have h2 : w.heap.size < wo.heap.size := by
                  obtain ⟨xs, hX, _⟩ := HL.out
                  exact hX.lt
                rw [Below.cell hBy (p := ⟨w.heap.size, n, none⟩) h2, hww]
                exact h1
              have HRND := Lib.hid hrnd
              have HV := Lib.hid hV
              have HE1 := Lib.hid e1
              have HE2 := Lib.hid e2
              have hlk : gk < wr.heap.size := (HKR.out.below hBy HKR.out.lt).lt
              have hlw : w.heap.size < wr.heap.size := by
                obtain ⟨xs, hX, _⟩ := HL.out
                exact Nat.lt_of_lt_of_le hX.lt hszy
              have facts : ∀ y : World, Grew wr y → (y.cell? ⟨gv, 0, none⟩ = some (.int .u32 (bv32 u.a)) ∧ y.cell? ⟨gv, 1, none⟩ = some (.int .u32 (bv32 u.b)) ∧ y.cell? ⟨gv, 2, none⟩ = some (.int .u32 (bv32 u.c)) ∧ y.cell? ⟨gv, 3, none⟩ = some (.int .u32 (bv32 u.d)) ∧
                  y.cell? ⟨gv, 4, none⟩ = some (.int .u32 (bv32 u.e)) ∧ y.cell? ⟨gv, 5, none⟩ = some (.int .u32 (bv32 u.f)) ∧ y.cell? ⟨gv, 6, none⟩ = some (.int .u32 (bv32 u.g)) ∧ y.cell? ⟨gv, 7, none⟩ = some (.int .u32 (bv32 u.h))) ∧ y.cell? ⟨gk, n, none⟩ = some (.int .u32 (bv32 kk)) ∧ y.cell? ⟨w.heap.size, n, none⟩ = some (.int .u32 (bv32 ww)) :=
                fun y hy => ⟨(HV.out.grew hy).eight, (Below.cell hy (p := ⟨gk, n, none⟩) hlk).trans HE1.out, (Below.cell hy (p := ⟨w.heap.size, n, none⟩) hlw).trans HE2.out⟩
              have FACTS := Lib.hid facts
              clear facts e1 e2 hV hrnd hu hkk hww
              have hI1 : (n : Int) < 64 := by omega
              go_upto_region 15 with fail
              have hqq := fun y : GrewOf wr => FACTS.out y.1 y.2
              refine wp_region_x [] (by kernel_rfl) (by kernel_rfl) (by kernel_rfl) ?_
              simp only [blank, List.foldl_nil]
              repeat ((refine wpX_value (v := ?_) rfl (by intros; simp) rfl rfl (fun x => ?_) ?_; rotate_left; (focus (simp [go_sem, hqq]; (try go_ints); first | done | (with_reducible rfl))); (simp only [Act.put, List.setIfInBounds_toArray, List.set_cons_succ, List.set_cons_zero])))
              (refine wpX_nil ?_; intro xb wx hxg xl; obtain ⟨xf, xe⟩ := LikeAll.end_ xl; clear xl; subst xe; simp only [fill, List.foldl_nil, Act.put])
              clear hqq
              have hg15 := hxg
              clear hxg
              go_upto_region 16 with fail
              have hqq := fun y : GrewOf wx => FACTS.out y.1 (Grew.trans hg15 y.2)
              refine wp_region_x [] (by kernel_rfl) (by kernel_rfl) (by kernel_rfl) ?_
              simp only [blank, List.foldl_nil]
              repeat (first
                | (refine wpX_value (v := ?_) rfl (by intros; simp) rfl rfl (fun x => ?_) ?_; rotate_left; (focus (simp [go_sem, hqq, ↓IntWalk.iteOmega]; (try go_ints); first | done | (with_reducible rfl))); (simp only [Act.put, List.setIfInBounds_toArray, List.set_cons_succ, List.set_cons_zero]))
                | (refine wpX_call (.int .u32 (bv32 (ShaP.rotr u.e 6))) _ _ rfl (by intros; simp) rfl rfl (fun _ => ?_) (fun w' _ => (sha_turn u.e 6 (by decide) (by decide) w').mono fun _ _ h => ⟨h.1, h.2 ▸ Grew.refl _⟩) ?_; (focus (simp [go_sem]; done)); (simp only [Act.put, List.setIfInBounds_toArray, List.set_cons_succ, List.set_cons_zero]))
                | (refine wpX_call (.int .u32 (bv32 (ShaP.rotr u.e 11))) _ _ rfl (by intros; simp) rfl rfl (fun _ => ?_) (fun w' _ => (sha_turn u.e 11 (by decide) (by decide) w').mono fun _ _ h => ⟨h.1, h.2 ▸ Grew.refl _⟩) ?_; (focus (simp [go_sem]; done)); (simp only [Act.put, List.setIfInBounds_toArray, List.set_cons_succ, List.set_cons_zero]))
                | (refine wpX_call (.int .u32 (bv32 (ShaP.rotr u.e 25))) _ _ rfl (by intros; simp) rfl rfl (fun _ => ?_) (fun w' _ => (sha_turn u.e 25 (by decide) (by decide) w').mono fun _ _ h => ⟨h.1, h.2 ▸ Grew.refl _⟩) ?_; (focus (simp [go_sem]; done)); (simp only [Act.put, List.setIfInBounds_toArray, List.set_cons_succ, List.set_cons_zero])))
              (refine wpX_nil ?_; intro xb wx hxg xl; obtain ⟨xf, xe⟩ := LikeAll.end_ xl; clear xl; subst xe; simp only [fill, List.foldl_nil, Act.put])
              clear hqq
              have hg16 := Grew.trans hg15 hxg
              clear hxg hg15
              go_upto_region 17 with fail
              have hqq := fun y : GrewOf wx => FACTS.out y.1 (Grew.trans hg16 y.2)
              refine wp_region_x [] (by kernel_rfl) (by kernel_rfl) (by kernel_rfl) ?_
              simp only [blank, List.foldl_nil]
              repeat (first
                | (refine wpX_value (v := ?_) rfl (by intros; simp) rfl rfl (fun x => ?_) ?_; rotate_left; (focus (simp [go_sem, hqq]; (try go_ints); first | done | (with_reducible rfl))); (simp only [Act.put, List.setIfInBounds_toArray, List.set_cons_succ, List.set_cons_zero]))
                | (refine wpX_call (.int .u32 (bv32 (ShaP.rotr u.a 2))) _ _ rfl (by intros; simp) rfl rfl (fun _ => ?_) (fun w' _ => (sha_turn u.a 2 (by decide) (by decide) w').mono fun _ _ h => ⟨h.1, h.2 ▸ Grew.refl _⟩) ?_; (focus (simp [go_sem]; done)); (simp only [Act.put, List.setIfInBounds_toArray, List.set_cons_succ, List.set_cons_zero]))
                | (refine wpX_call (.int .u32 (bv32 (ShaP.rotr u.a 13))) _ _ rfl (by intros; simp) rfl rfl (fun _ => ?_) (fun w' _ => (sha_turn u.a 13 (by decide) (by decide) w').mono fun _ _ h => ⟨h.1, h.2 ▸ Grew.refl _⟩) ?_; (focus (simp [go_sem]; done)); (simp only [Act.put, List.setIfInBounds_toArray, List.set_cons_succ, List.set_cons_zero]))
                | (refine wpX_call (.int .u32 (bv32 (ShaP.rotr u.a 22))) _ _ rfl (by intros; simp) rfl rfl (fun _ => ?_) (fun w' _ => (sha_turn u.a 22 (by decide) (by decide) w').mono fun _ _ h => ⟨h.1, h.2 ▸ Grew.refl _⟩) ?_; (focus (simp [go_sem]; done)); (simp only [Act.put, List.setIfInBounds_toArray, List.set_cons_succ, List.set_cons_zero])))
              (refine wpX_nil ?_; intro xb wx hxg xl; obtain ⟨xf, xe⟩ := LikeAll.end_ xl; clear xl; subst xe; simp only [fill, List.foldl_nil, Act.put])
              clear hqq
              have hg17 := Grew.trans hg16 hxg
              have hV17 := HV.out.grew hg17
              obtain ⟨p0, p1, p2, p3, p4, p5, p6, p7⟩ := hV17.eight
              have z0 := hV17.frozen 0
              have z1 := hV17.frozen 1
              have z2 := hV17.frozen 2
              have z3 := hV17.frozen 3
              have z4 := hV17.frozen 4
              have z5 := hV17.frozen 5
              have z6 := hV17.frozen 6
              have z7 := hV17.frozen 7
              have HV17 := Lib.hid hV17
              clear hxg hg16 hV17
              go_wp2_with fail
              go_roundw
              case rel =>
                refine ⟨n + 1, by omega, by go_num, ?_, ?_⟩
                · have h8 := (((((((HV17.out.set 0 (.int .u32 (bv32 (ShaP.t1 u kk ww + ShaP.t2 u)))).set 1 (.int .u32 (bv32 u.a))).set 2 (.int .u32 (bv32 u.b))).set 3 (.int .u32 (bv32 u.c))).set 4 (.int .u32 (bv32 (u.d + ShaP.t1 u kk ww)))).set 5 (.int .u32 (bv32 u.e))).set 6 (.int .u32 (bv32 u.f))).set 7 (.int .u32 (bv32 u.g))
                  rw [HRND.out]
                  exact h8
                · iterate 8 (refine Below.setCell ?_ (by rw [HGV.out]; exact Nat.le_refl _) _)
                  exact hBy.trans (hg17.mono hszy)
              case measure => simp [intOf]; omega
            · obtain rfl : n = 64 := by omega
              obtain ⟨u, hu⟩ : ∃ u, u = ShaP.upto v b 64 := ⟨_, rfl⟩
              rw [← hu] at hV
              have HU := Lib.hid hu
              have hS := HSR.out.below hBy HSR.out.lt
              have HS := Lib.hid hS
              obtain ⟨p0, p1, p2, p3, p4, p5, p6, p7⟩ := hV.eight
              have hBz : Below w.heap.size w wr := hBw.trans (hBy.mono hsz)
              clear hu hS hV
              go_wp2_with fail
              obtain ⟨wp, rfl⟩ : ∃ wp : World, wp = wr := ⟨_, rfl⟩
              clear p0 p1 p2 p3 p4 p5 p6 p7
              go_loopw [185] (fun i wz => ∃ k : Nat, k ≤ 8 ∧ i = .int .i64 (k : Int) ∧ ArrV wz gs (u32s (mix8 v u k)) ∧ wp.grownBy wz (some gs)) (fun i _ => 8 - (intOf i).toNat)
              case atStart => exact ⟨0, by omega, rfl, HS.out, ⟨rfl, rfl, rfl, Nat.le_refl _, fun _ _ _ => rfl⟩⟩
              case round =>
                obtain ⟨k, hk8, rfl, hM, hgr⟩ := hrel
                by_cases hlt : k < 8
                · have hix := fun W => idx8 u W k hlt
                  have hI1 : (k : Int) < 8 := by omega
                  have c1 := hM.atSome (mix8_at v u k hlt)
                  have z1 := hM.frozen k
                  have HM := Lib.hid hM
                  have hst := hM.set k (.int .u32 (bv32 (v.list.getD k 0 + u.list.getD k 0)))
                  unfold u32s at hst
                  have hst2 : ((mix8 v u k).map fun x => Value.int .u32 (bv32 x)).set k (.int .u32 (bv32 (v.list.getD k 0 + u.list.getD k 0))) = (mix8 v u (k + 1)).map fun x => Value.int .u32 (bv32 x) := by
                    rw [← mix8_set v u k hlt, List.map_set]
                  rw [hst2] at hst
                  have HST := Lib.hid hst
                  obtain ⟨vk, hvk⟩ : ∃ x, x = v.list.getD k 0 := ⟨_, rfl⟩
                  obtain ⟨uk, huk⟩ : ∃ x, x = u.list.getD k 0 := ⟨_, rfl⟩
                  rw [← hvk] at c1 HST
                  rw [← huk] at hix HST
                  clear hst hst2 hM hvk huk
                  go_upto_region 23 with fail
                  have hqq := c1
                  refine wp_region_st 9 (by kernel_rfl) (by kernel_rfl) ?_
                  simp only [List.take_succ_cons, List.take_zero, List.drop_succ_cons, List.drop_zero]
                  repeat ((refine wpS_value (v := ?_) rfl ?_ ?_; rotate_left; (focus (simp [go_sem, hqq, ↓IntWalk.iteOmega]; (try go_ints); first | done | (with_reducible rfl))); (simp only [Act.put, List.setIfInBounds_toArray, List.set_cons_succ, List.set_cons_zero])))
                  refine wpStill_nil ?_
                  clear hqq
                  go_wp2
                  go_roundw
                  case rel => exact ⟨k + 1, by omega, by go_num, HST.out, grown_store hgr⟩
                  case measure => simp [intOf]; omega
                · obtain rfl : k = 8 := by omega
                  go_wp2_with fail
                  go_end0
                  rw [mix8_all, HU.out] at hM
                  exact ⟨rfl, hM, below_grows hBz hgr⟩
end Go.Proofs.Ytohgkadbajmphaa
