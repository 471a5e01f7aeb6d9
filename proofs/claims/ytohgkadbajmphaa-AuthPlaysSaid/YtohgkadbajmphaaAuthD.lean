/- The walks of rolodexref2.digit and Unhex. -/
import Derived.Test.YtohgkadbajmphaaAuthA
import Derived.Test.YtohgkadbajmphaaClass
import Derived.Test.YtohgkadbajmphaaRefBlock
import Derived.Test.YtohgkadbajmphaaAuthB
import Derived.Test.YtohgkadbajmphaaRefHex
namespace Go.Proofs.Ytohgkadbajmphaa
open Go.RowKit
set_option linter.unusedVariables false
theorem ref_digit (x : UInt8) (h : ShaP.isd x = true) (w : World) : Calls Try.prog 76 #[b8 x] w fun e w' => e = .returned (.int .u8 ((ShaP.dig x).toNat : Int)) ∧ w = w' := by
  unfold b8
  have hx8 := x.toNat_lt
  have hd := of_decide_eq_true h
  by_cases h1 : 97 ≤ x.toNat
  · have i1 : (97 : Int) ≤ x.toNat := by omega
    have i2 : (x.toNat : Int) ≤ 102 := by omega
    have HV := Lib.hid (show ((ShaP.dig x).toNat : Int) = (x.toNat : Int) - 97 + 10 by unfold ShaP.dig; rw [if_neg (by omega), if_pos (by omega), UInt8.toNat_ofNat']; omega)
    clear h hd h1
    go_enter Try.func76, Try.ntmps76
    go_wp2_with fail
    go_ret
    exact ⟨by rw [HV.out]; rfl, rfl⟩
  · have i1 : (48 : Int) ≤ x.toNat := by omega
    have i2 : (x.toNat : Int) ≤ 57 := by omega
    have HV := Lib.hid (show ((ShaP.dig x).toNat : Int) = (x.toNat : Int) - 48 by unfold ShaP.dig; rw [if_pos (by omega), UInt8.toNat_ofNat']; omega)
    have i3 : ¬ (97 : Int) ≤ x.toNat := by omega
    clear h hd h1
    go_enter Try.func76, Try.ntmps76
    go_wp2_with fail
    go_ret
    exact ⟨by rw [HV.out]; rfl, rfl⟩
theorem or16 (p q : Nat) (hp : p ≤ 15) (hq : q ≤ 15) : bits .or .u8 ((p : Int) * 16) (q : Int) = ((16 * p + q : Nat) : Int) := by
  have : ∀ a b : Fin 16, bits .or .u8 ((a.1 : Int) * 16) (b.1 : Int) = ((16 * a.1 + b.1 : Nat) : Int) := by decide +kernel
  exact this ⟨p, by omega⟩ ⟨q, by omega⟩
set_option maxHeartbeats 1000000 in
theorem ref_unhex (s : List UInt8) (w : World) (hm : s.length ≤ 35184372088832) (he : s.length % 2 = 0) (ha : s.all ShaP.isd = true) :
    Calls Try.prog 55 #[.string ⟨s.toArray⟩] w fun e w' => ∃ A n c, e = .returned (.slice A n c) ∧ OwnB w' w.heap.size A n c (ShaP.unhex s) ∧ Below w.heap.size w w' := by
  have hsz : (⟨s.toArray⟩ : ByteArray).size = s.length := by show s.toArray.size = _; simp
  have HE := Lib.hid he
  have HA := Lib.hid ha
  clear he ha
  go_enter Try.func55, Try.ntmps55
  go_wp2_with (refine wpList_make8 w.heap.size 0 .i64 .i64 rfl rfl rfl (Nat.le_refl _) (by omega) ?_; intro w1 hO1 hB1 hz1)
  go_loopw [3, 4] (fun f i wy => ∃ (j : Nat) (A : Option Addr) (c : Nat), 2 * j ≤ s.length ∧ i = .int .i64 (2 * (j : Int)) ∧ f = .slice A j c ∧ OwnB wy w.heap.size A j c (ShaP.unhex (s.take (2 * j))) ∧ Below w.heap.size w wy) (fun _ i _ => s.length - (intOf i).toNat)
  case atStart => exact ⟨0, _, 0, by omega, rfl, rfl, hO1, hB1⟩
  case round =>
    obtain ⟨j, A, c, hj, rfl, rfl, hO, hBr⟩ := hrel
    clear hO1 hB1 hz1
    have HO := Lib.hid hO
    have HBr := Lib.hid hBr
    clear hO hBr
    by_cases hlt : 2 * j < s.length
    · have hlt2 : 2 * j + 1 < s.length := by have := HE.out; omega
      obtain ⟨x, hx⟩ : ∃ x, s[2 * j]? = some x := ⟨_, List.getElem?_eq_getElem hlt⟩
      obtain ⟨y, hy⟩ : ∃ y, s[2 * j + 1]? = some y := ⟨_, List.getElem?_eq_getElem hlt2⟩
      have g1 : ∀ W : World, (Instr.index 9 (.string ⟨s.toArray⟩) (.int .i64 (2 * (j : Int)))).run Try.prog W = .ok (b8 x) W := run_index_text s (2 * j) x hx
      have g2 : ∀ W : World, (Instr.index 9 (.string ⟨s.toArray⟩) (.int .i64 (2 * (j : Int) + 1))).run Try.prog W = .ok (b8 y) W := run_index_text s (2 * j + 1) y hy
      have hgx : ShaP.isd x = true := List.all_eq_true.1 HA.out x (List.mem_of_getElem? hx)
      have hgy : ShaP.isd y = true := List.all_eq_true.1 HA.out y (List.mem_of_getElem? hy)
      have HC1 := Lib.hid (fun W => ref_digit x hgx W)
      have HC2 := Lib.hid (fun W => ref_digit y hgy W)
      have HUT := Lib.hid (unhex_take s j x y hx hy)
      have dx := ShaP.dig_good x hgx
      have dy := ShaP.dig_good y hgy
      obtain ⟨p, hp⟩ : ∃ p, p = (ShaP.dig x).toNat := ⟨_, rfl⟩
      obtain ⟨q, hq⟩ : ∃ q, q = (ShaP.dig y).toNat := ⟨_, rfl⟩
      rw [← hp] at HC1 HUT dx
      rw [← hq] at HC2 HUT dy
      have h16 := or16 p q dx dy
      obtain ⟨z, hz⟩ : ∃ z, z = UInt8.ofNat (16 * p + q) := ⟨_, rfl⟩
      rw [← hz] at HUT
      have hzv : ((16 * p + q : Nat) : Int) = (z.toNat : Int) := by rw [hz, UInt8.toNat_ofNat']; omega
      have G := Lib.hid (And.intro g1 g2)
      have HZ := Lib.hid hzv
      have HJ := Lib.hid hlt2
      have hI : 2 * (j : Int) < (s.length : Int) - 1 := by omega
      have hjm : j ≤ 17592186044416 := by omega
      clear hx hy g1 g2 hp hq hz hzv hgx hgy hlt hlt2
      go_upto_region 5 with fail
      have HB1 := Lib.hid (show Below w.heap.size w (wr.drewN 1) from HBr.out.trans ((Grew.drewN wr 1).mono HBr.out.size))
      refine wp_region_c (fun W => Below w.heap.size w W) (by kernel_rfl) HB1.out ?_
      have HC := HB1
      have hqq := G.out
      (refine wpAnyC_free 0 (oi := ⟨some 13, _, _, _, _, _⟩) (v := ?_) rfl (by kernel_rfl) (by kernel_rfl) (by kernel_rfl) HC.out rfl (fun x => ?_) ?_; rotate_left; (focus (simp [go_sem]; (try go_ints); first | done | (with_reducible rfl))); (simp only [Act.put, List.setIfInBounds_toArray, List.set_cons_succ, List.set_cons_zero]))
      (refine wpAnyC_free 1 (oi := ⟨some 14, _, _, _, _, _⟩) (v := ?_) rfl (by kernel_rfl) (by kernel_rfl) (by kernel_rfl) HC.out rfl (fun x => ?_) ?_; rotate_left; (focus (simp [go_sem]; (try go_ints); first | done | (with_reducible rfl))); (simp only [Act.put, List.setIfInBounds_toArray, List.set_cons_succ, List.set_cons_zero]))
      (refine wpAnyC_free 2 (oi := ⟨some 15, _, _, _, _, _⟩) (v := ?_) rfl (by kernel_rfl) (by kernel_rfl) (by kernel_rfl) HC.out rfl (fun x => ?_) ?_; rotate_left; (focus (simp [go_sem]; (try go_ints); first | done | (with_reducible rfl))); (simp only [Act.put, List.setIfInBounds_toArray, List.set_cons_succ, List.set_cons_zero]))
      (refine wpAnyC_free 3 (oi := ⟨some 16, _, _, _, _, _⟩) (v := ?_) rfl (by kernel_rfl) (by kernel_rfl) (by kernel_rfl) HC.out rfl (fun x => ?_) ?_; rotate_left; (focus (simp [go_sem, hqq]; (try go_ints); first | done | (with_reducible rfl))); (simp only [Act.put, List.setIfInBounds_toArray, List.set_cons_succ, List.set_cons_zero]))
      (refine wpAnyC_free 6 (oi := ⟨some 19, _, _, _, _, _⟩) (v := ?_) rfl (by kernel_rfl) (by kernel_rfl) (by kernel_rfl) HC.out rfl (fun x => ?_) ?_; rotate_left; (focus (simp [go_sem]; (try go_ints); first | done | (with_reducible rfl))); (simp only [Act.put, List.setIfInBounds_toArray, List.set_cons_succ, List.set_cons_zero]))
      (refine wpAnyC_free 7 (oi := ⟨some 20, _, _, _, _, _⟩) (v := ?_) rfl (by kernel_rfl) (by kernel_rfl) (by kernel_rfl) HC.out rfl (fun x => ?_) ?_; rotate_left; (focus (simp [go_sem]; (try go_ints); first | done | (with_reducible rfl))); (simp only [Act.put, List.setIfInBounds_toArray, List.set_cons_succ, List.set_cons_zero]))
      (refine wpAnyC_free 8 (oi := ⟨some 21, _, _, _, _, _⟩) (v := ?_) rfl (by kernel_rfl) (by kernel_rfl) (by kernel_rfl) HC.out rfl (fun x => ?_) ?_; rotate_left; (focus (simp [go_sem]; (try go_ints); first | done | (with_reducible rfl))); (simp only [Act.put, List.setIfInBounds_toArray, List.set_cons_succ, List.set_cons_zero]))
      (refine wpAnyC_free 9 (oi := ⟨some 22, _, _, _, _, _⟩) (v := ?_) rfl (by kernel_rfl) (by kernel_rfl) (by kernel_rfl) HC.out rfl (fun x => ?_) ?_; rotate_left; (focus (simp [go_sem, hqq]; (try go_ints); first | done | (with_reducible rfl))); (simp only [Act.put, List.setIfInBounds_toArray, List.set_cons_succ, List.set_cons_zero]))
      clear hqq
      change wpAnyC _ _ _ _ _ _ _ _ (World.drewN wr 1)
      have HO2 := Lib.hid (HO.out.drewN 1)
      obtain ⟨w3, hw3⟩ : ∃ w3, w3 = World.drewN wr 1 := ⟨_, rfl⟩
      rw [← hw3] at HC HO2 ⊢
      clear hw3 HO HB1 HBr
      refine wpAnyC_step 4 (o := ⟨some 17, _, _, _, _, _⟩) rfl (by kernel_rfl) rfl ?_
      refine wpList_callR rfl _ _ (fun v w' => v = .int .u8 (p : Int) ∧ w3 = w') (by simp [go_sem]) ((HC1.out w3).mono fun e w' ⟨h1, h2⟩ => ⟨_, h1, rfl, h2⟩) ?_
      rintro v w' ⟨rfl, rfl⟩
      (simp only [Act.put, List.setIfInBounds_toArray, List.set_cons_succ, List.set_cons_zero])
      refine wpList_nil ⟨rfl, HC.out, ?_⟩
      (refine wpAnyC_free 5 (oi := ⟨some 18, _, _, _, _, _⟩) (v := ?_) rfl (by kernel_rfl) (by kernel_rfl) (by kernel_rfl) HC.out rfl (fun x => ?_) ?_; rotate_left; (focus (simp [go_sem]; (try go_ints); first | done | (with_reducible rfl))); (simp only [Act.put, List.setIfInBounds_toArray, List.set_cons_succ, List.set_cons_zero]))
      refine wpAnyC_step 10 (o := ⟨some 23, _, _, _, _, _⟩) rfl (by kernel_rfl) rfl ?_
      refine wpList_callR rfl _ _ (fun v w' => v = .int .u8 (q : Int) ∧ w3 = w') (by simp [go_sem]) ((HC2.out w3).mono fun e w' ⟨h1, h2⟩ => ⟨_, h1, rfl, h2⟩) ?_
      rintro v w' ⟨rfl, rfl⟩
      (simp only [Act.put, List.setIfInBounds_toArray, List.set_cons_succ, List.set_cons_zero])
      refine wpList_nil ⟨rfl, HC.out, ?_⟩
      (refine wpAnyC_free 11 (oi := ⟨some 24, _, _, _, _, _⟩) (v := ?_) rfl (by kernel_rfl) (by kernel_rfl) (by kernel_rfl) HC.out rfl (fun x => ?_) ?_; rotate_left; (focus (simp [go_sem, h16]; (try go_ints); first | done | (with_reducible rfl))); (simp only [Act.put, List.setIfInBounds_toArray, List.set_cons_succ, List.set_cons_zero]))
      refine wpAnyC_step 12 (o := ⟨some 25, _, _, _, _, _⟩) rfl (by kernel_rfl) rfl ?_
      refine wpList_value (o := ⟨some 25, _, _, _, _, _⟩) (v := .slice (some ⟨w3.heap.size, 0, none⟩) 1 1) (w' := w3.alloc (.cells #[.int .u8 ((16 * p + q : Nat) : Int)] 5)) rfl (by kernel_rfl) ?_
      have hs3 := HC.out.size
      have HC4 := Lib.hid (show Below w.heap.size w (w3.alloc (.cells #[.int .u8 ((16 * p + q : Nat) : Int)] 5)) from HC.out.alloc hs3 _)
      have HR : Row (w3.alloc (.cells #[.int .u8 ((16 * p + q : Nat) : Int)] 5)) (w3.heap.size + 1) (some ⟨w3.heap.size, 0, none⟩) [b8 z] := Row.new _ _ _ _ _ _ rfl (by omega) _ (by unfold b8; rw [HZ.out])
      have HRr := Lib.hid HR
      have HO4 := Lib.hid (HO2.out.alloc (.cells #[.int .u8 ((16 * p + q : Nat) : Int)] 5))
      clear HR hs3 h16
      (simp only [Act.put, List.setIfInBounds_toArray, List.set_cons_succ, List.set_cons_zero])
      refine wpList_nil ⟨rfl, HC4.out, ?_⟩
      refine wpAnyC_step 13 (o := ⟨some 26, _, _, _, _, _⟩) rfl (by kernel_rfl) rfl ?_
      refine wpList_appn1 rfl (.tmp 13) (.tmp 25) 31 5 (.int .u8 0) 1 rfl Try.underlying31 info_u8 rfl (by omega) w.heap.size _ _ _ _ rfl HO4.out 1 [b8 z] (Src.slice rfl HRr.out) (one_b8s [z]) (j + 1) (by omega) ((ShaP.unhex (s.take (2 * j)) ++ [z]).map b8) (by simp) (by omega) HC4.out.size ?_
      intro A5 c5 w5 hO5 hg5 hB5 hor5
      have HO5 := Lib.hid (show OwnB w5 w.heap.size A5 (j + 1) c5 (ShaP.unhex (s.take (2 * (j + 1)))) by rw [HUT.out]; exact hO5)
      have HC5 := Lib.hid (HC4.out.trans hB5)
      clear hO5 hg5 hB5 hor5 HO4 HC4 HRr
      (simp only [Act.put, List.setIfInBounds_toArray, List.set_cons_succ, List.set_cons_zero])
      refine wpList_nil ⟨rfl, HC5.out, ?_⟩
      have HC := HC5
      (refine wpAnyC_free 14 (oi := ⟨some 3, _, _, _, _, _⟩) (v := ?_) rfl (by kernel_rfl) (by kernel_rfl) (by kernel_rfl) HC.out rfl (fun x => ?_) ?_; rotate_left; (focus (simp [go_sem]; (try go_ints); first | done | (with_reducible rfl))); (simp only [Act.put, List.setIfInBounds_toArray, List.set_cons_succ, List.set_cons_zero]))
      refine wpAnyC_done (by kernel_rfl) (fun _ => ?_) _
      go_wp2_with fail
      go_roundw
      case rel => exact ⟨j + 1, A5, c5, by have := HJ.out; omega, by go_num, rfl, HO5.out, HC5.out⟩
      case measure => have := HJ.out; simp [intOf]; omega
    · have e2 : 2 * j = s.length := by omega
      have HO' := Lib.hid (show OwnB wr w.heap.size A j c (ShaP.unhex s) by have := HO.out; rw [e2, List.take_of_length_le (Nat.le_refl _)] at this; exact this)
      have hI : ¬ 2 * (j : Int) < (s.length : Int) - 1 := by omega
      clear HO hlt e2
      go_wp2_with fail
      go_ret
      exact ⟨A, j, c, rfl, HO'.out, HBr.out⟩
end Go.Proofs.Ytohgkadbajmphaa
namespace Go.Proofs.Ytohgkadbajmphaa
open Go.RowKit
set_option linter.unusedVariables false
theorem parse_short {t : List UInt8} (h : t.length < 4) : AuthP.parse t = none := by
  unfold AuthP.parse
  split
  · rw [List.drop_of_length_le (by omega)]
    rfl
  · rfl
theorem parse_wrong {t : List UInt8} (h : ¬ t.take 3 = AuthP.head) : AuthP.parse t = none := by
  unfold AuthP.parse
  rw [if_neg h]
theorem split_no : ∀ {t : List UInt8}, (∀ x ∈ t, x ≠ 46) → AuthP.split t = none
  | [], _ => rfl
  | x :: r, h => by
    rw [AuthP.split, if_neg (h x (by simp)), split_no (fun y hy => h y (by simp [hy]))]
    rfl
theorem split_yes : ∀ {f s : List UInt8}, (∀ x ∈ f, x ≠ 46) → AuthP.split (f ++ 46 :: s) = some (f, s)
  | [], s, _ => by simp [AuthP.split]
  | x :: r, s, h => by
    rw [List.cons_append, AuthP.split, if_neg (h x (by simp)), split_yes (fun y hy => h y (by simp [hy]))]
    rfl
theorem parse_no {t : List UInt8} (h : ∀ x ∈ t.drop 3, x ≠ 46) : AuthP.parse t = none := by
  unfold AuthP.parse
  split
  · rw [split_no h]
  · rfl
theorem parse_at {t : List UInt8} (h : t.take 3 = AuthP.head) (k : Nat) (hk : t[3 + k]? = some 46) (hf : ∀ x ∈ (t.drop 3).take k, x ≠ 46) :
    AuthP.parse t = if ((t.drop 3).take k).all ShaP.isd = true ∧ k % 2 = 0 ∧ (t.drop (3 + k + 1)).all ShaP.isd = true ∧ (t.drop (3 + k + 1)).length = 64 then (AuthP.claim (ShaP.unhex ((t.drop 3).take k))).map fun c => (c, ShaP.unhex ((t.drop 3).take k), t.drop (3 + k + 1)) else none := by
  have hlt : 3 + k < t.length := by
    rcases Nat.lt_or_ge (3 + k) t.length with h | h
    · exact h
    · rw [List.getElem?_eq_none h] at hk; cases hk
  have e : t.drop 3 = (t.drop 3).take k ++ 46 :: t.drop (3 + k + 1) := by
    have h1 : (t.drop 3).drop k = 46 :: t.drop (3 + k + 1) := by
      rw [List.drop_drop, List.drop_eq_getElem_cons (by omega)]
      congr 1
      rw [List.getElem?_eq_getElem hlt] at hk
      injection hk
    rw [← h1, List.take_append_drop]
  have hl : ((t.drop 3).take k).length = k := by simp; omega
  unfold AuthP.parse
  rw [if_pos h]
  have hs : AuthP.split (t.drop 3) = some ((t.drop 3).take k, t.drop (3 + k + 1)) := by
    conv => lhs; rw [e]
    exact split_yes hf
  rw [hs]
  simp only [hl]
theorem claim_steps {b : List UInt8} {dv ep nu ov : Nat} {s1 s2 s3 s4 : BinP.St} (h1 : BinP.pInt 15 (some b) = (dv, s1)) (h2 : BinP.pUint s1 = (ep, s2)) (h3 : BinP.pUint s2 = (nu, s3)) (h4 : BinP.pUint s3 = (ov, s4)) :
    AuthP.claim b = if s4 = some [] ∧ ep ≤ 1099511627776 ∧ 1 ≤ nu ∧ 1 ≤ ov ∧ ov ≤ 2305843009213693952 then some ⟨dv, ep, nu, ov⟩ else none := by
  unfold AuthP.claim
  rw [h1]
  simp only [h2, h3, h4]
theorem pU_any (s : BinP.St) : BinP.pUint s = ((BinP.pUint s).1, (BinP.pUint s).2) := rfl
theorem pU_none : BinP.pUint none = (0, none) := rfl
theorem pU_no {l : List UInt8} (h : BinP.num l = none) : BinP.pUint (some l) = (0, none) := by simp [BinP.pUint, h]
theorem pU_yes {l : List UInt8} {v k : Nat} (h : BinP.num l = some (v, k)) : BinP.pUint (some l) = (v, some (l.drop k)) := by simp [BinP.pUint, h]
theorem claim_n1 {b : List UInt8} (h : (BinP.pInt 15 (some b)).2 = none) : AuthP.claim b = none := by
  rw [claim_steps (dv := (BinP.pInt 15 (some b)).1) (s1 := none) (Prod.ext rfl h) pU_none pU_none pU_none]
  simp
/-- how the law's read answers -/
def ReadL (w : World) (t : List UInt8) (e : Ending) (w' : World) : Prop :=
  match AuthP.parse t with
  | none => e = .returned (.tuple #[.agg (clv AuthP.none0).toArray, .slice none 0 0, .string ⟨#[]⟩, .bool false]) ∧ Below w.heap.size w w'
  | some (c, b, s) => ∃ A n cp, e = .returned (.tuple #[.agg (clv c).toArray, .slice A n cp, .string ⟨s.toArray⟩, .bool true]) ∧ OwnB w' w.heap.size A n cp b ∧ Below w.heap.size w w'
def ReadG (w W : World) : Prop := ArrV W w.heap.size [.int .i64 0, .int .u64 0, .int .u64 0, .int .i64 0] ∧ Below w.heap.size w W
theorem ReadG.grew {w W W' : World} (h : ReadG w W) (hg : Grew W W') : ReadG w W' := ⟨h.1.grew hg, h.2.trans (hg.mono h.2.size)⟩
theorem ReadG.drewN {w W : World} (h : ReadG w W) (n : Nat) : ReadG w (W.drewN n) := h.grew (Grew.drewN W n)
theorem ReadG.there {w W : World} (h : ReadG w W) {C : List Value} (hl : C.length = 4) (h1 : ∀ v ∈ C, v.oneCell' = true) :
    W.there w.heap.size 0 C.toArray.size ∧ (Try.prog.info? 50).map (·.size) = some C.toArray.size ∧ C.toArray.all (·.oneCell') = true ∧ ArrV (W.setCells w.heap.size 0 C) w.heap.size C := claim_there h.1 rfl hl h1
theorem one_z4 : ∀ v ∈ [Value.int .i64 0, .int .u64 0, .int .u64 0, .int .i64 0], v.oneCell' = true := by intro v hv; simp at hv; rcases hv with rfl | rfl | rfl | rfl <;> rfl
theorem ReadG.no {w W : World} {t : List UInt8} (h : ReadG w W) (hp : AuthP.parse t = none) :
    ReadL w t (.returned (.tuple #[.agg #[.int .i64 0, .int .u64 0, .int .u64 0, .int .i64 0], .slice none 0 0, .string ⟨#[]⟩, .bool false])) (W.setCells w.heap.size 0 [.int .i64 0, .int .u64 0, .int .u64 0, .int .i64 0]) := by
  unfold ReadL
  rw [hp]
  exact ⟨rfl, h.2.trans (below_grown (grown_setCells w.heap.size _ 0 W) h.2.size (fun g e => by injection e with e; omega))⟩
theorem ReadG.load {w W : World} (h : ReadG w W) {C : List Value} (hl : C.length = 4) (h1 : ∀ v ∈ C, v.oneCell' = true) : ∀ V, V = W.setCells w.heap.size 0 C → (loadVar 50 ⟨w.heap.size, 0, none⟩).run Try.prog V = .ok (.agg C.toArray) V := fun V e => by
  rw [e]
  exact claim_load (claim_there h.1 rfl hl h1).2.2.2 hl
theorem ba_toList (l : List UInt8) : (⟨l.toArray⟩ : ByteArray).toList = l := by simp [go_sem]
end Go.Proofs.Ytohgkadbajmphaa
namespace Go.Proofs.Ytohgkadbajmphaa
open Go.RowKit
set_option linter.unusedVariables false
set_option maxRecDepth 100000 in
set_option maxHeartbeats 4000000 in
theorem law_read (t : List UInt8) (w : World) (hm : t.length ≤ 17592186044416) :
    Calls Try.prog 38 #[.string ⟨t.toArray⟩] w (ReadL w t) := by
  have hsz : (⟨t.toArray⟩ : ByteArray).size = t.length := by show t.toArray.size = _; simp
  have HG0 := Lib.hid (show ReadG w (w.alloc (.cells #[.int .i64 0, .int .u64 0, .int .u64 0, .int .i64 0] 50)) from ⟨ArrV.made w _ _, (Below.refl _ _).alloc (Nat.le_refl _) _⟩)
  obtain ⟨w1, hw1⟩ : ∃ w1, w1 = w.alloc (.cells #[.int .i64 0, .int .u64 0, .int .u64 0, .int .i64 0] 50) := ⟨_, rfl⟩
  rw [← hw1] at HG0
  have HW1 := Lib.hid hw1
  have HZ1 := Lib.hid (show w.heap.size < w1.heap.size from HG0.out.1.lt)
  clear hw1
  by_cases h4 : t.length < 4
  · have HP := Lib.hid (parse_short h4)
    have hI : (t.length : Int) < 4 := by omega
    clear h4
    go_enter Try.func38, Try.ntmps38
    go_upto_region 1 with fail
    rw [← HW1.out]
    have HG := HG0
    have HST := Lib.hid (HG.out.there (C := [.int .i64 0, .int .u64 0, .int .u64 0, .int .i64 0]) rfl one_z4)
    have HLD := Lib.hid (HG.out.load (C := [.int .i64 0, .int .u64 0, .int .u64 0, .int .i64 0]) rfl one_z4)
    have HRES := Lib.hid (HG.out.no HP.out)
    go_wp2_with (first | (refine wpList_store_mid rfl 50 (.tmp 2) (.tmp 22) rfl w.heap.size 0 #[.int .i64 0, .int .u64 0, .int .u64 0, .int .i64 0] rfl rfl HST.out.1 HST.out.2.1 HST.out.2.2.1 ?_))
    have hres2 := HLD.out _ rfl
    refine bodyPost_ret (v := .tuple #[.agg #[.int .i64 0, .int .u64 0, .int .u64 0, .int .i64 0], .slice none 0 0, .string ⟨#[]⟩, .bool false]) (by simp [results, Try.results38, asAddr, hres2]) rfl HRES.out
  have hI : ¬ (t.length : Int) < 4 := by omega
  have hI3 : (3 : Int) ≤ (t.length : Int) := by omega
  have hE := show (⟨t.toArray⟩ : ByteArray).extract 0 3 = ⟨(t.take 3).toArray⟩ by rw [ba_extract]; simp
  by_cases hh : ¬ t.take 3 = AuthP.head
  · have HP := Lib.hid (parse_wrong hh)
    have hb : (((⟨t.toArray⟩ : ByteArray).extract 0 3).toList == [118, 49, 46]) = false := by rw [hE, ba_toList]; exact beq_eq_false_iff_ne.2 hh
    clear hh hE h4
    go_enter Try.func38, Try.ntmps38
    go_upto_region 1 with fail
    rw [← HW1.out]
    have HG := HG0
    have HST := Lib.hid (HG.out.there (C := [.int .i64 0, .int .u64 0, .int .u64 0, .int .i64 0]) rfl one_z4)
    have HLD := Lib.hid (HG.out.load (C := [.int .i64 0, .int .u64 0, .int .u64 0, .int .i64 0]) rfl one_z4)
    have HRES := Lib.hid (HG.out.no HP.out)
    go_wp2_with (first | (refine wpList_store_mid rfl 50 (.tmp 2) (.tmp 22) rfl w.heap.size 0 #[.int .i64 0, .int .u64 0, .int .u64 0, .int .i64 0] rfl rfl HST.out.1 HST.out.2.1 HST.out.2.2.1 ?_))
    have hres2 := HLD.out _ rfl
    refine bodyPost_ret (v := .tuple #[.agg #[.int .i64 0, .int .u64 0, .int .u64 0, .int .i64 0], .slice none 0 0, .string ⟨#[]⟩, .bool false]) (by simp [results, Try.results38, asAddr, hres2]) rfl HRES.out
  have hh : t.take 3 = AuthP.head := Classical.not_not.1 hh
  have HH := Lib.hid hh
  have hb : (((⟨t.toArray⟩ : ByteArray).extract 0 3).toList == [118, 49, 46]) = true := by rw [hE, ba_toList, hh]; rfl
  have hl4 : 4 ≤ t.length := by omega
  clear hh hE h4
  go_enter Try.func38, Try.ntmps38
  go_upto_region 1 with fail
  rw [← HW1.out]
  have HG := HG0
  go_wp2_with fail
  clear hb hI hI3 HG0 HW1
  go_loop [6] (fun i => ∃ m : Nat, 3 ≤ m ∧ m ≤ t.length ∧ i = .int .i64 (m : Int) ∧ ∀ x ∈ (t.drop 3).take (m - 3), x ≠ 46) (fun i => t.length - (intOf i).toNat)
  case atStart => exact ⟨3, Nat.le_refl _, by omega, rfl, fun x hx => by simp at hx⟩
  case round =>
    obtain ⟨m, hm3, hml, rfl, hf⟩ := hrel
    have HF := Lib.hid hf
    clear hf
    by_cases hlt : ¬ m < t.length
    · obtain rfl : m = t.length := by omega
      have HP := Lib.hid (parse_no (t := t) (fun x hx => HF.out x (by rw [List.take_of_length_le (by simp)]; exact hx)))
      clear hlt
      have HST := Lib.hid (HG.out.there (C := [.int .i64 0, .int .u64 0, .int .u64 0, .int .i64 0]) rfl one_z4)
      have HLD := Lib.hid (HG.out.load (C := [.int .i64 0, .int .u64 0, .int .u64 0, .int .i64 0]) rfl one_z4)
      have HRES := Lib.hid (HG.out.no HP.out)
      go_wp2_with (first | (refine wpList_store_mid rfl 50 (.tmp 2) (.tmp 62) rfl w.heap.size 0 #[.int .i64 0, .int .u64 0, .int .u64 0, .int .i64 0] rfl rfl HST.out.1 HST.out.2.1 HST.out.2.2.1 ?_))
      have hres2 := HLD.out _ rfl
      refine bodyPost_ret (v := .tuple #[.agg #[.int .i64 0, .int .u64 0, .int .u64 0, .int .i64 0], .slice none 0 0, .string ⟨#[]⟩, .bool false]) (by simp [results, Try.results38, asAddr, hres2]) rfl HRES.out
    have hlt : m < t.length := Classical.not_not.1 hlt
    obtain ⟨x, hx⟩ : ∃ x, t[m]? = some x := ⟨_, List.getElem?_eq_getElem hlt⟩
    have hix := run_index_text t m x hx
    have hI : (m : Int) < (t.length : Int) := by omega
    have hx8 := x.toNat_lt
    by_cases h46 : ¬ x = 46
    · have hx46 : ¬ (x.toNat : Int) = 46 := fun e => h46 (UInt8.toNat.inj (by show x.toNat = 46; omega))
      have HF2 := Lib.hid (show ∀ y ∈ (t.drop 3).take (m + 1 - 3), y ≠ 46 by
        rw [show m + 1 - 3 = (m - 3) + 1 by omega, List.take_add_one, List.getElem?_drop, show 3 + (m - 3) = m by omega, hx]
        intro y hy
        rcases List.mem_append.1 hy with hy | hy
        · exact HF.out y hy
        · simp at hy; rw [hy]; exact h46)
      clear h46 hx
      go_wp2_with fail
      go_round
      case rel => exact ⟨m + 1, by omega, by omega, by go_num, HF2.out⟩
      case measure => simp [intOf]; omega
    have h46 : x = 46 := Classical.not_not.1 h46
    have hx46 : (x.toNat : Int) = 46 := by rw [h46]; rfl
    have hPA := parse_at HH.out (m - 3) (by rw [show 3 + (m - 3) = m by omega, hx, h46]) HF.out
    rw [show 3 + (m - 3) + 1 = m + 1 by omega] at hPA
    obtain ⟨d, hd⟩ : ∃ d, d = m - 3 := ⟨_, rfl⟩
    rw [← hd] at hPA
    obtain ⟨F, hF⟩ : ∃ F, F = (t.drop 3).take d := ⟨_, rfl⟩
    obtain ⟨S, hS⟩ : ∃ S, S = t.drop (m + 1) := ⟨_, rfl⟩
    rw [← hF, ← hS] at hPA
    have hFl : F.length = d := by rw [hF]; simp; omega
    have hEF : (⟨t.toArray⟩ : ByteArray).extract 3 m = ⟨F.toArray⟩ := by rw [ba_extract, hF, hd]
    have hES : (⟨t.toArray⟩ : ByteArray).extract (m + 1) t.length = ⟨S.toArray⟩ := by rw [ba_extract, hS, List.take_of_length_le (by simp)]
    have HSl := Lib.hid (show S.length ≤ t.length by rw [hS]; simp)
    have hsub : (m : Int) - 3 = (d : Int) := by omega
    have hD1 := fun W => ref_digits F d W (by unfold maxLen; omega)
    rw [hFl, show (decide (d = d)) = true from decide_eq_true rfl, Bool.and_true] at hD1
    have hD2 := fun W => ref_digits S 64 W (by unfold maxLen; have := HSl.out; omega)
    obtain ⟨d1, hd1⟩ : ∃ b, b = F.all ShaP.isd := ⟨_, rfl⟩
    obtain ⟨d2, hd2⟩ : ∃ b, b = (S.all ShaP.isd && decide (S.length = 64)) := ⟨_, rfl⟩
    rw [← hd1] at hD1
    rw [← hd2] at hD2
    have HD1 : Hid (∀ W, Calls Try.prog 27 #[.string ((⟨t.toArray⟩ : ByteArray).extract 3 m), .int .i64 (d : Int)] W fun e w' => e = .returned (.bool d1) ∧ W = w') := Lib.hid (by rw [hEF]; exact hD1)
    have HD2 : Hid (∀ W, Calls Try.prog 27 #[.string ((⟨t.toArray⟩ : ByteArray).extract (m + 1) t.length), .int .i64 64] W fun e w' => e = .returned (.bool d2) ∧ W = w') := Lib.hid (by rw [hES]; exact hD2)
    have HPA := Lib.hid hPA
    have Hd1 := Lib.hid hd1
    have Hd2 := Lib.hid hd2
    have HEF := Lib.hid hEF
    have HES := Lib.hid hES
    have HFl := Lib.hid hFl
    have hI1 : ¬ (m : Int) = (t.length : Int) := by omega
    have hI2 : (3 : Int) ≤ (m : Int) := by omega
    have hI3 : (m : Int) ≤ (t.length : Int) := by omega
    have hI4 : (m : Int) + 1 ≤ (t.length : Int) := by omega
    have hd0 : d ≤ t.length := by omega
    clear hPA hd1 hd2 hD1 hD2 hEF hES hFl hS hF h46 hx hlt HF hl4 hd
    rcases d1 with _ | _
    · have HP := Lib.hid (show AuthP.parse t = none by rw [HPA.out, if_neg (fun h => by rw [← Hd1.out] at h; exact absurd h.1 (by decide))])
      have HST := Lib.hid (HG.out.there (C := [.int .i64 0, .int .u64 0, .int .u64 0, .int .i64 0]) rfl one_z4)
      have HLD := Lib.hid (HG.out.load (C := [.int .i64 0, .int .u64 0, .int .u64 0, .int .i64 0]) rfl one_z4)
      have HRES := Lib.hid (HG.out.no HP.out)
      go_wp2_with (first | (go_at_call 27; with_reducible (refine (HD1.out _).mono ?_); rintro e w2 ⟨rfl, rfl⟩) | (refine wpList_store_mid rfl 50 (.tmp 2) (.tmp 62) rfl w.heap.size 0 #[.int .i64 0, .int .u64 0, .int .u64 0, .int .i64 0] rfl rfl HST.out.1 HST.out.2.1 HST.out.2.2.1 ?_))
      have hres2 := HLD.out _ rfl
      refine bodyPost_ret (v := .tuple #[.agg #[.int .i64 0, .int .u64 0, .int .u64 0, .int .i64 0], .slice none 0 0, .string ⟨#[]⟩, .bool false]) (by simp [results, Try.results38, asAddr, hres2]) rfl HRES.out
    by_cases hpar : ¬ d % 2 = 0
    · have HP := Lib.hid (show AuthP.parse t = none by rw [HPA.out, if_neg (fun h => hpar h.2.1)])
      have hI5 : (d : Int) % 2 = 1 := by omega
      clear hpar
      have HST := Lib.hid (HG.out.there (C := [.int .i64 0, .int .u64 0, .int .u64 0, .int .i64 0]) rfl one_z4)
      have HLD := Lib.hid (HG.out.load (C := [.int .i64 0, .int .u64 0, .int .u64 0, .int .i64 0]) rfl one_z4)
      have HRES := Lib.hid (HG.out.no HP.out)
      go_wp2_with (first | (go_at_call 27; with_reducible (refine (HD1.out _).mono ?_); rintro e w2 ⟨rfl, rfl⟩) | (refine wpList_store_mid rfl 50 (.tmp 2) (.tmp 62) rfl w.heap.size 0 #[.int .i64 0, .int .u64 0, .int .u64 0, .int .i64 0] rfl rfl HST.out.1 HST.out.2.1 HST.out.2.2.1 ?_))
      have hres2 := HLD.out _ rfl
      refine bodyPost_ret (v := .tuple #[.agg #[.int .i64 0, .int .u64 0, .int .u64 0, .int .i64 0], .slice none 0 0, .string ⟨#[]⟩, .bool false]) (by simp [results, Try.results38, asAddr, hres2]) rfl HRES.out
    have hI5 : (d : Int) % 2 = 0 := by omega
    have HPAR := Lib.hid (Classical.not_not.1 hpar)
    clear hpar
    rcases d2 with _ | _
    · have HP := Lib.hid (show AuthP.parse t = none by rw [HPA.out, if_neg (fun h => by have h2 := Hd2.out; rw [h.2.2.1, decide_eq_true h.2.2.2] at h2; exact absurd h2 (by decide))])
      have HST := Lib.hid (HG.out.there (C := [.int .i64 0, .int .u64 0, .int .u64 0, .int .i64 0]) rfl one_z4)
      have HLD := Lib.hid (HG.out.load (C := [.int .i64 0, .int .u64 0, .int .u64 0, .int .i64 0]) rfl one_z4)
      have HRES := Lib.hid (HG.out.no HP.out)
      go_wp2_with (first | (go_at_call 27; first | (with_reducible (refine (HD1.out _).mono ?_); rintro e w2 ⟨rfl, rfl⟩) | (with_reducible (refine (HD2.out _).mono ?_); rintro e w2 ⟨rfl, rfl⟩)) | (refine wpList_store_mid rfl 50 (.tmp 2) (.tmp 62) rfl w.heap.size 0 #[.int .i64 0, .int .u64 0, .int .u64 0, .int .i64 0] rfl rfl HST.out.1 HST.out.2.1 HST.out.2.2.1 ?_))
      have hres2 := HLD.out _ rfl
      refine bodyPost_ret (v := .tuple #[.agg #[.int .i64 0, .int .u64 0, .int .u64 0, .int .i64 0], .slice none 0 0, .string ⟨#[]⟩, .bool false]) (by simp [results, Try.results38, asAddr, hres2]) rfl HRES.out
    have hPB : AuthP.parse t = (AuthP.claim (ShaP.unhex F)).map fun c => (c, ShaP.unhex F, S) := by
      have h2 := Hd2.out.symm
      rw [Bool.and_eq_true, decide_eq_true_iff] at h2
      rw [HPA.out, if_pos ⟨Hd1.out.symm, HPAR.out, h2.1, h2.2⟩]
    obtain ⟨B, hB⟩ : ∃ B, B = ShaP.unhex F := ⟨_, rfl⟩
    have hU := fun W => ref_unhex F W (by rw [HFl.out]; omega) (by rw [HFl.out]; exact HPAR.out) Hd1.out.symm
    rw [← hB] at hPB hU
    have HU : Hid (∀ W, Calls Try.prog 55 #[.string ((⟨t.toArray⟩ : ByteArray).extract 3 m)] W fun e w' => ∃ A n c, e = .returned (.slice A n c) ∧ OwnB w' W.heap.size A n c B ∧ Below W.heap.size W w') := Lib.hid (by rw [HEF.out]; exact hU)
    have HPB := Lib.hid hPB
    clear hPB hU hB HPA HPAR Hd1 Hd2 HEF HFl
    go_upto_region 8 with (go_at_call 27; first | (with_reducible (refine (HD1.out _).mono ?_); rintro e w2 ⟨rfl, rfl⟩) | (with_reducible (refine (HD2.out _).mono ?_); rintro e w2 ⟨rfl, rfl⟩))
    go_upto_region 9 with (go_at_call 55; refine (HU.out _).mono ?_; rintro e w2 ⟨A, n, c, rfl, hO, hB2⟩)
    have HG := Lib.hid (HG.out.grew hB2)
    have HSM := Lib.hid (ref_small A n c B w2.heap.size w2 15 (by decide) hO.sl)
    have HO := Lib.hid hO
    clear hI5 hsub hI1 hO hB2 HU HD1 HD2 hI hI2 hI3 hix
    go_wp2_with fail
    refine HSM.out.mono ?_
    rintro e w3 ⟨hs, k1, hw3⟩
    have HG := Lib.hid (show ReadG w w3 by rw [hw3]; exact HG.out.drewN k1)
    have HO := Lib.hid (show OwnB w3 w1.heap.size A n c B by rw [hw3]; exact HO.out.drewN k1)
    rcases hs with ⟨hs1, rfl⟩ | ⟨dv, r1, A1, n1, c1, hs1, rfl, hl1⟩
    · have HP := Lib.hid (show AuthP.parse t = none by rw [HPB.out, claim_n1 hs1]; rfl)
      clear hs1 hw3
      have HST := Lib.hid (HG.out.there (C := [.int .i64 0, .int .u64 0, .int .u64 0, .int .i64 0]) rfl one_z4)
      have HLD := Lib.hid (HG.out.load (C := [.int .i64 0, .int .u64 0, .int .u64 0, .int .i64 0]) rfl one_z4)
      have HRES := Lib.hid (HG.out.no HP.out)
      go_wp2_with (first | (refine wpList_store_mid rfl 50 (.tmp 2) (.tmp 75) rfl w.heap.size 0 #[.int .i64 0, .int .u64 0, .int .u64 0, .int .i64 0] rfl rfl HST.out.1 HST.out.2.1 HST.out.2.2.1 ?_))
      have hres2 := HLD.out _ rfl
      refine bodyPost_ret (v := .tuple #[.agg #[.int .i64 0, .int .u64 0, .int .u64 0, .int .i64 0], .slice none 0 0, .string ⟨#[]⟩, .bool false]) (by simp [results, Try.results38, asAddr, hres2]) rfl HRES.out
    have HS1 := Lib.hid hs1
    have HGT := Lib.hid (ref_get A1 n1 c1 r1 w2.heap.size w3 (by rw [hw3]; exact hl1.drewN k1))
    clear hs1 hw3 hl1 HSM
    go_wp2_with fail
    refine HGT.out.mono ?_
    rintro e w4 ⟨hs, k2, hw4⟩
    have HG := Lib.hid (show ReadG w w4 by rw [hw4]; exact HG.out.drewN k2)
    have HO := Lib.hid (show OwnB w4 w1.heap.size A n c B by rw [hw4]; exact HO.out.drewN k2)
    rcases hs with ⟨hs2, v0, A0, n0, c0, rfl⟩ | ⟨ep, q2, A2, n2, c2, hs2, rfl, hl2⟩
    · have HP := Lib.hid (show AuthP.parse t = none by rw [HPB.out, claim_steps HS1.out (pU_no hs2) pU_none pU_none, if_neg (fun h => by cases h.1)]; rfl)
      clear hs2 hw4
      have HST := Lib.hid (HG.out.there (C := [.int .i64 0, .int .u64 0, .int .u64 0, .int .i64 0]) rfl one_z4)
      have HLD := Lib.hid (HG.out.load (C := [.int .i64 0, .int .u64 0, .int .u64 0, .int .i64 0]) rfl one_z4)
      have HRES := Lib.hid (HG.out.no HP.out)
      go_wp2_with (first | (refine wpList_store_mid rfl 50 (.tmp 2) (.tmp 88) rfl w.heap.size 0 #[.int .i64 0, .int .u64 0, .int .u64 0, .int .i64 0] rfl rfl HST.out.1 HST.out.2.1 HST.out.2.2.1 ?_))
      have hres2 := HLD.out _ rfl
      refine bodyPost_ret (v := .tuple #[.agg #[.int .i64 0, .int .u64 0, .int .u64 0, .int .i64 0], .slice none 0 0, .string ⟨#[]⟩, .bool false]) (by simp [results, Try.results38, asAddr, hres2]) rfl HRES.out
    by_cases j1 : ¬ ep ≤ 1099511627776
    · have HP := Lib.hid (show AuthP.parse t = none by rw [HPB.out, claim_steps HS1.out (pU_yes hs2) (pU_any _) (pU_any _), if_neg (fun h => j1 h.2.1)]; rfl)
      have i1 : (1099511627776 : Int) < (ep : Int) := by omega
      clear hs2 hw4 j1
      have HST := Lib.hid (HG.out.there (C := [.int .i64 0, .int .u64 0, .int .u64 0, .int .i64 0]) rfl one_z4)
      have HLD := Lib.hid (HG.out.load (C := [.int .i64 0, .int .u64 0, .int .u64 0, .int .i64 0]) rfl one_z4)
      have HRES := Lib.hid (HG.out.no HP.out)
      go_wp2_with (first | (refine wpList_store_mid rfl 50 (.tmp 2) (.tmp 88) rfl w.heap.size 0 #[.int .i64 0, .int .u64 0, .int .u64 0, .int .i64 0] rfl rfl HST.out.1 HST.out.2.1 HST.out.2.2.1 ?_))
      have hres2 := HLD.out _ rfl
      refine bodyPost_ret (v := .tuple #[.agg #[.int .i64 0, .int .u64 0, .int .u64 0, .int .i64 0], .slice none 0 0, .string ⟨#[]⟩, .bool false]) (by simp [results, Try.results38, asAddr, hres2]) rfl HRES.out
    have j1 : ep ≤ 1099511627776 := Classical.not_not.1 j1
    have i1 : ¬ (1099511627776 : Int) < (ep : Int) := by omega
    have J1 := Lib.hid j1
    have HS2 := Lib.hid (pU_yes hs2)
    have HGT := Lib.hid (ref_get A2 n2 c2 _ w2.heap.size w4 (by rw [hw4]; exact hl2.drewN k2))
    clear hs2 hw4 hl2 j1
    go_wp2_with fail
    refine HGT.out.mono ?_
    rintro e w5 ⟨hs, k3, hw5⟩
    have HG := Lib.hid (show ReadG w w5 by rw [hw5]; exact HG.out.drewN k3)
    have HO := Lib.hid (show OwnB w5 w1.heap.size A n c B by rw [hw5]; exact HO.out.drewN k3)
    clear i1
    rcases hs with ⟨hs3, v0, A0, n0, c0, rfl⟩ | ⟨nu, q3, A3, n3, c3, hs3, rfl, hl3⟩
    · have HP := Lib.hid (show AuthP.parse t = none by rw [HPB.out, claim_steps HS1.out HS2.out (pU_no hs3) pU_none, if_neg (fun h => by cases h.1)]; rfl)
      clear hs3 hw5
      have HST := Lib.hid (HG.out.there (C := [.int .i64 0, .int .u64 0, .int .u64 0, .int .i64 0]) rfl one_z4)
      have HLD := Lib.hid (HG.out.load (C := [.int .i64 0, .int .u64 0, .int .u64 0, .int .i64 0]) rfl one_z4)
      have HRES := Lib.hid (HG.out.no HP.out)
      go_wp2_with (first | (refine wpList_store_mid rfl 50 (.tmp 2) (.tmp 101) rfl w.heap.size 0 #[.int .i64 0, .int .u64 0, .int .u64 0, .int .i64 0] rfl rfl HST.out.1 HST.out.2.1 HST.out.2.2.1 ?_))
      have hres2 := HLD.out _ rfl
      refine bodyPost_ret (v := .tuple #[.agg #[.int .i64 0, .int .u64 0, .int .u64 0, .int .i64 0], .slice none 0 0, .string ⟨#[]⟩, .bool false]) (by simp [results, Try.results38, asAddr, hres2]) rfl HRES.out
    by_cases j2 : ¬ 1 ≤ nu
    · have HP := Lib.hid (show AuthP.parse t = none by rw [HPB.out, claim_steps HS1.out HS2.out (pU_yes hs3) (pU_any _), if_neg (fun h => j2 h.2.2.1)]; rfl)
      have i1 : (nu : Int) < 1 := by omega
      clear hs3 hw5 j2
      have HST := Lib.hid (HG.out.there (C := [.int .i64 0, .int .u64 0, .int .u64 0, .int .i64 0]) rfl one_z4)
      have HLD := Lib.hid (HG.out.load (C := [.int .i64 0, .int .u64 0, .int .u64 0, .int .i64 0]) rfl one_z4)
      have HRES := Lib.hid (HG.out.no HP.out)
      go_wp2_with (first | (refine wpList_store_mid rfl 50 (.tmp 2) (.tmp 101) rfl w.heap.size 0 #[.int .i64 0, .int .u64 0, .int .u64 0, .int .i64 0] rfl rfl HST.out.1 HST.out.2.1 HST.out.2.2.1 ?_))
      have hres2 := HLD.out _ rfl
      refine bodyPost_ret (v := .tuple #[.agg #[.int .i64 0, .int .u64 0, .int .u64 0, .int .i64 0], .slice none 0 0, .string ⟨#[]⟩, .bool false]) (by simp [results, Try.results38, asAddr, hres2]) rfl HRES.out
    have j2 : 1 ≤ nu := Classical.not_not.1 j2
    have i1 : ¬ (nu : Int) < 1 := by omega
    have J2 := Lib.hid j2
    have HS3 := Lib.hid (pU_yes hs3)
    have HGT := Lib.hid (ref_get A3 n3 c3 _ w2.heap.size w5 (by rw [hw5]; exact hl3.drewN k3))
    clear hs3 hw5 hl3 j2
    go_wp2_with fail
    refine HGT.out.mono ?_
    rintro e w6 ⟨hs, k4, hw6⟩
    have HG := Lib.hid (show ReadG w w6 by rw [hw6]; exact HG.out.drewN k4)
    have HO := Lib.hid (show OwnB w6 w1.heap.size A n c B by rw [hw6]; exact HO.out.drewN k4)
    clear i1
    rcases hs with ⟨hs4, v0, A0, n0, c0, rfl⟩ | ⟨ov, q4, A4, n4, c4, hs4, rfl, hl4⟩
    · have HP := Lib.hid (show AuthP.parse t = none by rw [HPB.out, claim_steps HS1.out HS2.out HS3.out (pU_no hs4), if_neg (fun h => by cases h.1)]; rfl)
      clear hs4 hw6
      have HST := Lib.hid (HG.out.there (C := [.int .i64 0, .int .u64 0, .int .u64 0, .int .i64 0]) rfl one_z4)
      have HLD := Lib.hid (HG.out.load (C := [.int .i64 0, .int .u64 0, .int .u64 0, .int .i64 0]) rfl one_z4)
      have HRES := Lib.hid (HG.out.no HP.out)
      go_wp2_with (first | (refine wpList_store_mid rfl 50 (.tmp 2) (.tmp 123) rfl w.heap.size 0 #[.int .i64 0, .int .u64 0, .int .u64 0, .int .i64 0] rfl rfl HST.out.1 HST.out.2.1 HST.out.2.2.1 ?_))
      have hres2 := HLD.out _ rfl
      refine bodyPost_ret (v := .tuple #[.agg #[.int .i64 0, .int .u64 0, .int .u64 0, .int .i64 0], .slice none 0 0, .string ⟨#[]⟩, .bool false]) (by simp [results, Try.results38, asAddr, hres2]) rfl HRES.out
    have hCS := claim_steps HS1.out HS2.out HS3.out (pU_yes hs4)
    have HN4 := Lib.hid hl4.1
    have hn4 : n4 ≤ 9223372036854775807 := by have := hl4.2.1; have := hl4.2.2.1; unfold maxLen at *; omega
    clear hs4 hl4 hw6
    by_cases j3 : ¬ 1 ≤ ov
    · have HP := Lib.hid (show AuthP.parse t = none by rw [HPB.out, hCS, if_neg (fun h => j3 h.2.2.2.1)]; rfl)
      have i1 : (ov : Int) < 1 := by omega
      clear j3 hCS
      have HST := Lib.hid (HG.out.there (C := [.int .i64 0, .int .u64 0, .int .u64 0, .int .i64 0]) rfl one_z4)
      have HLD := Lib.hid (HG.out.load (C := [.int .i64 0, .int .u64 0, .int .u64 0, .int .i64 0]) rfl one_z4)
      have HRES := Lib.hid (HG.out.no HP.out)
      go_wp2_with (first | (refine wpList_store_mid rfl 50 (.tmp 2) (.tmp 123) rfl w.heap.size 0 #[.int .i64 0, .int .u64 0, .int .u64 0, .int .i64 0] rfl rfl HST.out.1 HST.out.2.1 HST.out.2.2.1 ?_))
      have hres2 := HLD.out _ rfl
      refine bodyPost_ret (v := .tuple #[.agg #[.int .i64 0, .int .u64 0, .int .u64 0, .int .i64 0], .slice none 0 0, .string ⟨#[]⟩, .bool false]) (by simp [results, Try.results38, asAddr, hres2]) rfl HRES.out
    by_cases j4 : ¬ ov ≤ 2305843009213693952
    · have HP := Lib.hid (show AuthP.parse t = none by rw [HPB.out, hCS, if_neg (fun h => j4 h.2.2.2.2)]; rfl)
      have i1 : ¬ (ov : Int) < 1 := by omega
      have i2 : (2305843009213693952 : Int) < (ov : Int) := by omega
      clear j3 j4 hCS
      have HST := Lib.hid (HG.out.there (C := [.int .i64 0, .int .u64 0, .int .u64 0, .int .i64 0]) rfl one_z4)
      have HLD := Lib.hid (HG.out.load (C := [.int .i64 0, .int .u64 0, .int .u64 0, .int .i64 0]) rfl one_z4)
      have HRES := Lib.hid (HG.out.no HP.out)
      go_wp2_with (first | (refine wpList_store_mid rfl 50 (.tmp 2) (.tmp 123) rfl w.heap.size 0 #[.int .i64 0, .int .u64 0, .int .u64 0, .int .i64 0] rfl rfl HST.out.1 HST.out.2.1 HST.out.2.2.1 ?_))
      have hres2 := HLD.out _ rfl
      refine bodyPost_ret (v := .tuple #[.agg #[.int .i64 0, .int .u64 0, .int .u64 0, .int .i64 0], .slice none 0 0, .string ⟨#[]⟩, .bool false]) (by simp [results, Try.results38, asAddr, hres2]) rfl HRES.out
    by_cases j5 : ¬ n4 = 0
    · have HP := Lib.hid (show AuthP.parse t = none by rw [HPB.out, hCS, if_neg (fun h => j5 (by have h1 := h.1; injection h1 with h1; have h2 := HN4.out; rw [h1] at h2; exact h2.symm))]; rfl)
      have i1 : ¬ (ov : Int) < 1 := by omega
      have i2 : ¬ (2305843009213693952 : Int) < (ov : Int) := by omega
      have i3 : (0 : Int) < (n4 : Int) := by omega
      clear j3 j4 j5 hCS
      have HST := Lib.hid (HG.out.there (C := [.int .i64 0, .int .u64 0, .int .u64 0, .int .i64 0]) rfl one_z4)
      have HLD := Lib.hid (HG.out.load (C := [.int .i64 0, .int .u64 0, .int .u64 0, .int .i64 0]) rfl one_z4)
      have HRES := Lib.hid (HG.out.no HP.out)
      go_wp2_with (first | (refine wpList_store_mid rfl 50 (.tmp 2) (.tmp 123) rfl w.heap.size 0 #[.int .i64 0, .int .u64 0, .int .u64 0, .int .i64 0] rfl rfl HST.out.1 HST.out.2.1 HST.out.2.2.1 ?_))
      have hres2 := HLD.out _ rfl
      refine bodyPost_ret (v := .tuple #[.agg #[.int .i64 0, .int .u64 0, .int .u64 0, .int .i64 0], .slice none 0 0, .string ⟨#[]⟩, .bool false]) (by simp [results, Try.results38, asAddr, hres2]) rfl HRES.out
    have HPS := Lib.hid (show AuthP.parse t = some (⟨dv, ep, nu, ov⟩, B, S) by
      rw [HPB.out, hCS, if_pos ⟨by rw [List.length_eq_zero_iff.1 (HN4.out.trans (Classical.not_not.1 j5))], J1.out, J2.out, Classical.not_not.1 j3, Classical.not_not.1 j4⟩]; rfl)
    have i1 : ¬ (ov : Int) < 1 := by omega
    have i2 : ¬ (2305843009213693952 : Int) < (ov : Int) := by omega
    have i3 : ¬ (0 : Int) < (n4 : Int) := by omega
    have hwr : IntKind.i64.wrap (ov : Int) = (ov : Int) := IntWalk.i64_in _ (by omega)
    have HWR := Lib.hid (And.intro hwr (And.intro hsz (And.intro (show (0 : Int) ≤ (m : Int) + 1 by omega) hI4)))
    clear j3 j4 j5 hCS hwr
    go_upto_region 21 with fail
    clear i1 i2 i3
    obtain ⟨C, hC⟩ : ∃ C : List Value, C = [.int .i64 (dv : Int), .int .u64 (ep : Int), .int .u64 (nu : Int), .int .i64 (ov : Int)] := ⟨_, rfl⟩
    have HEQ := Lib.hid (show (Value.agg #[.int .i64 (dv : Int), .int .u64 (ep : Int), .int .u64 (nu : Int), .int .i64 (ov : Int)]) = .agg C.toArray by rw [hC])
    have hCl : C.length = 4 := by rw [hC]; rfl
    have hC1 : ∀ v ∈ C, v.oneCell' = true := by rw [hC]; exact one_clv ⟨dv, ep, nu, ov⟩
    have HCV := Lib.hid (show C = clv ⟨dv, ep, nu, ov⟩ from hC)
    have HG := Lib.hid (HG.out.drewN 1)
    have HO := Lib.hid (HO.out.drewN 1)
    clear hC
    refine wp_region_c (fun _ => True) (by kernel_rfl) trivial ?_
    have HC := Lib.hid trivial
    change wpAnyC _ _ _ _ _ _ _ _ (World.drewN w6 1)
    obtain ⟨w7, hw7⟩ : ∃ w7, w7 = World.drewN w6 1 := ⟨_, rfl⟩
    rw [← hw7] at HG HO ⊢
    clear hw7
    have HST := Lib.hid (HG.out.there hCl hC1)
    have HLD := Lib.hid (HG.out.load hCl hC1)
    have HRES := Lib.hid (show ReadL w t (.returned (.tuple #[.agg C.toArray, .slice A n c, .string ⟨S.toArray⟩, .bool true])) (w7.setCells w.heap.size 0 C) by
      unfold ReadL
      rw [HPS.out]
      have hgr := grown_setCells w.heap.size C 0 w7
      have hz := HZ1.out
      exact ⟨A, n, c, by rw [HCV.out], OwnB.other (show OwnB w7 w.heap.size A n c B from Own.lower HO.out (by omega)) hgr (fun g1 e e2 => by have := (HO.out.lt g1 e).1; injection e2 with e2; omega),
        HG.out.2.trans (below_grown hgr HG.out.2.size (fun g e => by injection e with e; omega))⟩)
    clear hCl hC1
    have hqq := HWR.out
    (refine wpAnyC_free 0 (oi := ⟨some 124, _, _, _, _, _⟩) (v := ?_) rfl (by kernel_rfl) (by kernel_rfl) (by kernel_rfl) HC.out rfl (fun x => ?_) ?_; rotate_left; (focus (simp [go_sem]; (try go_ints); first | done | (with_reducible rfl))); (simp only [Act.put, List.setIfInBounds_toArray, List.set_cons_succ, List.set_cons_zero]))
    (refine wpAnyC_free 1 (oi := ⟨some 125, _, _, _, _, _⟩) (v := ?_) rfl (by kernel_rfl) (by kernel_rfl) (by kernel_rfl) HC.out rfl (fun x => ?_) ?_; rotate_left; (focus (simp [go_sem]; (try go_ints); first | done | (with_reducible rfl))); (simp only [Act.put, List.setIfInBounds_toArray, List.set_cons_succ, List.set_cons_zero]))
    (refine wpAnyC_free 2 (oi := ⟨some 126, _, _, _, _, _⟩) (v := ?_) rfl (by kernel_rfl) (by kernel_rfl) (by kernel_rfl) HC.out rfl (fun x => ?_) ?_; rotate_left; (focus (simp [go_sem]; (try go_ints); first | done | (with_reducible rfl))); (simp only [Act.put, List.setIfInBounds_toArray, List.set_cons_succ, List.set_cons_zero]))
    (refine wpAnyC_free 3 (oi := ⟨some 127, _, _, _, _, _⟩) (v := ?_) rfl (by kernel_rfl) (by kernel_rfl) (by kernel_rfl) HC.out rfl (fun x => ?_) ?_; rotate_left; (focus (simp [go_sem]; (try go_ints); first | done | (with_reducible rfl))); (simp only [Act.put, List.setIfInBounds_toArray, List.set_cons_succ, List.set_cons_zero]))
    (refine wpAnyC_free 4 (oi := ⟨some 128, _, _, _, _, _⟩) (v := ?_) rfl (by kernel_rfl) (by kernel_rfl) (by kernel_rfl) HC.out rfl (fun x => ?_) ?_; rotate_left; (focus (simp [go_sem, hqq]; (try go_ints); first | done | (with_reducible rfl))); (simp only [Act.put, List.setIfInBounds_toArray, List.set_cons_succ, List.set_cons_zero]))
    (refine wpAnyC_free 5 (oi := ⟨some 129, _, _, _, _, _⟩) (v := ?_) rfl (by kernel_rfl) (by kernel_rfl) (by kernel_rfl) HC.out rfl (fun x => ?_) ?_; rotate_left; (focus (simp [go_sem]; (try go_ints); first | done | (with_reducible rfl))); (simp only [Act.put, List.setIfInBounds_toArray, List.set_cons_succ, List.set_cons_zero]))
    (refine wpAnyC_free 6 (oi := ⟨some 130, _, _, _, _, _⟩) (v := ?_) rfl (by kernel_rfl) (by kernel_rfl) (by kernel_rfl) HC.out rfl (fun x => ?_) ?_; rotate_left; (focus (simp [go_sem]; (try go_ints); first | done | (with_reducible rfl))); (simp only [Act.put, List.setIfInBounds_toArray, List.set_cons_succ, List.set_cons_zero]))
    (refine wpAnyC_free 7 (oi := ⟨some 131, _, _, _, _, _⟩) (v := ?_) rfl (by kernel_rfl) (by kernel_rfl) (by kernel_rfl) HC.out rfl (fun x => ?_) ?_; rotate_left; (focus (simp [go_sem]; (try go_ints); first | done | (with_reducible rfl))); (simp only [Act.put, List.setIfInBounds_toArray, List.set_cons_succ, List.set_cons_zero]))
    (refine wpAnyC_free 8 (oi := ⟨some 132, _, _, _, _, _⟩) (v := ?_) rfl (by kernel_rfl) (by kernel_rfl) (by kernel_rfl) HC.out rfl (fun x => ?_) ?_; rotate_left; (focus (simp [go_sem]; (try go_ints); first | done | (with_reducible rfl))); (simp only [Act.put, List.setIfInBounds_toArray, List.set_cons_succ, List.set_cons_zero]))
    (refine wpAnyC_free 9 (oi := ⟨some 133, _, _, _, _, _⟩) (v := ?_) rfl (by kernel_rfl) (by kernel_rfl) (by kernel_rfl) HC.out rfl (fun x => ?_) ?_; rotate_left; (focus (simp [go_sem]; (try go_ints); first | done | (with_reducible rfl))); (simp only [Act.put, List.setIfInBounds_toArray, List.set_cons_succ, List.set_cons_zero]))
    (refine wpAnyC_free 10 (oi := ⟨some 134, _, _, _, _, _⟩) (v := ?_) rfl (by kernel_rfl) (by kernel_rfl) (by kernel_rfl) HC.out rfl (fun x => ?_) ?_; rotate_left; (focus (simp [go_sem, hqq]; (try go_ints); first | done | (with_reducible rfl))); (simp only [Act.put, List.setIfInBounds_toArray, List.set_cons_succ, List.set_cons_zero]))
    clear hqq
    rw [HES.out]
    refine wpAnyC_step 11 (o := ⟨none, _, _, _, _, _⟩) rfl (by kernel_rfl) rfl ?_
    refine wpList_store_mid rfl 50 (.tmp 2) (.tmp 129) rfl w.heap.size 0 C.toArray rfl HEQ.out HST.out.1 HST.out.2.1 HST.out.2.2.1 ?_
    refine wpList_nil ⟨rfl, trivial, ?_⟩
    (refine wpAnyC_free 12 (oi := ⟨some 3, _, _, _, _, _⟩) (v := ?_) rfl (by kernel_rfl) (by kernel_rfl) (by kernel_rfl) HC.out rfl (fun x => ?_) ?_; rotate_left; (focus (simp [go_sem]; (try go_ints); first | done | (with_reducible rfl))); (simp only [Act.put, List.setIfInBounds_toArray, List.set_cons_succ, List.set_cons_zero]))
    (refine wpAnyC_free 13 (oi := ⟨some 4, _, _, _, _, _⟩) (v := ?_) rfl (by kernel_rfl) (by kernel_rfl) (by kernel_rfl) HC.out rfl (fun x => ?_) ?_; rotate_left; (focus (simp [go_sem]; (try go_ints); first | done | (with_reducible rfl))); (simp only [Act.put, List.setIfInBounds_toArray, List.set_cons_succ, List.set_cons_zero]))
    (refine wpAnyC_free 14 (oi := ⟨some 5, _, _, _, _, _⟩) (v := ?_) rfl (by kernel_rfl) (by kernel_rfl) (by kernel_rfl) HC.out rfl (fun x => ?_) ?_; rotate_left; (focus (simp [go_sem]; (try go_ints); first | done | (with_reducible rfl))); (simp only [Act.put, List.setIfInBounds_toArray, List.set_cons_succ, List.set_cons_zero]))
    refine wpAnyC_done (by kernel_rfl) (fun _ => ?_) _
    go_wp2_with fail
    have hres2 := HLD.out (w7.setCells w.heap.size 0 C.toArray.toList) (by simp)
    refine bodyPost_ret (v := .tuple #[.agg C.toArray, .slice A n c, .string ⟨S.toArray⟩, .bool true]) (by simp [results, Try.results38, asAddr, hres2]) rfl (by simpa using HRES.out)

end Go.Proofs.Ytohgkadbajmphaa
