/- The walks of rolodexlaw4.same (of two lists that are the same) and scans. -/
import Derived.Test.YtkcadkkbgahgaaaFrame5
namespace Go.Proofs.Ytkcadkkbgahgaaa
open Go.RowKit
set_option linter.unusedVariables false
attribute [local go_sem] ba_append
def LSl (w : World) (B : Nat) (A : Option Addr) (n c : Nat) (ll : List (List UInt8)) : Prop := ll.length = n ∧ n ≤ c ∧ c ≤ maxLen ∧ LRow w B A ll
theorem LSl.below {w w' : World} {B : Nat} {A : Option Addr} {n c : Nat} {ll : List (List UInt8)} (h : LSl w B A n c ll) (hb : Below B w w') : LSl w' B A n c ll := ⟨h.1, h.2.1, h.2.2.1, h.2.2.2.below hb⟩
theorem OwnLL.lsl {w : World} {base n cap : Nat} {A : Option Addr} {ll : List (List UInt8)} (h : OwnLL w base A n cap ll) : LSl w w.heap.size A n cap ll := ⟨h.len, h.le.1, h.le.2, h.lrow⟩
set_option maxRecDepth 4000 in
set_option maxHeartbeats 400000 in
theorem same4 (A : Option Addr) (n c B : Nat) (A2 : Option Addr) (n2 c2 B2 : Nat) (ll : List (List UInt8)) (w : World) (h1 : LSl w B A n c ll) (hB : B ≤ w.heap.size) (h2 : LSl w B2 A2 n2 c2 ll) (hB2 : B2 ≤ w.heap.size) :
    Calls Try.prog 23 #[.slice A n c, .slice A2 n2 c2] w fun e w' => e = .returned (.bool true) ∧ Grew w w' := by
  obtain ⟨hn, hc, hm, hr⟩ := h1
  obtain ⟨hn2, hc2, hm2, hr2⟩ := h2
  subst hn
  subst hn2
  unfold maxLen at hm hm2
  go_enter Try.func23, Try.ntmps23
  go_wp2_with fail
  go_loopw [5] (fun i wr => ∃ k : Nat, k ≤ ll.length ∧ i = .int .i64 (k : Int) ∧ Grew w wr) (fun i _ => ll.length - (intOf i).toNat)
  case atStart => exact ⟨0, Nat.zero_le _, rfl, Grew.refl w⟩
  case round =>
    obtain ⟨k, hk, rfl, hg⟩ := hrel
    by_cases hlt : k < ll.length
    · obtain ⟨ad, A', c', hA, hab, hcell, h3, h4, hrow⟩ := hr k ll[k] (List.getElem?_eq_getElem hlt)
      obtain ⟨ad2, A2', c2', hA2, hab2, hcell2, h5, h6, hrow2⟩ := hr2 k ll[k] (List.getElem?_eq_getElem hlt)
      subst hA
      subst hA2
      obtain ⟨x, hx⟩ : ∃ x, x = ll[k] := ⟨_, rfl⟩
      rw [← hx] at hcell hcell2 h3 h5 hrow hrow2
      have hgB := hg.mono hB
      have hgB2 := hg.mono hB2
      have hrw := hrow.below hgB
      have hrw2 := hrow2.below hgB2
      have hs := hg.size
      have hbw : B ≤ wr.heap.size := Nat.le_trans hB hs
      have hbw2 : B2 ≤ wr.heap.size := Nat.le_trans hB2 hs
      have hq1 : ∀ y : GrewOf wr, y.1.cell? (ad.add k) = some (.slice A' x.length c') := fun y => ((hg.trans y.2).mono hB |>.cell (p := ad.add k) (by rw [add_block]; exact hab)).trans hcell
      have hq2 : ∀ y : GrewOf wr, y.1.cell? (ad2.add k) = some (.slice A2' x.length c2') := fun y => ((hg.trans y.2).mono hB2 |>.cell (p := ad2.add k) (by rw [add_block]; exact hab2)).trans hcell2
      have hI1 : (k : Int) < (ll.length : Int) := by omega
      have hqq := And.intro hq1 (And.intro hq2 (And.intro hlt hI1))
      clear hx hcell hcell2 hq1 hq2 hrow hrow2 hr hr2
      have HQ := Lib.hid hqq
      clear hqq
      go_upto_region 6 with fail
      have hqq := HQ.out
      refine wp_region_x [] (by kernel_rfl) (by kernel_rfl) (by kernel_rfl) ?_
      simp only [blank, List.foldl_nil]
      repeat (first
        | (refine wpX_value (v := ?_) rfl (by intros; simp) rfl rfl (fun x => ?_) ?_; rotate_left; (focus (simp [go_sem, hqq, ↓IntWalk.iteOmega]; first | done | (with_reducible rfl))); (simp only [Act.put, List.setIfInBounds_toArray, List.set_cons_succ, List.set_cons_zero]))
        | (refine wpX_str8 A' x.length c' B x rfl rfl rfl rfl rfl hbw hrw ?_; (simp only [Act.put, List.setIfInBounds_toArray, List.set_cons_succ, List.set_cons_zero]))
        | (refine wpX_str8 A2' x.length c2' B2 x rfl rfl rfl rfl rfl hbw2 hrw2 ?_; (simp only [Act.put, List.setIfInBounds_toArray, List.set_cons_succ, List.set_cons_zero])))
      (refine wpX_nil ?_; intro xb wx hxg xl; obtain ⟨xf, xe⟩ := LikeAll.end_ xl; clear xl; subst xe; try simp only [fill, List.foldl_cons, List.foldl_nil, Act.put, List.setIfInBounds_toArray, List.set_cons_succ, List.set_cons_zero])
      clear hqq HQ
      go_wp2_with fail
      go_roundw
      case rel => exact ⟨k + 1, by omega, by go_num, hg.trans hxg⟩
      case measure => simp [intOf]; omega
    · obtain rfl : k = ll.length := by omega
      go_wp2_with fail
      go_ret
      exact ⟨rfl, hg⟩
set_option maxRecDepth 4000 in
set_option maxHeartbeats 1000000 in
theorem scans4 (A : Option Addr) (n c B : Nat) (l : List UInt8) (w : World) (h : Sl w B A n c l) (hB : B ≤ w.heap.size) (hm : n ≤ 1099511627776) :
    Calls Try.prog 24 #[.slice A n c] w fun e w' => e = .returned (.bool true) ∧ Below w.heap.size w w' := by
  obtain ⟨hn, hnc, hcm, hr⟩ := id h
  subst hn
  go_enter Try.func24, Try.ntmps24
  go_wp2_with (first
    | (refine wpList_str8 (dst := some 11) A l.length c B l rfl rfl rfl hr ?_)
    | (refine wpList_bytes8 (dst := some 12) w.heap.size l rfl rfl (Nat.le_refl _) (by unfold maxLen; omega) ?_; intro cap2 w2 hO2 hB2 hs2)
    | (at_builtin; refine wpList_app8 rfl (.tmp 12) (.tmp 13) 25 rfl (.inl ⟨_, Try.underlying25⟩) w.heap.size _ _ _ l rfl (hO2.alloc _) 1 [9] (Src.slice rfl (Row.new _ _ _ _ (w2.heap.size + 1) _ rfl (by omega) _ rfl)) (.inl (by omega)) (by simp; omega) ?_; intro A3 cap3 w3 hO3 hg3 hB3 hb3; have hcap3 : l.length ≤ cap3 := (by have := hO3.le.1; omega)))
  have hBw3 : Below w.heap.size w w3 := (hB2.alloc (Nat.le_of_lt hs2) _).trans hB3
  have hS3 := hO3.sl
  have hS3' : Sl w3 w3.heap.size A3 l.length cap3 l := ⟨rfl, by have := hO3.le; omega, hO3.le.2, hS3.2.2.2.pre8⟩
  have hr3 := hr.below (hBw3.mono hB)
  have hle3 := hO3.le.1
  have hl3 := Lib.hid hO3.len
  clear hO2 hg3 hB3 hb3 hB2 hs2
  refine (frame_scan A3 l.length cap3 w3.heap.size l w3 hS3' (Nat.le_refl _) hm).mono ?_
  rintro e w4 ⟨A4, n4, c4, rfl, hO4, hB4⟩
  have hs4 := hB4.size
  have hBw4 := hBw3.trans (hB4.mono hBw3.size)
  go_wp2_with fail
  refine (ref_scan A l.length c B l w4 (h.below (hBw4.mono hB)) (Nat.le_trans hB hBw4.size) hm).mono ?_
  rintro e w5 ⟨A5, n5, c5, rfl, hO5, hB5⟩
  have hBw5 := hBw4.trans (hB5.mono hBw4.size)
  have hO45 := hO4.below hB5
  go_wp2_with fail
  refine (same4 A4 n4 c4 w5.heap.size A5 n5 c5 w5.heap.size (FrameP.scan l).1 w5 hO45.lsl (Nat.le_refl _) hO5.lsl (Nat.le_refl _)).mono ?_
  rintro e w6 ⟨rfl, hB6⟩
  have hBw6 := hBw5.trans (hB6.mono hBw5.size)
  have hr6 := hr.below (hBw6.mono hB)
  have hr36 := hS3.2.2.2.below (hB4.trans ((hB5.mono hs4).trans (hB6.mono (Nat.le_trans hs4 hB5.size))))
  clear hO4 hO5 hO45
  go_wp2_with (first
    | (refine wpList_str8 (dst := some 45) A3 (l.length + 1) cap3 w3.heap.size (l ++ [9]) rfl rfl hl3.out hr36 ?_)
    | (refine wpList_str8 (dst := some 47) A l.length c B l rfl rfl rfl hr6 ?_))
  go_ret
  exact ⟨rfl, hBw6⟩
end Go.Proofs.Ytkcadkkbgahgaaa
