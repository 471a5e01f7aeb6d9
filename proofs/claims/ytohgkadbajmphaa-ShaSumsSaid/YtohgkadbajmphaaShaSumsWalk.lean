/- The walk of rolodexlaw2.ShaSums. -/
import Derived.Test.YtohgkadbajmphaaRefMac
import Derived.Test.YtohgkadbajmphaaShaEqualWalk
namespace Go.Proofs.Ytohgkadbajmphaa
open Go.RowKit
set_option linter.unusedVariables false
theorem nine_eq (l : List UInt8) : (l ++ [9] == ((⟨l.toArray⟩ : ByteArray) ++ (⟨#[9]⟩ : ByteArray)).toList) = true := by
  rw [show (⟨#[9]⟩ : ByteArray) = ⟨[(9 : UInt8)].toArray⟩ from rfl, ba_append]
  simp [go_sem]
set_option maxRecDepth 100000 in
set_option maxHeartbeats 2000000 in
theorem shaSums_walk (A0 : Option Addr) (n0 c0 : Nat) (l0 : List UInt8) (A1 : Option Addr) (n1 c1 : Nat) (l1 : List UInt8) (w : World) (b0 : BytesIn w A0 n0 c0 l0) (z0 : n0 * 1 ≤ 140737488351232) (b1 : BytesIn w A1 n1 c1 l1) (z1 : n1 * 1 ≤ 140737488351232) :
    Calls Try.prog 4 #[.slice A0 n0 c0, .slice A1 n1 c1] w fun e w' => e = .returned (.bool true) ∧ Below w.heap.size w w' := by
  have S0 := Lib.hid b0.sl
  have S1 := Lib.hid b1.sl
  have hl0 := b0.len
  have hl1 := b1.len
  subst hl0 hl1
  clear b0 b1
  by_cases h1 : 1000 < l0.length
  · have i1 : (1000 : Int) < (l0.length : Int) := by omega
    go_enter Try.func4, Try.ntmps4
    go_wp2_with fail
    refine (awake2 w).mono ?_
    rintro e wa ⟨rfl, hB1⟩
    go_wp2_with fail
    go_ret
    exact ⟨rfl, hB1⟩
  have i1 : ¬ (1000 : Int) < (l0.length : Int) := by omega
  by_cases h2 : 300 < l1.length
  · have i2 : (300 : Int) < (l1.length : Int) := by omega
    go_enter Try.func4, Try.ntmps4
    go_wp2_with fail
    refine (awake2 w).mono ?_
    rintro e wa ⟨rfl, hB1⟩
    go_wp2_with fail
    go_ret
    exact ⟨rfl, hB1⟩
  have i2 : ¬ (300 : Int) < (l1.length : Int) := by omega
  obtain ⟨D, hD⟩ : ∃ D : List UInt8, D = ShaP.digest l0 := ⟨_, rfl⟩
  have hDl : D.length = 32 := by rw [hD]; exact ShaP.digest_len _
  obtain ⟨C, hC⟩ : ∃ C, C = D.map b8 := ⟨_, rfl⟩
  obtain ⟨M, hM⟩ : ∃ M : List UInt8, M = ShaP.mac l1 l0 := ⟨_, rfl⟩
  have hMl : M.length = 32 := by rw [hM]; exact ShaP.mac_len _ _
  obtain ⟨E, hE⟩ : ∃ E, E = M.map b8 := ⟨_, rfl⟩
  have HEQ := Lib.hid (And.intro (eql_same C D hDl hC) (eql_same E M hMl hE))
  have HSum : Hid (∀ W A n c, Sl W W.heap.size A n c l0 → Calls Try.prog 19 #[.slice A n c] W fun e w' => e = .returned (.agg C.toArray) ∧ Grew W w') := Lib.hid fun W A n c h => by
    have := sha_sum A n c W.heap.size l0 W h (Nat.le_refl _) (by have := h.1; omega)
    rw [← hD, ← hC] at this
    exact this
  have HRSum : Hid (∀ W A n c, Sl W W.heap.size A n c l0 → Calls Try.prog 22 #[.slice A n c] W fun e w' => e = .returned (.agg C.toArray) ∧ Grew W w') := Lib.hid fun W A n c h => by
    have := ref_sum A n c W.heap.size l0 W h (Nat.le_refl _) (by have := h.1; omega)
    rw [← hD, ← hC] at this
    exact this
  have HMac : Hid (∀ W A n c A' n' c', Sl W W.heap.size A n c l1 → Sl W W.heap.size A' n' c' l0 → Calls Try.prog 23 #[.slice A n c, .slice A' n' c'] W fun e w' => e = .returned (.agg E.toArray) ∧ Grew W w') := Lib.hid fun W A n c A' n' c' h h' => by
    have := sha_mac A A' n c n' c' W.heap.size l1 l0 W h h' (Nat.le_refl _) (by have := h.1; omega) (by have := h'.1; omega)
    rw [← hM, ← hE] at this
    exact this
  have HRMac : Hid (∀ W A n c A' n' c', Sl W W.heap.size A n c l1 → Sl W W.heap.size A' n' c' l0 → Calls Try.prog 24 #[.slice A n c, .slice A' n' c'] W fun e w' => e = .returned (.agg E.toArray) ∧ Grew W w') := Lib.hid fun W A n c A' n' c' h h' => by
    have := ref_mac A A' n c n' c' W.heap.size l1 l0 W h h' (Nat.le_refl _) (by have := h.1; omega) (by have := h'.1; omega)
    rw [← hM, ← hE] at this
    exact this
  clear hD hDl hC hM hMl hE
  go_enter Try.func4, Try.ntmps4
  go_wp2_with fail
  refine (awake2 w).mono ?_
  rintro e wa ⟨rfl, hBa⟩
  have hs0 := hBa.size
  have hr0 := (S0.out.below hBa).2.2.2
  have hlm0 : l0.length ≤ maxLen := by unfold maxLen; omega
  have hlm1 : l1.length ≤ maxLen := by unfold maxLen; omega
  go_upto_region 6 with (first
    | (refine wpList_str8 (dst := some 18) A0 l0.length c0 w.heap.size l0 rfl rfl rfl hr0 ?_)
    | (refine wpList_bytes8 (dst := some 19) w.heap.size l0 rfl rfl hs0 hlm0 ?_; intro cap2 w2 hO2 hB1 hs2)
    | (at_builtin; refine wpList_app8 rfl (.tmp 19) (.tmp 20) 31 rfl (.inl ⟨_, Try.underlying31⟩) w.heap.size _ _ _ l0 rfl (hO2.alloc _) 1 [9] (Src.slice rfl (Row.new _ _ _ _ (w2.heap.size + 1) _ rfl (by omega) _ rfl)) (.inr ⟨rfl, by omega⟩) (by simp; omega) ?_; intro A3 cap3 w3 hO3 hg3 hB3 hb3; have hcap3 := hO3.le.1))
  have hBw3 : Below w.heap.size w w3 := (hBa.trans ((hB1.mono hs0).alloc (by omega) _)).trans hB3
  have HO3 := Lib.hid hO3
  have hs3 := hBw3.size
  have hr1 := (S1.out.below hBw3).2.2.2
  clear hO2 hO3 hg3 hB3 hb3 hB1 hBa hs0 hr0 hs2
  go_upto_region 7 with (first
    | (refine wpList_str8 (dst := some 23) A1 l1.length c1 w.heap.size l1 rfl rfl rfl hr1 ?_)
    | (refine wpList_bytes8 (dst := some 24) w3.heap.size l1 rfl rfl (Nat.le_refl _) hlm1 ?_; intro cap5 w5 hO5 hB5 hs5)
    | (at_builtin; refine wpList_app8 rfl (.tmp 24) (.tmp 25) 31 rfl (.inl ⟨_, Try.underlying31⟩) w3.heap.size _ _ _ l1 rfl (hO5.alloc _) 1 [9] (Src.slice rfl (Row.new _ _ _ _ (w5.heap.size + 1) _ rfl (by omega) _ rfl)) (.inr ⟨rfl, by omega⟩) (by simp; omega) ?_; intro A6 cap6 w6 hO6 hg6 hB6 hb6; have hcap6 := hO6.le.1))
  have hB36 : Below w3.heap.size w3 w6 := (hB5.alloc (by omega) _).trans hB6
  have hBw6 : Below w.heap.size w w6 := hBw3.trans (hB36.mono hs3)
  have HO36 := Lib.hid (HO3.out.below_all hB36)
  have HO6 := Lib.hid hO6
  have HBw6 := Lib.hid hBw6
  clear hO5 hO6 hg6 hB6 hb6 hB5 hs5 hr1 hB36 hBw3 hs3 HO3 hBw6
  have T0 := Lib.hid (show ∀ W, Grew w6 W → Sl W W.heap.size A0 l0.length c0 l0 from fun W hW => (S0.out.below (HBw6.out.trans (hW.mono HBw6.out.size))).more (Nat.le_trans HBw6.out.size hW.size))
  have T1 := Lib.hid (show ∀ W, Grew w6 W → Sl W W.heap.size A1 l1.length c1 l1 from fun W hW => (S1.out.below (HBw6.out.trans (hW.mono HBw6.out.size))).more (Nat.le_trans HBw6.out.size hW.size))
  have T3 := Lib.hid (show ∀ W, Grew w6 W → Sl W W.heap.size A3 l0.length cap3 l0 from fun W hW => by
    have h1 := (HO36.out.sl.grew hW).pre (k := l0.length) (by omega)
    rwa [List.take_append_of_le_length (Nat.le_refl _), List.take_length] at h1)
  have T6 := Lib.hid (show ∀ W, Grew w6 W → Sl W W.heap.size A6 l1.length cap6 l1 from fun W hW => by
    have h1 := (HO6.out.sl.grew hW).pre (k := l1.length) (by omega)
    rwa [List.take_append_of_le_length (Nat.le_refl _), List.take_length] at h1)
  have hl3 := HO36.out.len
  have hl6 := HO6.out.len
  have HL3 := Lib.hid hl3
  have HL6 := Lib.hid hl6
  have hc3m := HO36.out.le.2
  have hc6m := HO6.out.le.2
  unfold maxLen at hc3m hc6m hlm0 hlm1
  clear hl3 hl6
  have hqq := And.intro HEQ.out.1 (And.intro HEQ.out.2 (And.intro (nine_eq l0) (nine_eq l1)))
  refine F.wp_region_x [] (by kernel_rfl) (by kernel_rfl) (by kernel_rfl) ?_
  simp only [F.blank, List.foldl_nil]

  repeat (first
    | (refine F.wpX_value (v := ?_) rfl (by intros; simp) rfl rfl (fun x => ?_) ?_; rotate_left; (focus (simp [go_sem, hqq, ↓IntWalk.iteOmega]; (try go_ints); first | done | (with_reducible rfl))); (simp only [Act.put, List.setIfInBounds_toArray, List.set_cons_succ, List.set_cons_zero]))
    | (refine F.wpX_str8 A3 (l0.length + 1) cap3 w6.heap.size (l0 ++ [9]) rfl rfl rfl rfl HL3.out (Nat.le_refl _) HO36.out.row ?_; (simp only [Act.put, List.setIfInBounds_toArray, List.set_cons_succ, List.set_cons_zero]))
    | (refine F.wpX_str8 A6 (l1.length + 1) cap6 w6.heap.size (l1 ++ [9]) rfl rfl rfl rfl HL6.out (Nat.le_refl _) HO6.out.row ?_; (simp only [Act.put, List.setIfInBounds_toArray, List.set_cons_succ, List.set_cons_zero]))
    | (refine F.wpX_str8 A0 l0.length c0 w6.heap.size l0 rfl rfl rfl rfl rfl (Nat.le_refl _) (T0.out w6 (Grew.refl _)).2.2.2 ?_; (simp only [Act.put, List.setIfInBounds_toArray, List.set_cons_succ, List.set_cons_zero]))
    | (refine F.wpX_str8 A1 l1.length c1 w6.heap.size l1 rfl rfl rfl rfl rfl (Nat.le_refl _) (T1.out w6 (Grew.refl _)).2.2.2 ?_; (simp only [Act.put, List.setIfInBounds_toArray, List.set_cons_succ, List.set_cons_zero]))
    | (refine F.wpX_call (.agg C.toArray) 19 #[.slice A3 l0.length cap3] rfl (by intros; simp) rfl rfl (fun _ => ?_) (fun w' hw' => HSum.out w' _ _ _ (T3.out w' hw')) ?_; (focus (simp [go_sem]; done)); (simp only [Act.put, List.setIfInBounds_toArray, List.set_cons_succ, List.set_cons_zero]))
    | (refine F.wpX_call (.agg C.toArray) 22 #[.slice A0 l0.length c0] rfl (by intros; simp) rfl rfl (fun _ => ?_) (fun w' hw' => HRSum.out w' _ _ _ (T0.out w' hw')) ?_; (focus (simp [go_sem]; done)); (simp only [Act.put, List.setIfInBounds_toArray, List.set_cons_succ, List.set_cons_zero]))
    | (refine F.wpX_call (.agg E.toArray) 23 #[.slice A6 l1.length cap6, .slice A3 l0.length cap3] rfl (by intros; simp) rfl rfl (fun _ => ?_) (fun w' hw' => HMac.out w' _ _ _ _ _ _ (T6.out w' hw') (T3.out w' hw')) ?_; (focus (simp [go_sem]; done)); (simp only [Act.put, List.setIfInBounds_toArray, List.set_cons_succ, List.set_cons_zero]))
    | (refine F.wpX_call (.agg E.toArray) 24 #[.slice A1 l1.length c1, .slice A0 l0.length c0] rfl (by intros; simp) rfl rfl (fun _ => ?_) (fun w' hw' => HRMac.out w' _ _ _ _ _ _ (T1.out w' hw') (T0.out w' hw')) ?_; (focus (simp [go_sem]; done)); (simp only [Act.put, List.setIfInBounds_toArray, List.set_cons_succ, List.set_cons_zero])))
  (refine F.wpX_nil ?_; intro xb wx hxg xl; obtain ⟨xf, xe⟩ := F.LikeAll.end_ xl; clear xl; subst xe; simp only [F.fill, List.foldl_nil, Act.put])
  have HBX := Lib.hid (HBw6.out.trans (hxg.mono HBw6.out.size))
  clear hqq hxg
  go_wp2_with fail
  go_ret
  exact ⟨rfl, HBX.out⟩
end Go.Proofs.Ytohgkadbajmphaa
