/- The walk of rolodexlaw2.ShaKnown. -/
import Derived.Test.YtohgkadbajmphaaShaLib
namespace Go.Proofs.Ytohgkadbajmphaa
open Go.RowKit
set_option linter.unusedVariables false
set_option maxRecDepth 100000 in
set_option maxHeartbeats 2000000 in
theorem shaKnown_walk (w : World) : Calls Try.prog 3 #[] w fun e w' => e = .returned (.bool true) ∧ Below w.heap.size w w' := by
  have kc := fun (w : World) (C : Array Value) (n c g : Nat) (hg : g = w.heap.size) => Go.Joins.run_convert_bytes_const_at (P := Try.prog) w 31 5 C n c g hg Try.underlying31 Try.underlying5
  obtain ⟨Z, hZ⟩ : ∃ Z : List UInt8, Z = List.replicate 32 0 := ⟨_, rfl⟩
  have hZl : Z.length = 32 := by rw [hZ]; simp
  obtain ⟨CZ, hCZ⟩ : ∃ C, C = Z.map b8 := ⟨_, rfl⟩
  have hRead := Lib.hid (show ∀ W : World, Calls Try.prog 15 #[.string ⟨#[122, 122]⟩] W fun e w' => e = .returned (.tuple #[.agg CZ.toArray, .int .i64 14]) ∧ Grew W w' from fun W => by have := sha_read [122, 122] W (by unfold maxLen; simp); rw [show ShaP.readD [122, 122] = Z by rw [hZ]; rfl, show ShaP.readE [122, 122] = 14 from rfl, ← hCZ] at this; exact this)
  obtain ⟨D0, hD0⟩ : ∃ D : List UInt8, D = ShaP.digest [] := ⟨_, rfl⟩
  have hD0l : D0.length = 32 := by rw [hD0]; exact ShaP.digest_len _
  obtain ⟨C0, hC0⟩ : ∃ C, C = D0.map b8 := ⟨_, rfl⟩
  have hSum0 := Lib.hid (show ∀ W : World, Calls Try.prog 19 #[.slice none 0 0] W fun e w' => e = .returned (.agg C0.toArray) ∧ Grew W w' from fun W => by have := sha_sum none 0 0 W.heap.size [] W (Sl.nil W _) (Nat.le_refl _) (by omega); rw [← hD0, ← hC0] at this; exact this)
  have hEq := Lib.hid (show ∀ (A1 : Option Addr) (n1 c1 : Nat) (W : World), Sl W W.heap.size A1 n1 c1 [97] → Calls Try.prog 21 #[.slice A1 n1 c1, .slice none 0 0] W fun e w' => e = .returned (.bool false) ∧ Grew W w' from fun A1 n1 c1 W h1 => sha_equal A1 none n1 c1 0 0 W.heap.size [97] [] W h1 (Sl.nil W _) (Nat.le_refl _))
  have heq := eql_same C0 D0 hD0l hC0
  have HEQ := Lib.hid heq
  have HCZ := Lib.hid hCZ
  have HZl := Lib.hid hZl
  have HC0 := Lib.hid hC0
  have HD0 := Lib.hid hD0
  have HD0l := Lib.hid hD0l
  clear hZ hZl hCZ hD0 hD0l hC0 heq
  go_enter Try.func3, Try.ntmps3
  go_wp2_with fail
  refine (awake2 w).mono ?_
  rintro e w1 ⟨rfl, hB1⟩
  go_wp2_with fail
  refine (hRead.out w1).mono ?_
  rintro e w2 ⟨rfl, hg2⟩
  have hB2 : Below w.heap.size w w2 := hB1.trans (hg2.mono hB1.size)
  have HST := Lib.hid (boxed_store w2 CZ Z HZl.out HCZ.out)
  have hB3 : Below w.heap.size w (boxed32 w2 CZ) := hB2.trans ((boxed_grew w2 CZ).mono hB2.size)
  obtain ⟨w3, hw3⟩ : ∃ w3, w3 = boxed32 w2 CZ := ⟨_, rfl⟩
  rw [← hw3] at hB3
  have HW3 := Lib.hid hw3
  clear hB1 hg2 hB2 hw3
  go_wp2_with (first
    | (refine wpList_value (o := ⟨some 1, _, _, _, _, _⟩) (v := .pointer (some ⟨w2.heap.size, 0, none⟩)) (w' := w2.alloc (.cells dzeros 23)) rfl (by kernel_rfl) ?_)
    | (refine wpList_store_mid rfl 23 (.tmp 1) (.tmp 10) rfl w2.heap.size 0 CZ.toArray rfl rfl HST.out.1 HST.out.2.1 HST.out.2.2.1 ?_; rw [show (w2.alloc (.cells dzeros 23)).setCells w2.heap.size 0 CZ.toArray.toList = w3 from HW3.out.symm]))
  refine (hash_new w3).mono ?_
  rintro e w4 ⟨rfl, hH4, hB4⟩
  have hB40 : Below w.heap.size w w4 := hB3.trans (hB4.mono hB3.size)
  have HH4 := Lib.hid hH4
  clear hH4 hB4
  go_wp2_with fail
  have hT := Lib.hid (show Calls Try.prog 17 #[.pointer (some ⟨w3.heap.size, 0, none⟩)] w4 fun e w' => e = .returned (.agg C0.toArray) ∧ HashV w' w3.heap.size w3.heap.size none 0 0 [] true D0 ∧ w4.grownBy w' (some w3.heap.size) from by have := hash_sum _ _ _ _ _ _ _ _ w4 HH4.out (by omega); rw [← HD0.out, ← HC0.out] at this; exact this)
  refine hT.out.mono ?_
  rintro e w5 ⟨rfl, hH5, hg5⟩
  have hB5 : Below w.heap.size w w5 := hB40.trans (below_grown hg5 hB40.size (fun k e => by injection e with e; have := hB3.size; omega))
  have HH5 := Lib.hid hH5
  have HST5 := Lib.hid (boxed_store w5 C0 D0 HD0l.out HC0.out)
  obtain ⟨w6, hw6⟩ : ∃ w6, w6 = boxed32 w5 C0 := ⟨_, rfl⟩
  have hg6 : Grew w5 w6 := by rw [hw6]; exact boxed_grew w5 C0
  have HA6 := Lib.hid (show ArrV w6 w5.heap.size C0 by rw [hw6]; exact HST5.out.2.2.2.1)
  have HH6 := Lib.hid (HH5.out.grew hg6)
  have hB6 : Below w.heap.size w w6 := hB5.trans (hg6.mono hB5.size)
  have HW6 := Lib.hid hw6
  clear hT HH4 hH5 hg5 hB5 hB40 hB3 hg6 hw6 HH5 HST
  go_wp2_with (first
    | (refine wpList_value (o := ⟨some 4, _, _, _, _, _⟩) (v := .pointer (some ⟨w5.heap.size, 0, none⟩)) (w' := w5.alloc (.cells dzeros 23)) rfl (by kernel_rfl) ?_)
    | (refine wpList_store_mid rfl 23 (.tmp 4) (.tmp 14) rfl w5.heap.size 0 C0.toArray rfl rfl HST5.out.1 HST5.out.2.1 HST5.out.2.2.1 ?_; rw [show (w5.alloc (.cells dzeros 23)).setCells w5.heap.size 0 C0.toArray.toList = w6 from HW6.out.symm]))
  obtain ⟨w7, hw7⟩ : ∃ w7, w7 = w6.alloc (.cells #[.int .u8 120] 5 (1, 2)) := ⟨_, rfl⟩
  have hg7 : Grew w6 w7 := by rw [hw7]; exact grew_alloc w6 _
  have HH7 := Lib.hid (HH6.out.grew hg7)
  have HA7 := Lib.hid (HA6.out.grew hg7)
  have hB7 : Below w.heap.size w w7 := hB6.trans (hg7.mono hB6.size)
  refine (show Calls Try.prog _ _ (w6.alloc (.cells #[.int .u8 120] 5 (1, 2))) _ from by rw [← hw7]; exact hash_write_closed _ _ _ _ _ _ _ w7 (.slice (some ⟨w6.heap.size, 0, none⟩) 1 1) HH7.out).mono ?_
  rintro e w8 ⟨rfl, hw8⟩
  obtain rfl : w7 = w8 := hw8
  clear hw7 hg7 HH6 HA6 hB6 HST5 HW6 HW3
  go_upto_region 7 with fail
  have hLen := Lib.hid (show ∀ W : World, Grew w7 W → Calls Try.prog 20 #[.pointer (some ⟨w3.heap.size, 0, none⟩)] W fun e w' => e = .returned (.int .i64 0) ∧ Grew W w' from fun W hW => (hash_len _ _ _ _ _ _ _ _ W (HH7.out.grew hW)).mono fun e w' h => ⟨h.1, h.2 ▸ Grew.refl _⟩)
  have hAg := Lib.hid (show ∀ W : World, Grew w7 W → Calls Try.prog 17 #[.pointer (some ⟨w3.heap.size, 0, none⟩)] W fun e w' => e = .returned (.agg C0.toArray) ∧ Grew W w' from fun W hW => by have := hash_again _ _ _ _ _ _ _ W (HH7.out.grew hW); rw [← HD0.out, ← HC0.out] at this; exact this)
  have HLD := Lib.hid (show ∀ y : GrewOf w7, (Instr.loadAt 23 (.pointer (some ⟨w5.heap.size, 0, none⟩))).run Try.prog y.1 = .ok (.agg C0.toArray) y.1 from fun y => load_box HA7.out (by rw [HC0.out, List.length_map]; exact HD0l.out) y.2)
  clear kc
  have hqq := HEQ.out
  refine F.wp_region_x [42, 43] (by kernel_rfl) (by kernel_rfl) (by kernel_rfl) ?_
  simp only [F.blank, List.foldl_cons, List.foldl_nil, Act.put, List.setIfInBounds_toArray, List.set_cons_succ, List.set_cons_zero]
  repeat (first
    | (refine F.wpX_value (v := ?_) rfl (by intros; simp) rfl rfl (fun x => ?_) ?_; rotate_left; (focus (simp [go_sem, hqq]; (try go_ints); first | done | (with_reducible rfl))); (simp only [Act.put, List.setIfInBounds_toArray, List.set_cons_succ, List.set_cons_zero]))
    | (refine F.wpX_value (.agg C0.toArray) rfl (by intros; simp) rfl rfl (fun y => exec_load (.tmp 4) rfl rfl (HLD.out y)) ?_; (simp only [Act.put, List.setIfInBounds_toArray, List.set_cons_succ, List.set_cons_zero]))
    | (refine F.wpX_call (o := ⟨some 23, _, _, _, _, _⟩) (.agg C0.toArray) _ _ rfl (by intros; simp) rfl rfl (fun _ => ?_) (fun w' _ => hSum0.out w') ?_; (focus (simp [go_sem]; done)); (simp only [Act.put, List.setIfInBounds_toArray, List.set_cons_succ, List.set_cons_zero]))
    | (refine F.wpX_call (o := ⟨some 32, _, _, _, _, _⟩) (.agg C0.toArray) _ _ rfl (by intros; simp) rfl rfl (fun _ => ?_) (fun w' hw' => hAg.out w' hw') ?_; (focus (simp [go_sem]; done)); (simp only [Act.put, List.setIfInBounds_toArray, List.set_cons_succ, List.set_cons_zero]))
    | (refine F.wpX_call (o := ⟨some 38, _, _, _, _, _⟩) (.int .i64 0) _ _ rfl (by intros; simp) rfl rfl (fun _ => ?_) (fun w' hw' => hLen.out w' hw') ?_; (focus (simp [go_sem]; done)); (simp only [Act.put, List.setIfInBounds_toArray, List.set_cons_succ, List.set_cons_zero]))
    | (refine F.wpX_build [97] rfl rfl (by unfold maxLen; simp) (fun _ _ => ?_) ?_; (focus (simp [go_sem]; rfl)); (simp only [Act.put, List.setIfInBounds_toArray, List.set_cons_succ, List.set_cons_zero]))
    | (refine F.wpX_mark _ _ rfl rfl rfl rfl (by simp) ?_; (simp only [Act.put, List.setIfInBounds_toArray, List.set_cons_succ, List.set_cons_zero]))
    | (refine F.wpX_callR (o := ⟨some 44, _, _, _, _, _⟩) (.bool false) 21 rfl rfl (fun a' W hg hl => ?_) ?_; (focus (obtain ⟨A, n, c, e1, h1⟩ := F.like_mem (t := 43) hl rfl rfl rfl; simp [go_sem] at e1; exact ⟨#[.slice A n c, .slice none 0 0], by simp [go_sem, e1], hEq.out A n c W h1⟩)); (simp only [Act.put, List.setIfInBounds_toArray, List.set_cons_succ, List.set_cons_zero])))
  (refine F.wpX_nil ?_; intro xb wx hxg xl; obtain ⟨xf, xe⟩ := F.LikeAll.end_ xl; clear xl; subst xe; try simp only [F.fill, List.foldl_cons, List.foldl_nil, Act.put, List.setIfInBounds_toArray, List.set_cons_succ, List.set_cons_zero])
  have HBX := Lib.hid (hB7.trans (hxg.mono hB7.size))
  clear hqq hxg
  go_wp2_with fail
  go_ret
  exact ⟨rfl, HBX.out⟩
end Go.Proofs.Ytohgkadbajmphaa
