/- The walk of rolodexlaw2.awake. -/
import Derived.Test.YtohgkadbajmphaaHashM
import Derived.Test.YtohgkadbajmphaaShaVals
import Derived.Test.YtohgkadbajmphaaExtF
import Derived.Stop.BytesEq
import Derived.Lib.SmallJoins
namespace Go.Proofs.Ytohgkadbajmphaa
open Go.RowKit
set_option linter.unusedVariables false
theorem grew_alloc (w : World) (o : Obj) : Grew w (w.alloc o) := (Below.refl _ _).alloc (Nat.le_refl _) _
theorem keptBut.grew_base {w w' : World} {X : Nat → Prop} {base : Nat} (h : keptBut w w' X) (hb : base ≤ w.heap.size) (hX : ∀ k, X k → base ≤ k) : Below base w w' := h.below hb hX
theorem HashV.base_le {w : World} {base g : Nat} {A : Option Addr} {n c : Nat} {l : List UInt8} {d : Bool} {S : List UInt8} (h : HashV w base g A n c l d S) (hg : base ≤ g) : ∀ k, (k = g ∨ blk A = some k) → base ≤ k := fun k hk => by
  rcases hk with rfl | hk
  · exact hg
  · exact (h.own.lt k hk).1
/-- a few bytes in a block that was just made -/
theorem sl_new (W : World) (C : Array Value) (e : TypeId) (fr : Nat × Nat) (l : List UInt8) (n : Nat) (hn : l.length = n) (hm : n ≤ maxLen) (hC : C.toList = l.map b8) : Sl (W.alloc (.cells C e fr)) (W.heap.size + 1) (some ⟨W.heap.size, 0, none⟩) n n l :=
  ⟨hn, Nat.le_refl _, hm, Row.new _ _ _ _ _ _ rfl (Nat.lt_succ_self _) _ hC⟩
theorem eql32 (l m : List UInt8) (hl : l.length = 32) (hm : m.length = 32) (w : World) : (binOp .eql 23 (.agg (l.map b8).toArray) (.agg (m.map b8).toArray)).run Try.prog w = .ok (.bool (l == m)) w :=
  run_eql_bytes w 23 5 32 Try.underlying23 Try.underlying5 (fun _ => by kernel_rfl) l m hl hm
theorem cut8 (X r : List UInt8) (a b c d e f g h : UInt8) (hX : X = a :: b :: c :: d :: e :: f :: g :: h :: r) (W : World) : (Instr.slice 9 (.string ⟨X.toArray⟩) none (some (.int .i64 8)) none).run Try.prog W = .ok (.string ⟨#[a, b, c, d, e, f, g, h]⟩) W := by
  subst hX
  have hsz : (ByteArray.mk (a :: b :: c :: d :: e :: f :: g :: h :: r).toArray).size = r.length + 8 := by show (a :: b :: c :: d :: e :: f :: g :: h :: r).toArray.size = _; simp
  have hex : (ByteArray.mk (a :: b :: c :: d :: e :: f :: g :: h :: r).toArray).extract 0 8 = ⟨#[a, b, c, d, e, f, g, h]⟩ := by
    apply ByteArray.ext
    simp [ByteArray.data_extract]
  simp [go_sem, Try.underlying9, hsz, hex]
  intro h9
  omega
theorem exec_load {P : Program} {o : Oper} {a : Act} {w : World} {v p : Value} {ty : TypeId} (x : Operand) (ho : o.op = .load ty x) (hx : a.eval x = p) (h : (Instr.loadAt ty p).run P w = .ok v w) : (execOp a.eval o).run P w = .ok (.value v) w := by
  unfold execOp
  simp only [ho, hx, Sem.run_bind, h, Result.andThen_ok, Sem.run_pure]
set_option maxRecDepth 100000 in
set_option maxHeartbeats 4000000 in
theorem awake2 (w : World) : Calls Try.prog 14 #[] w fun e w' => e = .returned (.bool true) ∧ Below w.heap.size w w' := by
  have kc := fun (w : World) (C : Array Value) (n c g : Nat) (hg : g = w.heap.size) => Go.Joins.run_convert_bytes_const_at (P := Try.prog) w 31 5 C n c g hg Try.underlying31 Try.underlying5
  go_enter Try.func14, Try.ntmps14
  go_wp2_with fail
  refine (hash_new w).mono ?_
  rintro e w1 ⟨rfl, hH1, hB1⟩
  have hz1 : w.heap.size < w1.heap.size := hH1.arr.lt
  have HH1 := Lib.hid hH1
  clear hH1
  go_wp2_with fail
  have hT := Lib.hid (hash_write w.heap.size w.heap.size none 0 0 [] (List.replicate 32 0) (some ⟨w1.heap.size, 0, none⟩) 2 2 (w1.heap.size + 1) [97, 98] _ (HH1.out.grew (grew_alloc w1 (.cells #[.int .u8 97, .int .u8 98] 5 (2, 3)))) (sl_new w1 _ _ _ [97, 98] 2 rfl (by unfold maxLen; omega) rfl) (by simp) (by simp; omega) (by omega))
  refine hT.out.mono ?_
  rintro e w2 ⟨A2, c2, rfl, hH2, hk2, _⟩
  have hB2 : Below w.heap.size w w2 := (hB1.trans ((grew_alloc w1 _).mono hB1.size)).trans (hk2.below (by simp; omega) ((HH1.out.grew (grew_alloc w1 (.cells #[.int .u8 97, .int .u8 98] 5 (2, 3)))).base_le (Nat.le_refl _)))
  have HH2 := Lib.hid hH2
  clear hT HH1 hH2 hk2 hB1
  have hz2 : w.heap.size < w2.heap.size := HH2.out.arr.lt
  go_wp2_with fail
  have hT := Lib.hid (hash_write w.heap.size w.heap.size A2 (0 + 2) c2 ([] ++ [97, 98]) (List.replicate 32 0) (some ⟨w2.heap.size, 0, none⟩) 1 1 (w2.heap.size + 1) [99] _ (HH2.out.grew (grew_alloc w2 (.cells #[.int .u8 99] 5 (1, 2)))) (sl_new w2 _ _ _ [99] 1 rfl (by unfold maxLen; omega) rfl) (by simp) (by simp; omega) (by omega))
  refine hT.out.mono ?_
  rintro e w3 ⟨A3, c3, rfl, hH3, hk3, _⟩
  have hB3 : Below w.heap.size w w3 := (hB2.trans ((grew_alloc w2 _).mono hB2.size)).trans (hk3.below (by simp; omega) ((HH2.out.grew (grew_alloc w2 (.cells #[.int .u8 99] 5 (1, 2)))).base_le (Nat.le_refl _)))
  have HH3 := Lib.hid hH3
  clear hT HH2 hH3 hk3 hB2
  have hz3 : w.heap.size < w3.heap.size := HH3.out.arr.lt
  go_wp2_with fail
  have hT := Lib.hid (hash_sum w.heap.size w.heap.size A3 (0 + 2 + 1) c3 ([] ++ [97, 98] ++ [99]) false _ w3 HH3.out (by omega))
  obtain ⟨D, hD⟩ : ∃ D : List UInt8, D = ShaP.digest [97, 98, 99] := ⟨_, rfl⟩
  have hDl : D.length = 32 := by rw [hD]; exact ShaP.digest_len _
  rw [show ShaP.digest ([] ++ [97, 98] ++ [99]) = D from hD.symm] at hT
  obtain ⟨C, hC⟩ : ∃ C, C = D.map b8 := ⟨_, rfl⟩
  rw [← hC] at hT
  have HD := Lib.hid hD
  have HDl := Lib.hid hDl
  have HC := Lib.hid hC
  clear hD hDl hC
  refine hT.out.mono ?_
  rintro e w4 ⟨rfl, hH4, hg4⟩
  have hB4 : Below w.heap.size w w4 := hB3.trans (below_grown hg4 hB3.size (fun k e => by injection e with e; omega))
  have HH4 := Lib.hid hH4
  have hz4 : w.heap.size < w4.heap.size := HH4.out.arr.lt
  have HS := Lib.hid (stored32 (W := w4.alloc (.cells dzeros 23)) HDl.out HC.out (dz_made w4) zeros32_len)
  have HIN := Lib.hid (show (Try.prog.info? 23).map (·.size) = some C.length by rw [HS.out.2.2.2.2]; kernel_rfl)
  clear hT HH3 hH4 hB3
  obtain ⟨w5, hw5⟩ : ∃ w5, w5 = (w4.alloc (.cells dzeros 23)).setCells w4.heap.size 0 C := ⟨_, rfl⟩
  have hG5 : w4.grownBy w5 none := by rw [hw5]; exact grown_fresh (grown_grew (grown_refl w4 none) (grew_alloc w4 _)) (Nat.le_refl _) (grown_setCells w4.heap.size C 0 _)
  have hg5 : Grew w4 w5 := ⟨hG5.os, hG5.tape, hG5.output, hG5.size, fun k hk => hG5.block k hk (by simp)⟩
  have HS5 := Lib.hid (show ArrV w5 w4.heap.size C by rw [hw5]; exact HS.out.2.2.2.1)
  have HH5 := Lib.hid (HH4.out.grew hg5)
  have hB5 : Below w.heap.size w w5 := hB4.trans (hg5.mono hB4.size)
  have HW5 := Lib.hid hw5
  have HRG := Lib.hid (HS5.out.range)
  clear hw5 hG5 HH4 hg4 hB4
  go_wp2_with (first
    | (refine wpList_value (o := ⟨some 3, _, _, _, _, _⟩) (v := .pointer (some ⟨w4.heap.size, 0, none⟩)) (w' := w4.alloc (.cells dzeros 23)) rfl (by kernel_rfl) ?_)
    | (refine wpList_store_mid rfl 23 (.tmp 3) (.tmp 18) rfl w4.heap.size 0 C.toArray rfl rfl HS.out.1 HS.out.2.1 HS.out.2.2.1 ?_; rw [show C.toArray.toList = C from rfl, ← HW5.out])
    | (refine wpList_load_mid rfl 23 (.tmp 3) rfl w4.heap.size 0 rfl C _ HRG.out Try.underlying23 rfl HIN.out ?_))
  obtain ⟨X, hX⟩ : ∃ X : List UInt8, X = ShaP.hex D := ⟨_, rfl⟩
  have hX8 : ∃ r, X = 98 :: 97 :: 55 :: 56 :: 49 :: 54 :: 98 :: 102 :: r := ⟨X.drop 8, by
    conv => lhs; rw [← List.take_append_drop 8 X]
    rw [hX, HD.out, ShaP.hex_abc]; rfl⟩
  have hRX : ShaP.readD X = D ∧ ShaP.readE X = 0 := by rw [hX, HD.out]; exact ShaP.read_abc
  have hXl : X.length ≤ maxLen := by rw [hX, ShaP.hex_len, HDl.out]; unfold maxLen; omega
  have hs8 : ∀ W : World, (Instr.slice 9 (.string ⟨X.toArray⟩) none (some (.int .i64 8)) none).run Try.prog W = .ok (.string ⟨#[98, 97, 55, 56, 49, 54, 98, 102]⟩) W := by
    obtain ⟨r, hr⟩ := hX8
    exact cut8 X r _ _ _ _ _ _ _ _ hr
  have HCUT := Lib.hid hs8
  have HX := Lib.hid hX
  have HRX := Lib.hid hRX
  have hHex := Lib.hid (show ∀ W : World, Calls Try.prog 25 #[.agg C.toArray] W fun e w' => e = .returned (.string ⟨X.toArray⟩) ∧ Below W.heap.size W w' from fun W => by have := sha_hex D HDl.out W; rw [← HC.out, ← HX.out] at this; exact this)
  have HRG5 := HRG
  have hz5 : w.heap.size < w5.heap.size := HH5.out.arr.lt
  clear hX hX8 hRX hs8 HRG
  refine (hHex.out w5).mono ?_
  rintro e w6 ⟨rfl, hg6⟩
  have hx : Grew w5 w6 := hg6
  have HH6 := Lib.hid (HH5.out.grew hx)
  have HS6 := Lib.hid (HS5.out.grew hx)
  have HRG6 := Lib.hid HS6.out.range
  have hB6 : Below w.heap.size w w6 := hB5.trans (hx.mono hB5.size)
  have hz6 : w.heap.size < w6.heap.size := HH6.out.arr.lt
  clear hx HH5 HS5 HRG5 hB5 hz5
  clear hg6
  go_wp2_with fail
  have hT := Lib.hid (show Calls Try.prog 15 #[.string ⟨X.toArray⟩] w6 fun e w' => e = .returned (.tuple #[.agg C.toArray, .int .i64 0]) ∧ Below w6.heap.size w6 w' from by have := sha_read X w6 hXl; rw [HRX.out.1, HRX.out.2, ← HC.out] at this; exact this)
  refine hT.out.mono ?_
  rintro e w7 ⟨rfl, hg7⟩
  clear hT hXl
  have hx : Grew w6 w7 := hg7
  have HH7 := Lib.hid (HH6.out.grew hx)
  have HS7 := Lib.hid (HS6.out.grew hx)
  have HRG7 := Lib.hid HS7.out.range
  have hB7 : Below w.heap.size w w7 := hB6.trans (hx.mono hB6.size)
  have hz7 : w.heap.size < w7.heap.size := HH7.out.arr.lt
  clear hx HH6 HS6 HRG6 hB6 hz6
  clear hg7
  have HSS := Lib.hid (stored32 (W := w7.alloc (.cells dzeros 23)) HDl.out HC.out (dz_made w7) zeros32_len)
  obtain ⟨w8, hw8⟩ : ∃ w8, w8 = (w7.alloc (.cells dzeros 23)).setCells w7.heap.size 0 C := ⟨_, rfl⟩
  have hG8 : w7.grownBy w8 none := by rw [hw8]; exact grown_fresh (grown_grew (grown_refl w7 none) (grew_alloc w7 _)) (Nat.le_refl _) (grown_setCells w7.heap.size C 0 _)
  have hg8 : Grew w7 w8 := ⟨hG8.os, hG8.tape, hG8.output, hG8.size, fun k hk => hG8.block k hk (by simp)⟩
  have HT8 := Lib.hid (show ArrV w8 w7.heap.size C by rw [hw8]; exact HSS.out.2.2.2.1)
  have HRT8 := Lib.hid HT8.out.range
  have HW8 := Lib.hid hw8
  clear hw8 hG8
  have hx : Grew w7 w8 := hg8
  have HH8 := Lib.hid (HH7.out.grew hx)
  have HS8 := Lib.hid (HS7.out.grew hx)
  have HRG8 := Lib.hid HS8.out.range
  have hB8 : Below w.heap.size w w8 := hB7.trans (hx.mono hB7.size)
  have hz8 : w.heap.size < w8.heap.size := HH8.out.arr.lt
  clear hx HH7 HS7 HRG7 hB7 hz7
  clear hg8
  go_wp2_with (first
    | (refine wpList_value (o := ⟨some 4, _, _, _, _, _⟩) (v := .pointer (some ⟨w7.heap.size, 0, none⟩)) (w' := w7.alloc (.cells dzeros 23)) rfl (by kernel_rfl) ?_)
    | (refine wpList_store_mid rfl 23 (.tmp 4) (.tmp 23) rfl w7.heap.size 0 C.toArray rfl rfl HSS.out.1 HSS.out.2.1 HSS.out.2.2.1 ?_; rw [show C.toArray.toList = C from rfl, ← HW8.out]))
  obtain ⟨D0, hD0⟩ : ∃ D : List UInt8, D = ShaP.digest [] := ⟨_, rfl⟩
  have hD0l : D0.length = 32 := by rw [hD0]; exact ShaP.digest_len _
  obtain ⟨C0, hC0⟩ : ∃ C, C = D0.map b8 := ⟨_, rfl⟩
  have hSum0 := Lib.hid (show ∀ W : World, Calls Try.prog 19 #[.slice none 0 0] W fun e w' => e = .returned (.agg C0.toArray) ∧ Grew W w' from fun W => by have := sha_sum none 0 0 W.heap.size [] W (Sl.nil W _) (Nat.le_refl _) (by omega); rw [← hD0, ← hC0] at this; exact this)
  have hHex0 := Lib.hid (show ∀ W : World, Calls Try.prog 25 #[.agg C0.toArray] W fun e w' => e = .returned (.string ⟨#[101, 51, 98, 48, 99, 52, 52, 50, 57, 56, 102, 99, 49, 99, 49, 52, 57, 97, 102, 98, 102, 52, 99, 56, 57, 57, 54, 102, 98, 57, 50, 52, 50, 55, 97, 101, 52, 49, 101, 52, 54, 52, 57, 98, 57, 51, 52, 99, 97, 52, 57, 53, 57, 57, 49, 98, 55, 56, 53, 50, 98, 56, 53, 53]⟩) ∧ Grew W w' from fun W => by have := sha_hex D0 hD0l W; rw [← hC0, hD0, ShaP.hex_nil] at this; exact this)
  have hSumA := Lib.hid (show ∀ (A : Option Addr) (n c : Nat) (W : World), Sl W W.heap.size A n c [97, 98, 99] → Calls Try.prog 19 #[.slice A n c] W fun e w' => e = .returned (.agg C.toArray) ∧ Grew W w' from fun A n c W h => by have := sha_sum A n c W.heap.size _ W h (Nat.le_refl _) (by have := h.1; simp at this; omega); rw [← HD.out, ← HC.out] at this; exact this)
  obtain ⟨M, hM⟩ : ∃ M : List UInt8, M = ShaP.mac [107, 101, 121] [84, 104, 101, 32, 113, 117, 105, 99, 107, 32, 98, 114, 111, 119, 110, 32, 102, 111, 120, 32, 106, 117, 109, 112, 115, 32, 111, 118, 101, 114, 32, 116, 104, 101, 32, 108, 97, 122, 121, 32, 100, 111, 103] := ⟨_, rfl⟩
  have hMl : M.length = 32 := by rw [hM]; exact ShaP.mac_len _ _
  obtain ⟨CM, hCM⟩ : ∃ C, C = M.map b8 := ⟨_, rfl⟩
  obtain ⟨Y, hY⟩ : ∃ Y : List UInt8, Y = ShaP.hex M := ⟨_, rfl⟩
  have hY8 : ∃ r, Y = 102 :: 55 :: 98 :: 99 :: 56 :: 51 :: 102 :: 52 :: r := ⟨Y.drop 8, by
    conv => lhs; rw [← List.take_append_drop 8 Y]
    rw [hY, hM, ShaP.mac_fox]; rfl⟩
  have hcY : ∀ W : World, (Instr.slice 9 (.string ⟨Y.toArray⟩) none (some (.int .i64 8)) none).run Try.prog W = .ok (.string ⟨#[102, 55, 98, 99, 56, 51, 102, 52]⟩) W := by
    obtain ⟨r, hr⟩ := hY8
    exact cut8 Y r _ _ _ _ _ _ _ _ hr
  have hMac := Lib.hid (show ∀ (A1 A2 : Option Addr) (n1 c1 n2 c2 : Nat) (W : World), Sl W W.heap.size A1 n1 c1 [107, 101, 121] → Sl W W.heap.size A2 n2 c2 [84, 104, 101, 32, 113, 117, 105, 99, 107, 32, 98, 114, 111, 119, 110, 32, 102, 111, 120, 32, 106, 117, 109, 112, 115, 32, 111, 118, 101, 114, 32, 116, 104, 101, 32, 108, 97, 122, 121, 32, 100, 111, 103] → Calls Try.prog 23 #[.slice A1 n1 c1, .slice A2 n2 c2] W fun e w' => e = .returned (.agg CM.toArray) ∧ Grew W w' from fun A1 A2 n1 c1 n2 c2 W h1 h2 => by have := sha_mac A1 A2 n1 c1 n2 c2 W.heap.size _ _ W h1 h2 (Nat.le_refl _) (by have := h1.1; simp at this; omega) (by have := h2.1; simp at this; omega); rw [← hM, ← hCM] at this; exact this)
  have hHexM := Lib.hid (show ∀ W : World, Calls Try.prog 25 #[.agg CM.toArray] W fun e w' => e = .returned (.string ⟨Y.toArray⟩) ∧ Grew W w' from fun W => by have := sha_hex M hMl W; rw [← hCM, ← hY] at this; exact this)
  have hEq := Lib.hid (show ∀ (l m : List UInt8) (A1 A2 : Option Addr) (n1 c1 n2 c2 : Nat) (W : World), Sl W W.heap.size A1 n1 c1 l → Sl W W.heap.size A2 n2 c2 m → Calls Try.prog 21 #[.slice A1 n1 c1, .slice A2 n2 c2] W fun e w' => e = .returned (.bool (decide (l = m))) ∧ Grew W w' from fun l m A1 A2 n1 c1 n2 c2 W h1 h2 => sha_equal A1 A2 n1 c1 n2 c2 W.heap.size l m W h1 h2 (Nat.le_refl _))
  have hLen := Lib.hid (show ∀ W : World, Grew w8 W → Calls Try.prog 20 #[.pointer (some ⟨w.heap.size, 0, none⟩)] W fun e w' => e = .returned (.int .i64 3) ∧ Grew W w' from fun W hW => (hash_len _ _ _ _ _ _ _ _ W (HH8.out.grew hW)).mono fun e w' h => ⟨h.1, h.2 ▸ Grew.refl _⟩)
  have hWr := Lib.hid (show ∀ (v : Value) (W : World), Grew w8 W → Calls Try.prog 18 #[.pointer (some ⟨w.heap.size, 0, none⟩), v] W fun e w' => e = .returned (.int .i64 0) ∧ Grew W w' from fun v W hW => (hash_write_closed _ _ _ _ _ _ _ W v (HH8.out.grew hW)).mono fun e w' h => ⟨h.1, h.2 ▸ Grew.refl _⟩)
  have heq : ∀ W : World, (binOp .eql 23 (.agg C.toArray) (.agg C.toArray)).run Try.prog W = .ok (.bool true) W := fun W => by
    have := eql32 D D HDl.out HDl.out W
    rw [← HC.out] at this
    rw [this]
    simp
  have ld3 : ∀ y : GrewOf w8, (Instr.loadAt 23 (.pointer (some ⟨w4.heap.size, 0, none⟩))).run Try.prog y.1 = .ok (.agg C.toArray) y.1 := fun y => run_loadAt_mid (P := Try.prog) y.1 w4.heap.size 0 23 C _ (HS8.out.grew y.2).range Try.underlying23 rfl HIN.out
  have ld4 : ∀ y : GrewOf w8, (Instr.loadAt 23 (.pointer (some ⟨w7.heap.size, 0, none⟩))).run Try.prog y.1 = .ok (.agg C.toArray) y.1 := fun y => run_loadAt_mid (P := Try.prog) y.1 w7.heap.size 0 23 C _ (HT8.out.grew y.2).range Try.underlying23 rfl HIN.out
  have FF := Lib.hid (And.intro ld3 (And.intro ld4 (And.intro HCUT.out (And.intro hcY heq))))
  clear hC0 hD0 hD0l HSS HW8 ld3 ld4 heq hcY hY8 hY hCM hMl hM kc
  have hqq := FF.out
  refine F.wp_region_x [34, 35, 55, 56, 57, 58, 65, 66, 67, 68, 72, 73, 74, 75, 86, 87] (by kernel_rfl) (by kernel_rfl) (by kernel_rfl) ?_
  simp only [F.blank, List.foldl_cons, List.foldl_nil, Act.put, List.setIfInBounds_toArray, List.set_cons_succ, List.set_cons_zero]
  repeat (first
    | (refine F.wpX_value (v := ?_) rfl (by intros; simp) rfl rfl (fun x => ?_) ?_; rotate_left; (focus (simp [go_sem, hqq]; (try go_ints); first | done | (with_reducible rfl))); (simp only [Act.put, List.setIfInBounds_toArray, List.set_cons_succ, List.set_cons_zero]))
    | (refine F.wpX_value (.agg C.toArray) rfl (by intros; simp) rfl rfl (fun y => exec_load (.tmp 3) rfl rfl (hqq.1 y)) ?_; (simp only [Act.put, List.setIfInBounds_toArray, List.set_cons_succ, List.set_cons_zero]))
    | (refine F.wpX_value (.agg C.toArray) rfl (by intros; simp) rfl rfl (fun y => exec_load (.tmp 4) rfl rfl (hqq.2.1 y)) ?_; (simp only [Act.put, List.setIfInBounds_toArray, List.set_cons_succ, List.set_cons_zero]))
    | (refine F.wpX_build [97, 98, 99] rfl rfl (by unfold maxLen; simp) (fun _ _ => ?_) ?_; (focus (simp [go_sem]; rfl)); (simp only [Act.put, List.setIfInBounds_toArray, List.set_cons_succ, List.set_cons_zero]))
    | (refine F.wpX_build [107, 101, 121] rfl rfl (by unfold maxLen; simp) (fun _ _ => ?_) ?_; (focus (simp [go_sem]; rfl)); (simp only [Act.put, List.setIfInBounds_toArray, List.set_cons_succ, List.set_cons_zero]))
    | (refine F.wpX_build [97] rfl rfl (by unfold maxLen; simp) (fun _ _ => ?_) ?_; (focus (simp [go_sem]; rfl)); (simp only [Act.put, List.setIfInBounds_toArray, List.set_cons_succ, List.set_cons_zero]))
    | (refine F.wpX_build [98] rfl rfl (by unfold maxLen; simp) (fun _ _ => ?_) ?_; (focus (simp [go_sem]; rfl)); (simp only [Act.put, List.setIfInBounds_toArray, List.set_cons_succ, List.set_cons_zero]))
    | (refine F.wpX_build [100] rfl rfl (by unfold maxLen; simp) (fun _ _ => ?_) ?_; (focus (simp [go_sem]; rfl)); (simp only [Act.put, List.setIfInBounds_toArray, List.set_cons_succ, List.set_cons_zero]))
    | (refine F.wpX_build [84, 104, 101, 32, 113, 117, 105, 99, 107, 32, 98, 114, 111, 119, 110, 32, 102, 111, 120, 32, 106, 117, 109, 112, 115, 32, 111, 118, 101, 114, 32, 116, 104, 101, 32, 108, 97, 122, 121, 32, 100, 111, 103] rfl rfl (by unfold maxLen; simp) (fun _ _ => ?_) ?_; (focus (simp [go_sem]; rfl)); (simp only [Act.put, List.setIfInBounds_toArray, List.set_cons_succ, List.set_cons_zero]))
    | (refine F.wpX_callR (o := ⟨some 36, _, _, _, _, _⟩) (.agg C.toArray) 19 rfl rfl (fun a' W _ hl => ?_) ?_; (focus (obtain ⟨A, n, c, e1, h1⟩ := F.like_mem (t := 35) hl rfl rfl rfl; simp [go_sem] at e1; exact ⟨#[.slice A n c], by simp [go_sem, e1], hSumA.out A n c W h1⟩)); (simp only [Act.put, List.setIfInBounds_toArray, List.set_cons_succ, List.set_cons_zero]))
    | (refine F.wpX_callR (o := ⟨some 59, _, _, _, _, _⟩) (.agg CM.toArray) 23 rfl rfl (fun a' W _ hl => ?_) ?_; (focus (obtain ⟨A, n, c, e1, h1⟩ := F.like_mem (t := 56) hl rfl rfl rfl; obtain ⟨A2, n2, c2, e2, h2⟩ := F.like_mem (t := 58) hl rfl rfl rfl; simp [go_sem] at e1 e2; exact ⟨#[.slice A n c, .slice A2 n2 c2], by simp [go_sem, e1, e2], hMac.out A A2 n c n2 c2 W h1 h2⟩)); (simp only [Act.put, List.setIfInBounds_toArray, List.set_cons_succ, List.set_cons_zero]))
    | (refine F.wpX_callR (o := ⟨some 69, _, _, _, _, _⟩) (.bool true) 21 rfl rfl (fun a' W _ hl => ?_) ?_; (focus (obtain ⟨A, n, c, e1, h1⟩ := F.like_mem (t := 66) hl rfl rfl rfl; obtain ⟨A2, n2, c2, e2, h2⟩ := F.like_mem (t := 68) hl rfl rfl rfl; simp [go_sem] at e1 e2; exact ⟨#[.slice A n c, .slice A2 n2 c2], by simp [go_sem, e1, e2], hEq.out [97] [97] A A2 n c n2 c2 W h1 h2⟩)); (simp only [Act.put, List.setIfInBounds_toArray, List.set_cons_succ, List.set_cons_zero]))
    | (refine F.wpX_callR (o := ⟨some 76, _, _, _, _, _⟩) (.bool false) 21 rfl rfl (fun a' W _ hl => ?_) ?_; (focus (obtain ⟨A, n, c, e1, h1⟩ := F.like_mem (t := 73) hl rfl rfl rfl; obtain ⟨A2, n2, c2, e2, h2⟩ := F.like_mem (t := 75) hl rfl rfl rfl; simp [go_sem] at e1 e2; exact ⟨#[.slice A n c, .slice A2 n2 c2], by simp [go_sem, e1, e2], hEq.out [97] [98] A A2 n c n2 c2 W h1 h2⟩)); (simp only [Act.put, List.setIfInBounds_toArray, List.set_cons_succ, List.set_cons_zero]))
    | (refine F.wpX_callR (o := ⟨some 88, _, _, _, _, _⟩) (.int .i64 0) 18 rfl rfl (fun a' W hg hl => ?_) ?_; (focus (obtain ⟨A, n, c, e1, h1⟩ := F.like_mem (t := 87) hl rfl rfl rfl; have e2 := F.like_not (t := 85) hl rfl rfl; simp [go_sem] at e1 e2; exact ⟨#[.pointer (some ⟨w.heap.size, 0, none⟩), .slice A n c], by simp [go_sem, e1, e2], hWr.out _ W hg⟩)); (simp only [Act.put, List.setIfInBounds_toArray, List.set_cons_succ, List.set_cons_zero]))
    | (refine F.wpX_call (.int .i64 3) _ _ rfl (by intros; simp) rfl rfl (fun _ => ?_) (fun w' hw' => hLen.out w' hw') ?_; (focus (simp [go_sem]; done)); (simp only [Act.put, List.setIfInBounds_toArray, List.set_cons_succ, List.set_cons_zero]))
    | (refine F.wpX_mark _ _ rfl rfl rfl rfl (by simp) ?_; (simp only [Act.put, List.setIfInBounds_toArray, List.set_cons_succ, List.set_cons_zero]))
    | (refine F.wpX_value (o := ⟨some 27, _, _, _, _, _⟩) (.bool true) rfl (by intros; simp) rfl rfl (fun x => ?_) ?_; (focus (kernel_rfl)); (simp only [Act.put, List.setIfInBounds_toArray, List.set_cons_succ, List.set_cons_zero]))
    | (refine F.wpX_call (.agg C0.toArray) _ _ rfl (by intros; simp) rfl rfl (fun _ => ?_) (fun w' _ => hSum0.out w') ?_; (focus (simp [go_sem]; done)); (simp only [Act.put, List.setIfInBounds_toArray, List.set_cons_succ, List.set_cons_zero]))
    | (refine F.wpX_call (.string ⟨#[101, 51, 98, 48, 99, 52, 52, 50, 57, 56, 102, 99, 49, 99, 49, 52, 57, 97, 102, 98, 102, 52, 99, 56, 57, 57, 54, 102, 98, 57, 50, 52, 50, 55, 97, 101, 52, 49, 101, 52, 54, 52, 57, 98, 57, 51, 52, 99, 97, 52, 57, 53, 57, 57, 49, 98, 55, 56, 53, 50, 98, 56, 53, 53]⟩) _ _ rfl (by intros; simp) rfl rfl (fun _ => ?_) (fun w' _ => hHex0.out w') ?_; (focus (simp [go_sem]; done)); (simp only [Act.put, List.setIfInBounds_toArray, List.set_cons_succ, List.set_cons_zero]))
    | (refine F.wpX_call (.string ⟨X.toArray⟩) _ _ rfl (by intros; simp) rfl rfl (fun _ => ?_) (fun w' _ => hHex.out w') ?_; (focus (simp [go_sem]; done)); (simp only [Act.put, List.setIfInBounds_toArray, List.set_cons_succ, List.set_cons_zero]))
    | (refine F.wpX_call (.string ⟨Y.toArray⟩) _ _ rfl (by intros; simp) rfl rfl (fun _ => ?_) (fun w' _ => hHexM.out w') ?_; (focus (simp [go_sem]; done)); (simp only [Act.put, List.setIfInBounds_toArray, List.set_cons_succ, List.set_cons_zero])))
  (refine F.wpX_nil ?_; intro xb wx hxg xl; obtain ⟨xf, xe⟩ := F.LikeAll.end_ xl; clear xl; subst xe; try simp only [F.fill, List.foldl_cons, List.foldl_nil, Act.put, List.setIfInBounds_toArray, List.set_cons_succ, List.set_cons_zero])
  have HBX := Lib.hid (hB8.trans (hxg.mono hB8.size))
  clear hqq FF hxg
  go_wp2_with fail
  go_ret
  exact ⟨rfl, HBX.out⟩
end Go.Proofs.Ytohgkadbajmphaa
