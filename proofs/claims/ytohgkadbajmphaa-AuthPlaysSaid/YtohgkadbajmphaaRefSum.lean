/- The walk of the reference's Sum. -/
import Derived.Test.YtohgkadbajmphaaRefBlock
import Derived.Test.YtohgkadbajmphaaShaSum
namespace Go.Proofs.Ytohgkadbajmphaa
open Go.RowKit
set_option linter.unusedVariables false
theorem one_b8s (l : List UInt8) : ∀ u ∈ l.map b8, u.oneCell' = true := one_b8 l
theorem be8_cell2 (n k m : Nat) (hk : k + m = 7) (y : UInt8) (hy : y = (ShaP.be8 (8 * n))[k]'(by simp [ShaP.be8]; omega)) : Value.int .u8 ((n : Int) * 8 / 2 ^ (8 * m) % 256) = b8 y := by
  rw [← ShaP.be8_cell n k (by omega) y hy, show 56 - 8 * k = 8 * m by omega]
set_option maxRecDepth 100000 in
set_option maxHeartbeats 4000000 in
theorem ref_sum (A : Option Addr) (n c B : Nat) (b : List UInt8) (w : World) (h : Sl w B A n c b) (hB : B ≤ w.heap.size) (hm : n ≤ 70368744177664) :
    Calls Try.prog 22 #[.slice A n c] w fun e w' => e = .returned (.agg ((ShaP.digest b).map b8).toArray) ∧ Below w.heap.size w w' := by
  obtain ⟨hn, hnc, hcm, hr⟩ := id h
  subst hn
  unfold maxLen at hcm
  have HCon := Lib.hid (fun W => ref_consts W)
  go_enter Try.func22, Try.ntmps22
  have hR0 := dz_made w
  have HR0 := Lib.hid hR0
  clear hR0
  go_wp2_with (refine wpList_value (o := ⟨some 2, _, _, _, _, _⟩) (v := .pointer (some ⟨w.heap.size, 0, none⟩)) (w' := w.alloc (.cells dzeros 23)) rfl (by kernel_rfl) ?_)
  refine (HCon.out _).mono ?_
  rintro e w1 ⟨AH, ch, AK, ck, rfl, hH, hK, hB1⟩
  obtain ⟨gh, oh, he⟩ := hH.isSome (by omega)
  obtain ⟨gk, ok, hf⟩ := hK.isSome (by omega)
  subst he hf
  have hBw1 : Below w.heap.size w w1 := ((Below.refl _ _).alloc (Nat.le_refl _) _).trans (hB1.mono (by simp))
  have HR1 := Lib.hid (HR0.out.below hB1 (by simp))
  have hz1 : w.heap.size < w1.heap.size := HR1.out.lt
  have H1 := Lib.hid (hH.lower (Nat.zero_le _))
  have K1 := Lib.hid (hK.lower (Nat.zero_le _))
  have HB1 := Lib.hid hBw1
  have hl1 : b.length + 1 ≤ 70368744177665 := by omega
  clear HR0 hH hK hB1 hBw1 HCon
  go_wp2_with (first
    | (at_builtin; refine wpList_appn1 rfl (.tmp 15) (.tmp 16) 31 5 (.int .u8 0) 1 rfl Try.underlying31 info_u8 rfl (by omega) w1.heap.size _ _ _ _ rfl (Own.empty1 w1 w1.heap.size 5 (Nat.le_refl _)) b.length (b.map b8) (Src.slice (by simp) ((hr.below (HB1.out.mono hB)).alloc (by omega) _)) (one_b8s b) b.length (by omega) (b.map b8) rfl (by omega) (by simp) ?_; intro A2 c2 w2 hO2 hg2 hB2 hor2; have HB2 := Lib.hid (((Below.refl w1.heap.size w1).alloc (Nat.le_refl _) (.cells #[] 5)).trans hB2); clear hB2 hor2 hg2)
    | (at_builtin; refine wpList_appn1 rfl (.tmp 17) (.tmp 18) 31 5 (.int .u8 0) 1 rfl Try.underlying31 info_u8 rfl (by omega) w1.heap.size _ _ _ _ rfl (hO2.alloc _) 1 [b8 128] (Src.slice rfl (Row.new _ _ _ _ (w2.heap.size + 1) _ rfl (by omega) _ rfl)) (one_b8s [128]) (b.length + 1) rfl ((b ++ [128]).map b8) (by simp) (by omega) (by have := HB2.out.size; simp; omega) ?_; intro A3 c3 w3 hO3 hg3 hB3 hor3))
  have HB3 := Lib.hid (((HB2.out).alloc HB2.out.size (.cells #[.int .u8 128] 5)).trans hB3)
  have hOs : OwnB w3 w1.heap.size A3 (b.length + 1) c3 (b ++ [128]) := hO3
  clear hO2 hO3 hg3 hB3 hor3 HB2
  go_loopw [5] (fun f wy => ∃ (z : Nat) (A : Option Addr) (c : Nat), z ≤ ShaP.zeros b.length ∧ f = .slice A (b.length + 1 + z) c ∧ OwnB wy w1.heap.size A (b.length + 1 + z) c (b ++ 128 :: List.replicate z 0) ∧ Below w1.heap.size w1 wy) (fun f _ => b.length + 200 - (match f with | .slice _ n _ => n | _ => 0))
  case atStart => exact ⟨0, A3, c3, Nat.zero_le _, rfl, hOs, HB3.out⟩
  case round =>
    clear hOs HB3
    obtain ⟨z, A9, c9, hz, rfl, hO9, hB9⟩ := hrel
    have hz63 : z ≤ 63 := by unfold ShaP.zeros at hz; omega
    by_cases hne : (b.length + 1 + z) % 64 = 56
    · obtain rfl : z = ShaP.zeros b.length := by unfold ShaP.zeros at hz ⊢; omega
      have hI : ((b.length + 1 + ShaP.zeros b.length : Nat) : Int) % 64 = 56 := by omega
      obtain ⟨N, hN⟩ : ∃ N, N = b.length + 1 + ShaP.zeros b.length := ⟨_, rfl⟩
      rw [← hN] at hO9 hI ⊢
      have HN := Lib.hid hN
      have hNs : N ≤ 70368744177800 := by omega
      clear hN hne hz
      go_wp2_with fail
      clear hI
      go_loopw [5, 7] (fun f i wy => ∃ (k : Nat) (A : Option Addr) (c : Nat), k ≤ 8 ∧ i = .int .i64 (7 - (k : Int)) ∧ f = .slice A (N + k) c ∧ OwnB wy w1.heap.size A (N + k) c (b ++ 128 :: (List.replicate (ShaP.zeros b.length) 0 ++ (ShaP.be8 (8 * b.length)).take k)) ∧ Below w1.heap.size w1 wy) (fun _ i _ => (intOf i + 1).toNat)
      case atStart => exact ⟨0, A9, c9, Nat.zero_le _, rfl, rfl, by simpa using hO9, hB9⟩
      case round =>
        clear hO9 hB9
        obtain ⟨k, A10, c10, hk, rfl, rfl, hO10, hB10⟩ := hrel
        by_cases hk8 : k < 8
        · obtain ⟨m, hm7⟩ : ∃ m, k + m = 7 := ⟨7 - k, by omega⟩
          have e7 : (7 : Int) - (k : Int) = (m : Int) := by omega
          rw [e7]
          have hI0 : (0 : Int) ≤ (m : Int) := by omega
          have hI1 : (m : Int) ≤ 7 := by omega
          obtain ⟨y, hy⟩ : ∃ y : UInt8, y = (ShaP.be8 (8 * b.length))[k]'(by simp [ShaP.be8]; exact hk8) := ⟨_, rfl⟩
          have hyb : Value.int .u8 ((b.length : Int) * 8 / 2 ^ (8 * m) % 256) = b8 y := be8_cell2 b.length k m hm7 y hy
          have hR : ∀ W : World, Row (W.alloc (.cells #[.int .u8 ((b.length : Int) * 8 / 2 ^ (8 * m) % 256)] 5)) (W.heap.size + 1) (some ⟨W.heap.size, 0, none⟩) [b8 y] := fun W => Row.new _ _ _ _ _ _ rfl (by omega) _ (by rw [hyb])
          have HM := Lib.hid hm7
          have HHY := Lib.hid hy
          have hBn : Below w1.heap.size w1 (wr.alloc (.cells #[.int .u8 ((b.length : Int) * 8 / 2 ^ (8 * m) % 256)] 5)) := hB10.alloc hB10.size _
          clear hyb hy e7 hm7
          go_wp2_with (at_builtin; refine wpList_appn1 rfl (.tmp 35) (.tmp 42) 31 5 (.int .u8 0) 1 rfl Try.underlying31 info_u8 rfl (by omega) w1.heap.size _ _ _ _ rfl (hO10.alloc _) 1 [b8 y] (Src.slice rfl (hR wr)) (one_b8s [y]) (N + (k + 1)) (by omega) _ rfl (by omega) hBn.size ?_; intro A11 cap11 w11 hO11 hg11 hB11 hb11)
          go_roundw
          case rel => exact ⟨k + 1, A11, cap11, hk8, by congr 1; have := HM.out; omega, rfl, by rw [List.take_succ_eq_append_getElem (by simp [ShaP.be8]; exact hk8), ← HHY.out]; unfold OwnB; simpa using hO11, hBn.trans hB11⟩
          case measure => simp [intOf]
        · obtain rfl : k = 8 := by omega
          rw [show (7 : Int) - ((8 : Nat) : Int) = -1 from rfl]
          rw [List.take_of_length_le (show (ShaP.be8 (8 * b.length)).length ≤ 8 by simp [ShaP.be8])] at hO10
          have hO10' : OwnB wr w1.heap.size A10 (N + 8) c10 (b ++ ShaP.pad b.length) := hO10
          obtain ⟨wm, rfl⟩ : ∃ wm : World, wm = wr := ⟨_, rfl⟩
          obtain ⟨R, hR⟩ : ∃ R, R = b ++ ShaP.pad b.length := ⟨_, rfl⟩
          have hRl : R.length = b.length + (ShaP.pad b.length).length := by rw [hR, List.length_append]
          have HD := Lib.hid (show ShaP.digest b = (ShaP.run ShaP.first (R.length / 64) R).bytes by unfold ShaP.digest; rw [hRl, hR])
          have HRm := Lib.hid (show R.length % 64 = 0 by rw [hRl]; exact ShaP.pad_whole b.length)
          rw [← hR] at hO10'
          have hRN : R.length = N + 8 := hO10'.len
          have hRs : R.length ≤ 70368744177808 := by omega
          rw [← hRN] at hO10' ⊢
          have HO := Lib.hid hO10'
          have hcc := hO10'.le
          have hc10 : R.length ≤ c10 := hcc.1
          have hc10m : c10 ≤ 9223372036854775807 := by have := hcc.2; unfold maxLen at this; omega
          have H2 := Lib.hid (H1.out.below hB10 (fun g e => (H1.out.lt g e).2))
          have K2 := Lib.hid (K1.out.below hB10 (fun g e => (K1.out.lt g e).2))
          have HR2 := Lib.hid (HR1.out.below hB10 HR1.out.lt)
          have HBm := Lib.hid (HB1.out.trans (hB10.mono (by omega)))
          have hzm : w.heap.size < wm.heap.size := HR2.out.lt
          clear hO10 hO10' hcc hR hRl hRN HR1 hB10 hk HN hNs hz63 hl1
          go_wp2_with fail
          go_loopw [3, 8] (fun f i wy => ∃ (j g o c : Nat), j ≤ R.length / 64 ∧ i = .int .i64 (64 * (j : Int)) ∧ f = .slice (some ⟨g, o, none⟩) 8 c ∧ Own wy 0 74 1 (some ⟨g, o, none⟩) 8 c (u32s (ShaP.run ShaP.first j R).list) ∧ Below wm.heap.size wm wy) (fun _ i _ => R.length - (intOf i).toNat)
          case atStart => exact ⟨0, gh, oh, ch, Nat.zero_le _, rfl, rfl, H2.out, Below.refl _ _⟩
          case round =>
            obtain ⟨j, g, o, cc, hj, rfl, rfl, hS, hBq⟩ := hrel
            have hsq := hBq.size
            by_cases hlt : j < R.length / 64
            · have h64 : 64 * j + 64 ≤ R.length := by omega
              have hOq := HO.out.below_all hBq
              have hSlq : Sl wr wr.heap.size A10 R.length c10 R := ⟨rfl, hOq.le.1, hOq.le.2, hOq.row⟩
              obtain ⟨ad, hA, hab, _⟩ := hOq.row.at_ 0 (by simp; omega)
              subst hA
              have hSl := hSlq.mid (64 * j) (64 * j + 64) (by omega) h64
              have e64 : 64 * j + 64 - 64 * j = 64 := by omega
              rw [e64] at hSl
              have HSL := Lib.hid (show Sl wr wr.heap.size (some (ad.add (64 * j))) 64 (c10 - 64 * j) (ShaP.blk64 R j) from hSl)
              have hT := Lib.hid (ref_block g o cc 0 gk ok ck 0 (some (ad.add (64 * j))) (c10 - 64 * j) wr.heap.size (ShaP.blk64 R j) (ShaP.run ShaP.first j R) wr hS (K2.out.below_all hBq) HSL.out (Nat.le_refl _))
              have hI1 : 64 * (j : Int) + 64 ≤ (R.length : Int) := by omega
              have hI2 : ¬ c10 = 64 * j := by omega
              have hI3 : 64 * (j : Int) < (R.length : Int) := by omega
              clear hSl hS e64 hSlq hOq
              go_wp2_with fail
              refine hT.out.mono ?_
              rintro e w5 ⟨g5, c5, rfl, hS5, hg5⟩
              go_wp2_with fail
              go_roundw
              case rel => exact ⟨j + 1, g5, 0, c5, by omega, by go_num, rfl, by rw [ShaP.run_succ]; exact hS5.lower (Nat.zero_le _), hBq.trans (hg5.mono hsq)⟩
              case measure => simp [intOf]; omega
            · obtain rfl : j = R.length / 64 := by omega
              obtain ⟨wq, rfl⟩ : ∃ wq : World, wq = wr := ⟨_, rfl⟩
              obtain ⟨V, hV⟩ : ∃ V, V = ShaP.run ShaP.first (R.length / 64) R := ⟨_, rfl⟩
              rw [← hV] at hS
              have HV := Lib.hid (show ShaP.digest b = V.bytes by rw [HD.out, hV])
              have hI3 : ¬ 64 * ((R.length / 64 : Nat) : Int) < (R.length : Int) := by have := HRm.out; omega
              have hBq' : Below w.heap.size w wq := HBm.out.trans (hBq.mono (by omega))
              have HRq := Lib.hid (HR2.out.below hBq HR2.out.lt)
              have HS := Lib.hid (hS.alloc (.cells dzeros 23))
              have hBz := hBq'.alloc hBq'.size (.cells dzeros 23)
              have HRz := Lib.hid (HRq.out.alloc (.cells dzeros 23))
              have HD0 := Lib.hid (dz_made wq)
              have hgq : g < wq.heap.size := (hS.lt g rfl).2
              have hwq : w.heap.size < wq.heap.size := HRq.out.lt
              clear hS hV HRq hBq hBq' HD K2 H2 HO HRm HR2 HBm hlt hj
              go_wp2_with (refine wpList_value (o := ⟨some 9, _, _, _, _, _⟩) (v := .pointer (some ⟨wq.heap.size, 0, none⟩)) (w' := wq.alloc (.cells dzeros 23)) rfl (by kernel_rfl) ?_)
              clear hI3
              obtain ⟨wz, hwz⟩ : ∃ wz, wz = wq.alloc (.cells dzeros 23) := ⟨_, rfl⟩
              obtain ⟨gd, hgd⟩ : ∃ gd, gd = wq.heap.size := ⟨_, rfl⟩
              rw [← hwz] at HS HRz HD0 hBz ⊢
              rw [← hgd] at HD0 hgq hwq ⊢
              clear hwz hgd
              go_loopw [10] (fun i wy => ∃ k : Nat, k ≤ 32 ∧ i = .int .i64 (k : Int) ∧ ArrV wy gd ((ShaP.laid V k).map b8) ∧ wz.grownBy wy (some gd)) (fun i _ => 32 - (intOf i).toNat)
              case atStart => exact ⟨0, Nat.zero_le _, rfl, HD0.out, ⟨rfl, rfl, rfl, Nat.le_refl _, fun _ _ _ => rfl⟩⟩
              case round =>
                obtain ⟨wt, rfl⟩ : ∃ wt : World, wt = wr := ⟨_, rfl⟩
                obtain ⟨k, hk, rfl, hA, hgr⟩ := hrel
                by_cases hlt : k < 32
                · have hSt := HS.out.apart (w' := wt) (A := some ⟨gd, 0, none⟩) hgr (fun g1 e1 e2 => by simp [blk] at e1 e2; omega)
                  have hk4 : k / 4 < 8 := by omega
                  obtain ⟨X, hX⟩ : ∃ X, X = V.list.getD (k / 4) 0 := ⟨_, rfl⟩
                  have c1 : wt.cell? ⟨g, o + k / 4, none⟩ = some (.int .u32 (bv32 X)) := by
                    rw [hX]
                    exact hSt.cellAt (u32s_at V.list (k / 4) hk4)
                  have q1 := hA.cell (i := k) (by rw [List.length_map, ShaP.laid_len V k (by omega)]; exact hlt)
                  have q2 := hA.frozen k
                  have hset := hA.set k (b8 (ShaP.byteAt X (k % 4)))
                  rw [← List.map_set, hX, ShaP.laid_set V k hlt, ← hX] at hset
                  have HSET := Lib.hid hset
                  have HX := Lib.hid hX
                  have HC := Lib.hid (ShaP.byteAt_cell X (k % 4))
                  clear hset hA hX hSt
                  have hI1 : (k : Int) < 32 := by omega
                  go_wp2_with fail
                  go_roundw
                  case rel => exact ⟨k + 1, by omega, by go_num, by rw [HC.out]; exact HSET.out, ⟨hgr.os, hgr.tape, hgr.output, by have := hgr.size; simpa [World.setCell] using this, fun i hi hne => (Below.heap_setCell wt ⟨gd, k, none⟩ _ i (fun e => hne (by rw [e]))).trans (hgr.block i hi hne)⟩⟩
                  case measure => simp [intOf]; omega
                · obtain rfl : k = 32 := by omega
                  rw [ShaP.laid_all, ← HV.out] at hA
                  have hRt := HRz.out.other hgr (by intro e; injection e with e; omega)
                  obtain ⟨D, hD⟩ : ∃ D, D = ShaP.digest b := ⟨_, rfl⟩
                  have hDl : (D.map b8).length = 32 := by rw [hD, List.length_map]; exact ShaP.digest_len b
                  rw [← hD] at hA
                  have hBt : Below w.heap.size w wt := hBz.trans (below_grown hgr hBz.size (fun g e => by injection e with e; omega))
                  have hst := hRt.stored (vs := D.map b8) (by rw [hDl]; simp)
                  have hB9 : Below w.heap.size w (wt.setCells w.heap.size 0 (D.map b8)) := hBt.trans (below_grown (grown_setCells w.heap.size _ 0 _) hBt.size (fun g e => by injection e with e; omega))
                  obtain ⟨C, hC⟩ : ∃ C, C = D.map b8 := ⟨_, rfl⟩
                  rw [← hC] at hA hDl hst hB9
                  have HA := Lib.hid hA.range
                  have HT := Lib.hid (show wt.there w.heap.size 0 C.toArray.size by have := hRt.there; simp at this; simp [hDl]; exact this)
                  have HL := Lib.hid (show (Try.prog.info? 23).map (·.size) = some C.length by rw [hDl]; kernel_rfl)
                  have H1 := Lib.hid (show C.toArray.all (·.oneCell') = true by rw [hC]; exact all_oneCell_toArray (fun v hv => by obtain ⟨x, _, rfl⟩ := List.mem_map.1 hv; rfl))
                  have HR := Lib.hid hst.range
                  have HB9 := Lib.hid hB9
                  have HC := Lib.hid (show C = (ShaP.digest b).map b8 by rw [hC, hD])
                  have HLV := Lib.hid (run_loadVar_mid (P := Try.prog) _ w.heap.size 0 23 C _ HR.out Try.underlying23 rfl HL.out)
                  have hu := Try.underlying23
                  clear hA hDl hst hB9 hC hD hRt hBt hgr hu
                  go_wp2_with (first
                    | (refine wpList_load_mid rfl 23 (.tmp 9) rfl gd 0 rfl C _ HA.out Try.underlying23 rfl HL.out ?_)
                    | (refine wpList_store_mid rfl 23 (.tmp 2) (.tmp 76) rfl w.heap.size 0 C.toArray rfl rfl HT.out (by simpa using HL.out) H1.out ?_))
                  have hl := HLV.out
                  have hres : ∀ W, W = wt.setCells w.heap.size 0 C → (loadVar 23 ⟨w.heap.size, 0, none⟩).run Try.prog W = .ok (.agg C.toArray) W := fun W e => by rw [e]; exact hl
                  have hres2 := hres (wt.setCells w.heap.size 0 C.toArray.toList) (by simp)
                  clear hres hl
                  refine bodyPost_ret (v := .agg C.toArray) (by simp [results, Try.results22, Act.put, asAddr, hres2]) rfl ⟨by rw [HC.out], by simpa using HB9.out⟩
    · have hz' : z < ShaP.zeros b.length := by unfold ShaP.zeros at hz ⊢; omega
      have hI : ¬ ((b.length + 1 + z : Nat) : Int) % 64 = 56 := by omega
      obtain ⟨N, hN⟩ : ∃ N, N = b.length + 1 + z := ⟨_, rfl⟩
      have hNs : N ≤ 70368744177800 := by omega
      rw [← hN] at hO9 hI ⊢
      have HN := Lib.hid hN
      have hBn := hB9.alloc hB9.size (.cells #[.int .u8 0] 5)
      clear hN hne
      go_wp2_with (at_builtin; refine wpList_appn1 rfl (.tmp 24) (.tmp 25) 31 5 (.int .u8 0) 1 rfl Try.underlying31 info_u8 rfl (by omega) w1.heap.size _ _ _ _ rfl (hO9.alloc _) 1 [b8 0] (Src.slice rfl (Row.new _ _ _ _ (wr.heap.size + 1) _ rfl (by omega) _ rfl)) (one_b8s [0]) (N + 1) rfl _ rfl (by omega) hBn.size ?_; intro A8 cap8 w8 hO8 hg8 hB8 hb8)
      go_roundw
      case rel => exact ⟨z + 1, A8, cap8, hz', by rw [HN.out, Nat.add_assoc], by rw [← Nat.add_assoc, ← HN.out]; unfold OwnB; simpa [List.replicate_succ'] using hO8, hBn.trans hB8⟩
      case measure => simp; have := HN.out; omega
end Go.Proofs.Ytohgkadbajmphaa
