/- The walk of sha.Sum. -/
import Derived.Test.YtohgkadbajmphaaShaTake
import Derived.Test.YtohgkadbajmphaaShaConst
import Derived.Test.YtohgkadbajmphaaShaP
import Derived.Test.YtohgkadbajmphaaReslice
namespace Go.Proofs.Ytohgkadbajmphaa
open Go.RowKit
set_option linter.unusedVariables false
/-- the byte that the program lays for the length -/
theorem ShaP.be8_cell (n k : Nat) (hk : k < 8) (y : UInt8) (hy : y = (ShaP.be8 (8 * n))[k]'(by simp [ShaP.be8]; exact hk)) : Value.int .u8 ((n : Int) * 8 / 2 ^ (56 - 8 * k) % 256) = b8 y := by
  subst hy
  unfold b8 ShaP.be8
  rw [List.getElem_map, List.getElem_range, UInt8.toNat_ofNat', show (n : Int) * 8 = ((8 * n : Nat) : Int) by omega, show (2 : Int) ^ (56 - 8 * k) = ((2 ^ (56 - 8 * k) : Nat) : Int) from (Int.natCast_pow 2 _).symm, show (256 : Int) = ((2 ^ 8 : Nat) : Int) from rfl, ← Int.natCast_ediv, ← Int.natCast_emod]
theorem ShaP.byteAt_cell (x : BitVec 32) (m : Nat) : Value.int .u8 (bv32 x / 2 ^ (24 - 8 * m) % 256) = b8 (ShaP.byteAt x m) := by
  unfold b8 ShaP.byteAt bv32
  rw [UInt8.toNat_ofNat', show (2 : Int) ^ (24 - 8 * m) = ((2 ^ (24 - 8 * m) : Nat) : Int) from (Int.natCast_pow 2 _).symm, show (256 : Int) = ((2 ^ 8 : Nat) : Int) from rfl, ← Int.natCast_ediv, ← Int.natCast_emod]
set_option maxRecDepth 100000 in
set_option maxHeartbeats 2000000 in
theorem sha_sum (A : Option Addr) (n c B : Nat) (b : List UInt8) (w : World) (h : Sl w B A n c b) (hB : B ≤ w.heap.size) (hm : n ≤ 70368744177664) :
    Calls Try.prog 19 #[.slice A n c] w fun e w' => e = .returned (.agg ((ShaP.digest b).map b8).toArray) ∧ Below w.heap.size w w' := by
  obtain ⟨hn, hnc, hcm, hr⟩ := id h
  subst hn
  unfold maxLen at hcm
  go_enter Try.func19, Try.ntmps19
  have hR0 := dz_made w
  have HR0 := Lib.hid hR0
  clear hR0
  go_wp2_with (refine wpList_value (o := ⟨some 2, _, _, _, _, _⟩) (v := .pointer (some ⟨w.heap.size, 0, none⟩)) (w' := w.alloc (.cells dzeros 23)) rfl (by kernel_rfl) ?_)
  refine (sha_constants _).mono ?_
  rintro e w1 ⟨rfl, hB1⟩
  have hB1' : w.heap.size < w1.heap.size := by have := hB1.size; simp at this; omega
  have hBw1 : Below w.heap.size w w1 := ((Below.refl _ _).alloc (Nat.le_refl _) _).trans (hB1.mono (by simp))
  have HR1 := Lib.hid (HR0.out.below hB1 (by simp))
  clear HR0
  go_wp2_with (first
    | (refine wpList_value (o := ⟨some 3, _, _, _, _, _⟩) (v := .pointer (some ⟨w1.heap.size, 0, none⟩)) (w' := w1.alloc (.cells kzeros 86)) rfl (by kernel_rfl) ?_)
    | (refine wpList_store_mid rfl 86 (.tmp 3) (.tmp 12) rfl w1.heap.size 0 kvals rfl rfl (kz_there w1) (by kernel_rfl) (by kernel_rfl) ?_))
  have hK := kz_stored w1
  have hB2 := kz_below w1
  have hz2 := kz_size w1
  have HR2 := Lib.hid (HR1.out.below hB2 HR1.out.lt)
  clear HR1
  obtain ⟨w2, hw2⟩ : ∃ w2, w2 = (w1.alloc (.cells kzeros 86)).setCells w1.heap.size 0 kvals.toList := ⟨_, rfl⟩
  have HR2' := Lib.hid (show ArrV w2 w.heap.size ((List.replicate 32 (0 : UInt8)).map b8) by rw [hw2]; exact HR2.out)
  clear HR2
  rw [← hw2] at hK hB2 hz2 ⊢
  clear hw2
  have HK := Lib.hid hK
  have HZ2 := Lib.hid hz2
  have hBw2 := hBw1.trans (hB2.mono hBw1.size)
  clear hK hz2 hB1
  refine (sha_first _).mono ?_
  rintro e w3 ⟨rfl, hB3⟩
  unfold hvals
  have hBw3 := hBw2.trans (hB3.mono hBw2.size)
  have hK3 := HK.out.grew hB3
  go_wp2_with fail
  have hS4 : ArrV (w3.alloc (.cells #[.int .u32 1779033703, .int .u32 3144134277, .int .u32 1013904242, .int .u32 2773480762, .int .u32 1359893119, .int .u32 2600822924, .int .u32 528734635, .int .u32 1541459225] 89)) w3.heap.size (u32s ShaP.first.list) := ArrV.made w3 _ _
  have hK4 := hK3.alloc (.cells #[.int .u32 1779033703, .int .u32 3144134277, .int .u32 1013904242, .int .u32 2773480762, .int .u32 1359893119, .int .u32 2600822924, .int .u32 528734635, .int .u32 1541459225] 89)
  have hBw4 := hBw3.alloc hBw3.size (.cells #[.int .u32 1779033703, .int .u32 3144134277, .int .u32 1013904242, .int .u32 2773480762, .int .u32 1359893119, .int .u32 2600822924, .int .u32 528734635, .int .u32 1541459225] 89)
  obtain ⟨w4, hw4⟩ : ∃ w4, w4 = w3.alloc (.cells #[.int .u32 1779033703, .int .u32 3144134277, .int .u32 1013904242, .int .u32 2773480762, .int .u32 1359893119, .int .u32 2600822924, .int .u32 528734635, .int .u32 1541459225] 89) := ⟨_, rfl⟩
  have hsz4 : w4.heap.size = w3.heap.size + 1 := by rw [hw4]; simp
  have HR4 := Lib.hid (show ArrV w4 w.heap.size ((List.replicate 32 (0 : UInt8)).map b8) by rw [hw4]; exact (HR2'.out.grew hB3).alloc _)
  clear HR2'
  rw [← hw4] at hS4 hK4 hBw4 ⊢
  obtain ⟨gk, hgk⟩ : ∃ gk, gk = w1.heap.size := ⟨_, rfl⟩
  obtain ⟨gs, hgs⟩ : ∃ gs, gs = w3.heap.size := ⟨_, rfl⟩
  have hgkw : w.heap.size < gk := by have := hB1'; omega
  have hgks : gk < gs := by have := HK.out.lt; have := hB3.size; omega
  have hgsw : gs < w4.heap.size := by omega
  rw [← hgk] at hK4
  rw [← hgs] at hS4
  rw [← hgk, ← hgs]
  have HK4 := Lib.hid hK4
  have HS4 := Lib.hid hS4
  clear hw4 hsz4 hgk hgs hK4 hS4 hK3 hB3 hB2 HK HZ2
  go_loopw [6] (fun i wr => ∃ j : Nat, j ≤ b.length / 64 ∧ i = .int .i64 (64 * (j : Int)) ∧ ArrV wr gs (u32s (ShaP.run ShaP.first j b).list) ∧ w4.grownBy wr (some gs)) (fun i _ => b.length - (intOf i).toNat)
  case atStart => exact ⟨0, Nat.zero_le _, rfl, HS4.out, ⟨rfl, rfl, rfl, Nat.le_refl _, fun _ _ _ => rfl⟩⟩
  case round =>
    obtain ⟨j, hj, rfl, hS, hgr⟩ := hrel
    have hBr : Below w.heap.size w wr := hBw4.trans (below_grown hgr hBw4.size (fun g e => by injection e with e; omega))
    have hKr := HK4.out.other hgr (by intro e; injection e with e; omega)
    have HRr := Lib.hid (HR4.out.other hgr (by intro e; injection e with e; omega))
    by_cases hlt : j < b.length / 64
    · have h64 : 64 * j + 64 ≤ b.length := by omega
      obtain ⟨ad, hA, hab, _⟩ := hr.at_ 0 (by simp; omega)
      subst hA
      have hSl := (h.below (hBr.mono hB)).mid (64 * j) (64 * j + 64) (by omega) h64
      have e64 : 64 * j + 64 - 64 * j = 64 := by omega
      rw [e64] at hSl
      have HSL := Lib.hid (show Sl wr B (some (ad.add (64 * j))) 64 (c - 64 * j) (ShaP.blk64 b j) from hSl)
      have hT := Lib.hid (sha_take gs gk (some (ad.add (64 * j))) (c - 64 * j) B (ShaP.blk64 b j) (ShaP.run ShaP.first j b) wr hS hKr (by omega) HSL.out (Nat.le_trans hB hBr.size) (by intro ad' e; injection e with e; subst e; rw [add_block]; omega))
      have hI1 : 64 * (j : Int) + 64 ≤ (b.length : Int) := by omega
      have hI2 : ¬ c = 64 * j := by omega
      have hI3 : 64 * (j : Int) < (b.length : Int) / 64 * 64 := by omega
      clear hSl hS hKr e64
      go_wp2_with fail
      refine hT.out.mono ?_
      rintro e w5 ⟨rfl, hS5, hg5⟩
      go_wp2_with fail
      go_roundw
      case rel => exact ⟨j + 1, by omega, by go_num, by rw [ShaP.run_succ]; exact hS5, ⟨hg5.os.trans hgr.os, hg5.tape.trans hgr.tape, hg5.output.trans hgr.output, Nat.le_trans hgr.size hg5.size, fun i hi hne => (hg5.block i (Nat.lt_of_lt_of_le hi hgr.size) hne).trans (hgr.block i hi hne)⟩⟩
      case measure => simp [intOf]; omega
    · obtain ⟨wm, rfl⟩ : ∃ wm : World, wm = wr := ⟨_, rfl⟩
      obtain rfl : j = b.length / 64 := by omega
      have hI3 : ¬ 64 * ((b.length / 64 : Nat) : Int) < (b.length : Int) / 64 * 64 := by omega
      have hT : Hid (64 * (b.length / 64) = b.length / 64 * 64) := Lib.hid (by omega)
      have hrun := fun W => run_from A b.length c (b.length / 64 * 64) (by omega) hnc (by unfold maxLen; omega) ((b.length : Int) / 64 * 64) (by omega) W
      have hS6 := (h.below (hBr.mono hB)).from_ (b.length / 64 * 64) (by omega)
      obtain ⟨A6, hA6⟩ : ∃ A6, A6 = cutA A (b.length / 64 * 64) c := ⟨_, rfl⟩
      rw [← hA6] at hrun hS6
      clear hA6
      go_wp2_with fail
      refine (clone8 A6 _ _ (b.drop (b.length / 64 * 64)) B wm hS6.1 hS6.2.2.2 (Nat.le_trans hB hBr.size) (by omega)).mono ?_
      rintro e w6 ⟨A7, n7, c7, rfl, hO7, hB7⟩
      have hm7 : b.length - b.length / 64 * 64 ≤ 63 := by omega
      have hn7 : n7 = b.length - b.length / 64 * 64 := by have := hO7.len; simp at this; omega
      have hn7' : n7 ≤ 63 := by omega
      have hl7 := Lib.hid hn7
      have hBn : Below wm.heap.size wm (w6.alloc (.cells #[.int .u8 128] 5)) := hB7.alloc hB7.size _
      clear hrun hS6 hI3 hn7
      go_wp2_with (at_builtin; refine wpList_app8 rfl (.tmp 32) (.tmp 33) 31 rfl (.inl ⟨_, Try.underlying31⟩) wm.heap.size _ _ _ _ rfl (hO7.alloc _) 1 [128] (Src.slice rfl (Row.new _ _ _ _ (w6.heap.size + 1) _ rfl (by omega) _ rfl)) (.inl (by omega)) hBn.size ?_; intro A8 cap8 w8 hO8 hg8 hB8 hb8)
      have hBz8 : Below wm.heap.size wm w8 := hBn.trans hB8
      have hS8 := Lib.hid (hS.below hBz8 hS.lt)
      clear hO7 hB7 hBn hg8 hB8 hb8
      go_loopw [7] (fun f wy => ∃ (z : Nat) (A n c : _), z ≤ ShaP.zeros b.length ∧ f = .slice A n c ∧ OwnB wy wm.heap.size A n c (b.drop (b.length / 64 * 64) ++ 128 :: List.replicate z 0) ∧ Below wm.heap.size wm wy) (fun f _ => 200 - (match f with | .slice _ n _ => n | _ => 0))
      case atStart => exact ⟨0, A8, _, cap8, Nat.zero_le _, rfl, hO8, hBz8⟩
      case round =>
        obtain ⟨wo, rfl⟩ : ∃ wo : World, wo = wr := ⟨_, rfl⟩
        obtain ⟨z, A9, n9, c9, hz, rfl, hO9, hB9⟩ := hrel
        have hl9 : n9 = n7 + 1 + z := by have := hO9.len; have := hl7.out; simp at *; omega
        have hl9' := Lib.hid hl9
        have hn9 : n9 ≤ 127 := by unfold ShaP.zeros at hz; omega
        by_cases hne : n9 % 64 = 56
        · have hz' : z = ShaP.zeros b.length := by have := hl7.out; unfold ShaP.zeros at hz ⊢; omega
          subst hz'
          have hI : (n9 : Int) % 64 = 56 := by omega
          clear hl9
          go_wp2_with fail
          clear hI
          go_loopw [7, 42] (fun f i wy => ∃ (k : Nat) (A n c : _), k ≤ 8 ∧ i = .int .i64 (k : Int) ∧ f = .slice A n c ∧ OwnB wy wm.heap.size A n c (b.drop (b.length / 64 * 64) ++ 128 :: (List.replicate (ShaP.zeros b.length) 0 ++ (ShaP.be8 (8 * b.length)).take k)) ∧ Below wm.heap.size wm wy) (fun _ i _ => 8 - (intOf i).toNat)
          case atStart => exact ⟨0, A9, _, c9, Nat.zero_le _, rfl, rfl, by simpa using hO9, hB9⟩
          case round =>
            obtain ⟨wp, rfl⟩ : ∃ wp : World, wp = wr := ⟨_, rfl⟩
            obtain ⟨k, A10, n10, c10, hk, rfl, rfl, hO10, hB10⟩ := hrel
            by_cases hk8 : k < 8
            · have hl10 : n10 ≤ 135 := by
                have h1 := hO10.len
                have h2 := hl9'.out
                have h3 := hl7.out
                have h4 : (List.take k (ShaP.be8 (8 * b.length))).length ≤ 8 := by simp [ShaP.be8]; omega
                simp only [List.length_append, List.length_drop, List.length_cons, List.length_replicate] at h1
                omega
              have hI : (k : Int) < 8 := by omega
              obtain ⟨y, hy⟩ : ∃ y : UInt8, y = (ShaP.be8 (8 * b.length))[k]'(by simp [ShaP.be8]; exact hk8) := ⟨_, rfl⟩
              have hyb : Value.int .u8 ((b.length : Int) * 8 / 2 ^ (56 - 8 * k) % 256) = b8 y := ShaP.be8_cell b.length k hk8 y hy
              have hR : ∀ W : World, Row (W.alloc (.cells #[.int .u8 ((b.length : Int) * 8 / 2 ^ (56 - 8 * k) % 256)] 5)) (W.heap.size + 1) (some ⟨W.heap.size, 0, none⟩) ([y].map b8) := fun W => Row.new _ _ _ _ _ _ rfl (by omega) _ (by rw [hyb]; rfl)
              have HY := Lib.hid hyb
              have HHY := Lib.hid hy
              clear hyb hy
              have hBn : Below wm.heap.size wm (wp.alloc (.cells #[.int .u8 ((b.length : Int) * 8 / 2 ^ (56 - 8 * k) % 256)] 5)) := hB10.alloc hB10.size _
              go_wp2_with (at_builtin; refine wpList_app8 rfl (.tmp 45) (.tmp 55) 31 rfl (.inl ⟨_, Try.underlying31⟩) wm.heap.size _ _ _ _ rfl (hO10.alloc _) 1 [y] (Src.slice rfl (hR wp)) (.inl (by omega)) hBn.size ?_; intro A11 cap11 w11 hO11 hg11 hB11 hb11)
              go_roundw
              case rel => exact ⟨k + 1, A11, _, cap11, hk8, by go_num, rfl, by rw [List.take_succ_eq_append_getElem (by simp [ShaP.be8]; exact hk8), ← HHY.out]; simpa using hO11, hBn.trans hB11⟩
              case measure => simp [intOf]; omega
            · obtain rfl : k = 8 := by omega
              rw [show ((8 : Nat) : Int) = 8 from rfl]
              have htk : List.take 8 (ShaP.be8 (8 * b.length)) = ShaP.be8 (8 * b.length) := List.take_of_length_le (by simp [ShaP.be8])
              rw [htk] at hO10
              have hS10 := hS.below hB10 hS.lt
              have hK10 := hKr.below hB10 hKr.lt
              have hO10' : OwnB wp wm.heap.size A10 n10 c10 (b.drop (b.length / 64 * 64) ++ ShaP.pad b.length) := hO10
              have hgsm : gs < wm.heap.size := hS.lt
              obtain ⟨R, hR⟩ : ∃ R, R = b.drop (b.length / 64 * 64) ++ ShaP.pad b.length := ⟨_, rfl⟩
              obtain ⟨V0, hV0⟩ : ∃ V, V = ShaP.run ShaP.first (b.length / 64) b := ⟨_, rfl⟩
              have HD := Lib.hid (show ShaP.digest b = (ShaP.run V0 (R.length / 64) R).bytes by rw [ShaP.digest_parts, hR, hV0])
              have hRm : R.length % 64 = 0 ∧ R.length ≤ 136 := by
                have h1 := ShaP.pad_whole b.length
                have h2 : (ShaP.pad b.length).length ≤ 72 := by rw [ShaP.pad_len]; unfold ShaP.zeros; omega
                rw [hR, List.length_append, List.length_drop]
                omega
              rw [← hR] at hO10'
              rw [← hV0] at hS10
              obtain rfl : R.length = n10 := hO10'.len
              have HO := Lib.hid hO10'
              have HS10 := Lib.hid hS10
              have HK10 := Lib.hid hK10
              have HRm := Lib.hid hRm
              have HRp := Lib.hid (HRr.out.below hB10 HRr.out.lt)
              have hBp : Below w.heap.size w wp := hBr.trans (hB10.mono hBr.size)
              have hmw : w.heap.size ≤ wm.heap.size := hBr.size
              have hcc := hO10'.le
              have hc10 : R.length ≤ c10 := hcc.1
              have hc10m : c10 ≤ 9223372036854775807 := by have := hcc.2; unfold maxLen at this; omega
              have hR136 := hRm.2
              clear hO10 hO10' hS10 hK10 hRm hcc hR hV0 htk hO9 hB9 hz hl9' hne hS8 hBz8 hO8 hS hKr hB10 hl7
              go_wp2_with fail
              go_loopw [9] (fun i wy => ∃ j : Nat, j ≤ R.length / 64 ∧ i = .int .i64 (64 * (j : Int)) ∧ ArrV wy gs (u32s (ShaP.run V0 j R).list) ∧ wp.grownBy wy (some gs)) (fun i _ => R.length - (intOf i).toNat)
              case atStart => exact ⟨0, Nat.zero_le _, rfl, HS10.out, ⟨rfl, rfl, rfl, Nat.le_refl _, fun _ _ _ => rfl⟩⟩
              case round =>
                obtain ⟨wq, rfl⟩ : ∃ wq : World, wq = wr := ⟨_, rfl⟩
                obtain ⟨j, hj, rfl, hS, hgr⟩ := hrel
                have hKq := HK10.out.other hgr (by intro e; injection e with e; omega)
                have hOq := HO.out.other hgr (fun g e e2 => by have := (HO.out.lt g e).1; injection e2 with e2; omega)
                by_cases hlt : j < R.length / 64
                · have h64 : 64 * j + 64 ≤ R.length := by omega
                  have hSlq : Sl wq wq.heap.size A10 R.length c10 R := ⟨rfl, hOq.le.1, hOq.le.2, hOq.row⟩
                  obtain ⟨ad, hA, hab, _⟩ := hOq.row.at_ 0 (by simp; omega)
                  subst hA
                  have hSl := hSlq.mid (64 * j) (64 * j + 64) (by omega) h64
                  have e64 : 64 * j + 64 - 64 * j = 64 := by omega
                  rw [e64] at hSl
                  have HSL := Lib.hid (show Sl wq wq.heap.size (some (ad.add (64 * j))) 64 (c10 - 64 * j) (ShaP.blk64 R j) from hSl)
                  have had := (hOq.lt ad.block (by rfl)).1
                  have hT := Lib.hid (sha_take gs gk (some (ad.add (64 * j))) (c10 - 64 * j) wq.heap.size (ShaP.blk64 R j) (ShaP.run V0 j R) wq hS hKq (by omega) HSL.out (Nat.le_refl _) (by intro ad' e; injection e with e; subst e; rw [add_block]; omega))
                  have hI1 : 64 * (j : Int) + 64 ≤ (R.length : Int) := by omega
                  have hI2 : ¬ c10 = 64 * j := by omega
                  have hI3 : 64 * (j : Int) < (R.length : Int) := by omega
                  clear hSl hS hKq e64 hSlq hOq had
                  go_wp2_with fail
                  refine hT.out.mono ?_
                  rintro e w5 ⟨rfl, hS5, hg5⟩
                  go_wp2_with fail
                  go_roundw
                  case rel => exact ⟨j + 1, by omega, by go_num, by rw [ShaP.run_succ]; exact hS5, ⟨hg5.os.trans hgr.os, hg5.tape.trans hgr.tape, hg5.output.trans hgr.output, Nat.le_trans hgr.size hg5.size, fun i hi hne => (hg5.block i (Nat.lt_of_lt_of_le hi hgr.size) hne).trans (hgr.block i hi hne)⟩⟩
                  case measure => simp [intOf]; omega
                · obtain rfl : j = R.length / 64 := by omega
                  obtain ⟨V, hV⟩ : ∃ V, V = ShaP.run V0 (R.length / 64) R := ⟨_, rfl⟩
                  rw [← hV] at hS
                  have HV := Lib.hid (show ShaP.digest b = V.bytes by rw [HD.out, hV])
                  have hI3 : ¬ 64 * ((R.length / 64 : Nat) : Int) < (R.length : Int) := by have := HRm.out.1; omega
                  have hBq : Below w.heap.size w wq := hBp.trans (below_grown hgr hBp.size (fun g e => by injection e with e; omega))
                  have HRq := Lib.hid (HRp.out.other hgr (by intro e; injection e with e; omega))
                  have HS := Lib.hid (hS.alloc (.cells dzeros 23))
                  have hBz := hBq.alloc hBq.size (.cells dzeros 23)
                  have HRz := Lib.hid (HRq.out.alloc (.cells dzeros 23))
                  have HD0 := Lib.hid (dz_made wq)
                  have hgsq : gs < wq.heap.size := hS.lt
                  have hwq : w.heap.size < wq.heap.size := by omega
                  clear hS hV hKq hOq hgr HRq hBq hBp HD HK10 HS10 HO HRm HRp HRr hBr hBw4 HK4 HS4 HR4 hlt hj
                  go_wp2_with (refine wpList_value (o := ⟨some 10, _, _, _, _, _⟩) (v := .pointer (some ⟨wq.heap.size, 0, none⟩)) (w' := wq.alloc (.cells dzeros 23)) rfl (by kernel_rfl) ?_)
                  clear hI3
                  obtain ⟨wz, hwz⟩ : ∃ wz, wz = wq.alloc (.cells dzeros 23) := ⟨_, rfl⟩
                  obtain ⟨gd, hgd⟩ : ∃ gd, gd = wq.heap.size := ⟨_, rfl⟩
                  rw [← hwz] at HS HRz HD0 hBz ⊢
                  rw [← hgd] at HD0 hgsq hwq ⊢
                  clear hwz hgd
                  go_loopw [70] (fun i wy => ∃ k : Nat, k ≤ 32 ∧ i = .int .i64 (k : Int) ∧ ArrV wy gd ((ShaP.laid V k).map b8) ∧ wz.grownBy wy (some gd)) (fun i _ => 32 - (intOf i).toNat)
                  case atStart => exact ⟨0, Nat.zero_le _, rfl, HD0.out, ⟨rfl, rfl, rfl, Nat.le_refl _, fun _ _ _ => rfl⟩⟩
                  case round =>
                    obtain ⟨wt, rfl⟩ : ∃ wt : World, wt = wr := ⟨_, rfl⟩
                    obtain ⟨k, hk, rfl, hA, hgr⟩ := hrel
                    by_cases hlt : k < 32
                    · have hSt := HS.out.other hgr (by intro e; injection e with e; omega)
                      have hk4 : k / 4 < 8 := by omega
                      obtain ⟨X, hX⟩ : ∃ X, X = V.list.getD (k / 4) 0 := ⟨_, rfl⟩
                      have hlen : V.list.length = 8 := rfl
                      have c1 : wt.cell? ⟨gs, k / 4, none⟩ = some (.int .u32 (bv32 X)) := by
                        rw [hSt.cell (i := k / 4) (by simp [hlen]; omega)]
                        subst hX
                        simp [List.getD_eq_getElem?_getD, hlen, hk4]
                      have q1 := hA.cell (i := k) (by rw [List.length_map, ShaP.laid_len V k (by omega)]; exact hlt)
                      have q2 := hA.frozen k
                      have hset := hA.set k (b8 (ShaP.byteAt X (k % 4)))
                      rw [← List.map_set, hX, ShaP.laid_set V k hlt, ← hX] at hset
                      have HSET := Lib.hid hset
                      have HX := Lib.hid hX
                      have HC := Lib.hid (ShaP.byteAt_cell X (k % 4))
                      clear hset hA hX hSt hlen
                      have hI1 : (k : Int) < 32 := by omega
                      go_wp2_with fail
                      go_roundw
                      case rel => exact ⟨k + 1, by omega, by go_num, by rw [HC.out]; exact HSET.out, ⟨hgr.os, hgr.tape, hgr.output, by have := hgr.size; simpa [World.setCell] using this, fun i hi hne => (Below.heap_setCell wt ⟨gd, k, none⟩ _ i (fun e => hne (by rw [e]))).trans (hgr.block i hi hne)⟩⟩
                      case measure => simp [intOf]; omega
                    · obtain rfl : k = 32 := by omega
                      rw [ShaP.laid_all, ← HV.out] at hA
                      have hRt := HRz.out.other hgr (by intro e; injection e with e; omega)
                      obtain ⟨D, hD⟩ : ∃ D, D = ShaP.digest b := ⟨_, rfl⟩
                      have hDl : (D.map b8).length = 32 := by rw [hD, List.length_map]; exact ShaP.digest_len b
                      rw [← hD] at hA
                      have hBt : Below w.heap.size w wt := hBz.trans (below_grown hgr hBz.size (fun g e => by injection e with e; omega))
                      have hst := hRt.stored (vs := D.map b8) (by rw [hDl]; simp)
                      have hB9 : Below w.heap.size w (wt.setCells w.heap.size 0 (D.map b8)) := hBt.trans (below_grown (grown_setCells w.heap.size _ 0 _) hBt.size (fun g e => by injection e with e; omega))
                      obtain ⟨C, hC⟩ : ∃ C, C = D.map b8 := ⟨_, rfl⟩
                      rw [← hC] at hA hDl hst hB9
                      have HA := Lib.hid hA.range
                      have HT := Lib.hid (show wt.there w.heap.size 0 C.toArray.size by have := hRt.there; simp at this; simp [hDl]; exact this)
                      have HL := Lib.hid (show (Try.prog.info? 23).map (·.size) = some C.length by rw [hDl]; kernel_rfl)
                      have H1 := Lib.hid (show C.toArray.all (·.oneCell') = true by rw [hC]; exact all_oneCell_toArray (fun v hv => by obtain ⟨x, _, rfl⟩ := List.mem_map.1 hv; rfl))
                      have HR := Lib.hid hst.range
                      have HB9 := Lib.hid hB9
                      have HC := Lib.hid (show C = (ShaP.digest b).map b8 by rw [hC, hD])
                      have HLV := Lib.hid (run_loadVar_mid (P := Try.prog) _ w.heap.size 0 23 C _ HR.out Try.underlying23 rfl HL.out)
                      have hu := Try.underlying23
                      clear hA hDl hst hB9 hC hD hRt hBt hgr hR136 hn9 hn7' hm7 hu
                      go_wp2_with (first
                        | (refine wpList_load_mid rfl 23 (.tmp 10) rfl gd 0 rfl C _ HA.out Try.underlying23 rfl HL.out ?_)
                        | (refine wpList_store_mid rfl 23 (.tmp 2) (.tmp 86) rfl w.heap.size 0 C.toArray rfl rfl HT.out (by simpa using HL.out) H1.out ?_))
                      have hl := HLV.out
                      have hres : ∀ W, W = wt.setCells w.heap.size 0 C → (loadVar 23 ⟨w.heap.size, 0, none⟩).run Try.prog W = .ok (.agg C.toArray) W := fun W e => by rw [e]; exact hl
                      have hres2 := hres (wt.setCells w.heap.size 0 C.toArray.toList) (by simp)
                      clear hres hl
                      refine bodyPost_ret (v := .agg C.toArray) (by simp [results, Try.results19, Act.put, asAddr, hres2]) rfl ⟨by rw [HC.out], by simpa using HB9.out⟩
        · have hz' : z < ShaP.zeros b.length := by have := hl7.out; unfold ShaP.zeros at hz ⊢; omega
          have hI : ¬ (n9 : Int) % 64 = 56 := by omega
          clear hl9
          have hBn := hB9.alloc hB9.size (.cells #[.int .u8 0] 5)
          go_wp2_with (at_builtin; refine wpList_app8 rfl (.tmp 39) (.tmp 40) 31 rfl (.inl ⟨_, Try.underlying31⟩) wm.heap.size _ _ _ _ rfl (hO9.alloc _) 1 [0] (Src.slice rfl (Row.new _ _ _ _ (wo.heap.size + 1) _ rfl (by omega) _ rfl)) (.inl (by omega)) hBn.size ?_; intro A8 cap8 w8 hO8 hg8 hB8 hb8)
          go_roundw
          case rel => exact ⟨z + 1, A8, _, cap8, hz', rfl, by simpa [List.replicate_succ'] using hO8, hBn.trans hB8⟩
          case measure => simp; omega
end Go.Proofs.Ytohgkadbajmphaa
