/- The walk of rolodexlaw9.MemPlays. -/
import Derived.Test.YtkkeodfoiffofaaMemPlaysLoop
import Derived.Test.YtkkeodfoiffofaaMemPlaysPlain2
import Derived.Test.YtkkeodfoiffofaaMemKnownWalk
import Derived.Test.YtkkeodfoiffofaaItemEq
import Derived.Test.YtkkeodfoiffofaaOpenI
import Derived.Test.YtkkeodfoiffofaaRefPut
import Derived.Test.YtkkeodfoiffofaaRefFrom
import Derived.Test.YtkkeodfoiffofaaRefMay
import Derived.Test.YtkkeodfoiffofaaRoundQuiet
import Derived.Test.YtkkeodfoiffofaaRangeB
namespace Go.Proofs.Ytkkeodfoiffofaa
open Go.RowKit
set_option linter.unusedVariables false
open MemP
attribute [local go_sem] Oper.semAt_some
set_option maxRecDepth 100000 in
set_option maxHeartbeats 2000000 in
theorem memPlays_walk (A0 : Option Addr) (n0 c0 : Nat) (l0 : List It) (s1 : ByteArray) (a2 a3 : Int) (w : World) (b0 : ItemsIn w A0 n0 c0 l0) (z0 : n0 * 48 ≤ 140737488351232) (z1 : s1.data.toList.length ≤ 140737488351232) (w2 : (Lit.int .u64 a2).wf = true) (w3 : (Lit.int .i64 a3).wf = true) :
    Calls Try.prog 4 #[.slice A0 n0 c0, .string s1, .int .u64 a2, .int .i64 a3] w fun e w' => e = .returned (.bool true) ∧ Below w.heap.size w w' := by
  have hl := b0.is.len
  have hm := b0.is.le
  have HI := Lib.hid b0.is
  have HQ := Lib.hid b0.seq
  obtain ⟨key, hkey⟩ : ∃ key : List UInt8, Value.string s1 = sv key := ⟨s1.data.toList, by simp [sv]⟩
  obtain ⟨q, hq⟩ : ∃ q : Nat, a2 = (q : Int) := ⟨a2.toNat, by have := wf_u64 w2; omega⟩
  subst hq
  rw [hkey]
  clear b0 hkey w2 z0 z1
  obtain ⟨wL, hwL⟩ : ∃ W, W = (w.alloc (.cells #[.int .i64 a3] 3)).alloc (.cells #[.bool false] 4) := ⟨_, rfl⟩
  have HGL := Lib.hid (show Grew w wL by rw [hwL]; exact (grew_new w _).trans (grew_new _ _))
  have HB7 := Lib.hid (show Boxed wL w.heap.size 3 (.int .i64 a3) by rw [hwL]; exact (Boxed.new w _ _).alloc _)
  have HB8 := Lib.hid (show Boxed wL (w.heap.size + 1) 4 (.bool false) by rw [hwL]; have := Boxed.new (w.alloc (.cells #[.int .i64 a3] 3)) 4 (.bool false); simpa using this)
  have HWL := Lib.hid hwL
  have HAw := Lib.hid (awake9 wL)
  clear hwL
  refine calls_marks Try.func4 rfl ?_
  simp only [Try.ntmps4, List.size_toArray, List.length_cons, List.length_nil, Nat.reduceAdd, Nat.reduceSub, Array.replicate_succ, Array.replicate_zero, List.push_toArray, List.append_toArray, List.nil_append, List.cons_append]
  go_upto_region 1 with fail
  rw [← HWL.out]
  obtain ⟨b7, hb7⟩ : ∃ b, b = w.heap.size := ⟨_, rfl⟩
  obtain ⟨b8, hb8⟩ : ∃ b, b = w.heap.size + 1 := ⟨_, rfl⟩
  rw [← hb7] at HB7
  rw [← hb8] at HB8
  rw [← hb8, ← hb7]
  have HBB := Lib.hid (And.intro hb7 hb8)
  clear hb7 hb8 HWL
  go_upto_region 3 with (go_at_call 13; ((with_reducible refine HAw.out.mono ?_); rintro e w1 ⟨rfl, hG⟩; have HG1 := Lib.hid (show Grew wL w1 from hG); clear hG))
  have HB71 := Lib.hid (hBx2 HB7.out HG1.out)
  have HB81 := Lib.hid (hBx2 HB8.out HG1.out)
  have HGw1 := Lib.hid (HGL.out.trans HG1.out)
  have HBl := Lib.hid (And.intro HB71.out.lt HB81.out.lt)
  clear HB7 HB8 HGL HG1 HAw
  by_cases hbig : 300 < n0
  · have i1 : (300 : Int) < (n0 : Int) := by omega
    have c8 := HB81.out.cell
    have f8 := HB81.out.frozen
    go_wp2_with fail
    have HBt := Lib.hid (HB81.out.set (.bool true))
    have HGt := Lib.hid (Below.setCell (p := ⟨b8, 0, none⟩) (show Below w.heap.size w w1 from HGw1.out) (by have := HBB.out.2; show w.heap.size ≤ b8; omega) (.bool true))
    refine postM_retC (v := .bool true) (D := w1.heap.size) (W := w1.setCell ⟨b8, 0, none⟩ (.bool true)) (Marks.nil _ _) (by simp) fun W' ha => ?_
    have hc := load_boxb (ha.boxed HBt.out).cell
    exact ⟨by simp [results, Try.results4, asAddr, hc], rfl, ha.kept HGt.out HGw1.out.size⟩
  have i1 : ¬ (300 : Int) < (n0 : Int) := by omega
  have HNa := Lib.hid (memL_new w1)
  go_upto_region 6 with (go_at_call 14; ((with_reducible refine HNa.out.mono ?_); rintro e w2 ⟨hd, rfl, hM, hG⟩; have HM2 := Lib.hid hM; have HG12 := Lib.hid hG; clear hM hG))
  obtain ⟨B, hB⟩ : ∃ b, b = w1.heap.size := ⟨_, rfl⟩
  rw [← hB] at HM2
  have HB := Lib.hid hB
  have HL2 := Lib.hid (show LoopP w1 w2 B hd [] [] none 0 0 none 0 0 from ⟨HM2.out, plays_nil, OwnI.nil _ _, OwnI.nil _ _, .inl rfl, by rw [HB.out]; exact HG12.out, by rw [HB.out]; exact HG12.out.size, by simp⟩)
  clear hB HNa HM2
  go_upto_block 0 with fail
  go_cut [10, 11, 12] from 31 (fun sw so sb wy => ∃ (la : List (It × Nat)) (O : List It) (A1 : Option Addr) (n1 c1 : Nat) (A2 : Option Addr) (n2 c2 : Nat), sw = .slice A1 n1 c1 ∧ so = .slice A2 n2 c2 ∧ sb = .int .i64 (costs (la.map (·.1)) : Int) ∧ LoopP w1 wy B hd la O A1 n1 c1 A2 n2 c2 ∧ la.length ≤ 300)
  case first =>
    go_wp2_with fail
    go_loopw [10, 11, 12, 13] (fun sw so sb i wy => ∃ (k : Nat) (la : List (It × Nat)) (O : List It) (A1 : Option Addr) (n1 c1 : Nat) (A2 : Option Addr) (n2 c2 C : Nat), k ≤ n0 ∧ i = .int .i64 (k : Int) ∧ sw = .slice A1 n1 c1 ∧ so = .slice A2 n2 c2 ∧ sb = .int .i64 (C : Int) ∧ C = costs (la.map (·.1)) ∧ LoopP w1 wy B hd la O A1 n1 c1 A2 n2 c2 ∧ la.length ≤ k) (fun _ _ _ i _ => n0 - (intOf i).toNat)
    case atStart => exact ⟨0, [], [], none, 0, 0, none, 0, 0, 0, Nat.zero_le _, rfl, rfl, rfl, rfl, rfl, HL2.out, Nat.zero_le _⟩
    case round =>
      obtain ⟨k, la, O, A1, n1, c1, A2, n2, c2, C, hk, rfl, rfl, rfl, rfl, hC, hL, hlk⟩ := hrel
      have HL := Lib.hid hL
      have HC := Lib.hid hC
      have hlk3 : la.length ≤ 300 := by omega
      have hCb : C ≤ 1500000 := by have := hL.plays.cost; omega
      have hn2 : n2 ≤ 300 := by have := hL.own2.len; have := hL.plays.len; omega
      have hn1 : n1 ≤ 300 := by have := hL.own1.len; simp at this; omega
      have HLK := Lib.hid hlk
      clear hL hlk hC
      have i0 : (0 : Int) ≤ (k : Int) := by omega
      by_cases hlt : k < n0
      · obtain ⟨x, hx⟩ : ∃ y, l0[k]? = some y := ⟨_, List.getElem?_eq_getElem (by omega)⟩
        have HXQ := Lib.hid (HQ.out x (List.mem_of_getElem? hx))
        obtain ⟨g1, o1, rfl, hb1, hr1⟩ := HI.out.at hx
        have HR : Hid (∀ W, Below B w1 W → W.cell? ⟨g1, o1 + k * 4, none⟩ = some (.string ⟨x.key.toArray⟩) ∧ W.cell? ⟨g1, o1 + k * 4 + 1, none⟩ = some (.int .u64 (x.seq : Int)) ∧ W.cell? ⟨g1, o1 + k * 4 + 2, none⟩ = some (.bool x.gone) ∧ W.cell? ⟨g1, o1 + k * 4 + 3, none⟩ = some (.string ⟨x.val.toArray⟩)) := Lib.hid fun W hW =>
          range_cells (range_below hr1 ((show Below w.heap.size w w1 from HGw1.out).trans (hW.mono (by rw [HB.out]; exact HGw1.out.size))) hb1)
        obtain ⟨q0, q1, q2, q3⟩ := HR.out wr HL.out.below
        have i5 : (k : Int) < (n0 : Int) := by omega
        clear hr1 hx hb1
        cases hm : ItP.may x with
        | false =>
          have HP := putL (v := .agg #[.string ⟨x.key.toArray⟩, .int .u64 (x.seq : Int), .bool x.gone, .string ⟨x.val.toArray⟩]) HL.out.mem HL.out.size (by omega) (by rw [← HC.out]; omega) (putR_bad hm) rfl
          have HY : Hid (∀ W, Calls Try.prog 17 #[.agg #[.string ⟨x.key.toArray⟩, .int .u64 (x.seq : Int), .bool x.gone, .string ⟨x.val.toArray⟩]] W fun e w' => e = .returned (.bool false) ∧ Grew W w') := Lib.hid fun W => by have := ref_may x W; rw [hm] at this; exact this
          clear hm
          go_wp2_with (first
            | (go_at_call 15; ((with_reducible refine HP.out.mono ?_); rintro e w4 ⟨rfl, hM, hK⟩; have HL4 := Lib.hid (HL.out.same hM hK); obtain ⟨r0, r1, r2, r3⟩ := HR.out w4 HL4.out.below; clear hM hK))
            | (go_at_call 17; ((with_reducible refine (HY.out _).mono ?_); rintro e w5 ⟨rfl, hG⟩; have HL5 := Lib.hid (HL4.out.grew hG); clear hG)))
          go_roundw
          case rel => exact ⟨k + 1, la, O, A1, n1, c1, A2, n2, c2, C, hlt, by go_num, rfl, rfl, rfl, HC.out, HL5.out, Nat.le_succ_of_le HLK.out⟩
          case measure => simp [intOf]; omega
        | true =>
          have HY : Hid (∀ W, Calls Try.prog 17 #[.agg #[.string ⟨x.key.toArray⟩, .int .u64 (x.seq : Int), .bool x.gone, .string ⟨x.val.toArray⟩]] W fun e w' => e = .returned (.bool true) ∧ Grew W w') := Lib.hid fun W => by have := ref_may x W; rw [hm] at this; exact this
          have HMY := Lib.hid hm
          clear hm
          cases hp : (ItP.put (la.map (·.1)) x).2 with
          | false =>
            have HP := putL (v := .agg #[.string ⟨x.key.toArray⟩, .int .u64 (x.seq : Int), .bool x.gone, .string ⟨x.val.toArray⟩]) HL.out.mem HL.out.size (by omega) (by rw [← HC.out]; omega) (putR_old HMY.out hp) rfl
            have HRp : Hid (∀ W, Is W W.heap.size A1 n1 c1 (la.map (·.1)) → Calls Try.prog 18 #[.slice A1 n1 c1, .agg #[.string ⟨x.key.toArray⟩, .int .u64 (x.seq : Int), .bool x.gone, .string ⟨x.val.toArray⟩]] W fun e w' => ∃ A' n' c', e = .returned (.tuple #[.slice A' n' c', .bool false]) ∧ Grew W w') := Lib.hid fun W h => (ref_put A1 n1 c1 _ x W h (by omega)).mono fun e w' ⟨A', n', c', h1, _, _, h4⟩ => ⟨A', n', c', by rw [h1, hp], h4⟩
            clear hp
            go_wp2_with (first
              | (go_at_call 15; ((with_reducible refine HP.out.mono ?_); rintro e w4 ⟨rfl, hM, hK⟩; have HL4 := Lib.hid (HL.out.same hM hK); obtain ⟨r0, r1, r2, r3⟩ := HR.out w4 HL4.out.below; clear hM hK))
              | (go_at_call 17; ((with_reducible refine (HY.out _).mono ?_); rintro e w5 ⟨rfl, hG⟩; have HL5 := Lib.hid (HL4.out.grew hG); obtain ⟨t0, t1, t2, t3⟩ := HR.out w5 HL5.out.below; clear hG))
              | (go_at_call 18; ((with_reducible refine (HRp.out _ (HL5.out.own1.is (Nat.le_refl _))).mono ?_); rintro e w6 ⟨A', n', c', rfl, hG⟩; have HL6 := Lib.hid (HL5.out.grew hG); clear hG)))
            go_roundw
            case rel => exact ⟨k + 1, la, O, A1, n1, c1, A2, n2, c2, C, hlt, by go_num, rfl, rfl, rfl, HC.out, HL6.out, Nat.le_succ_of_le HLK.out⟩
            case measure => simp [intOf]; omega
          | true =>
            have HPU := Lib.hid hp
            have HP := putL (v := .agg #[.string ⟨x.key.toArray⟩, .int .u64 (x.seq : Int), .bool x.gone, .string ⟨x.val.toArray⟩]) HL.out.mem HL.out.size (by omega) (by rw [← HC.out]; omega) (show putR la x = (0, (putR la x).2) by rw [putR_new HMY.out hp]) rfl
            have HRp : Hid (∀ W, Is W W.heap.size A1 n1 c1 (la.map (·.1)) → Calls Try.prog 18 #[.slice A1 n1 c1, .agg #[.string ⟨x.key.toArray⟩, .int .u64 (x.seq : Int), .bool x.gone, .string ⟨x.val.toArray⟩]] W fun e w' => ∃ A' n' c', e = .returned (.tuple #[.slice A' n' c', .bool true]) ∧ OwnI w' W.heap.size A' n' c' (ItP.put (la.map (·.1)) x).1 ∧ Grew W w') := Lib.hid fun W h => (ref_put A1 n1 c1 _ x W h (by omega)).mono fun e w' ⟨A', n', c', h1, _, h3, h4⟩ => ⟨A', n', c', by rw [h1, hp], h3 hp, h4⟩
            have hkl := ba_size x.key
            have hvl := ba_size x.val
            have hxb : x.key.length ≤ 256 ∧ x.val.length ≤ 4096 := by
              have := HMY.out
              unfold ItP.may at this
              simp only [Bool.and_eq_true, decide_eq_true_eq] at this
              omega
            obtain ⟨hkb, hvb⟩ := hxb
            clear hp
            go_upto_region 24 with (first
              | (go_at_call 15; ((with_reducible refine HP.out.mono ?_); rintro e w4 ⟨rfl, hM, hK⟩; have HM4 := Lib.hid hM; have HK4 := Lib.hid hK; have HB4 := Lib.hid (HL.out.below.trans hK.below); obtain ⟨r0, r1, r2, r3⟩ := HR.out w4 HB4.out; have HO4 := Lib.hid (hK.ownI HL.out.own1); have HOb4 := Lib.hid (hK.ownI HL.out.own2); have hs4 := Nat.le_trans HL.out.size hK.below.size; clear hM hK))
              | (go_at_call 17; ((with_reducible refine (HY.out _).mono ?_); rintro e w5 ⟨rfl, hG⟩; have HG5 := Lib.hid hG; have HB5 := Lib.hid (HB4.out.trans (hG.mono hs4)); obtain ⟨t0, t1, t2, t3⟩ := HR.out w5 HB5.out; have HO5 := Lib.hid (HO4.out.below_all hG); have HOb5 := Lib.hid (HOb4.out.below_all hG); have hs5 := hG.size; clear hG))
              | (go_at_call 18; ((with_reducible refine (HRp.out _ (HO5.out.is (Nat.le_refl _))).mono ?_); rintro e w6 ⟨A1', n1', c1', rfl, hO, hG⟩; have HO6 := Lib.hid hO; have HG6 := Lib.hid (HG5.out.trans hG); have HB6 := Lib.hid (HB5.out.trans (hG.mono (Nat.le_trans hs4 hs5))); obtain ⟨u0, u1, u2, u3⟩ := HR.out w6 HB6.out; have HOb6 := Lib.hid (HOb5.out.below_all hG); have hs6 := hG.size; clear hG hO))
              | (at_builtin; refine wpList_appI rfl (.tmp 73) (.tmp 78) rfl B A2 n2 c2 _ rfl (HOb6.out.alloc _) (some ⟨w6.heap.size, 0, none⟩) 1 1 (w6.heap.size + 1) [x] rfl rfl (IRow.one w6 x _ _) (by omega) (by simp; omega) ?_; intro A2' c2' w8 hO8 hg8 hB8 hor8; have HL8 := Lib.hid (HL.out.next HMY.out HPU.out HXQ.out HM4.out HK4.out HG6.out HO6.out hs5 hO8 hg8 hB8 hor8); obtain ⟨v0, v1, v2, v3⟩ := HR.out w8 HL8.out.below; clear hO8 hg8 hB8 hor8))
            clear r0 r1 r2 r3 t0 t1 t2 t3 u0 u1 u2 u3 q0 q1 q2 q3
            have i6 : (0 : Int) ≤ (C : Int) := by omega
            have i7 : (C : Int) ≤ 1500000 := by omega
            go_quiet (fail)
            clear v0 v1 v2 v3
            go_wp2_with fail
            go_roundw
            case rel => exact ⟨k + 1, (putR la x).2, O ++ [x], A1', n1', c1', A2', _, c2', C + cost x, hlt, by go_num, rfl, rfl, by simp [cost]; omega, by rw [(plays_put HL.out.plays HL.out.mem.srt HMY.out HPU.out).2.2.2, HC.out], HL8.out.grew (Grew.drewN _ _), by rw [(plays_put HL.out.plays HL.out.mem.srt HMY.out HPU.out).2.2.1]; have := HLK.out; omega⟩
            case measure => simp [intOf]; omega
      · obtain rfl : k = n0 := by omega
        have i5 : ¬ (k : Int) < (k : Int) := by omega
        go_wp2_with fail
        go_meet
        case rel => exact ⟨la, O, A1, n1, c1, A2, n2, c2, rfl, rfl, by rw [HC.out], HL.out, hlk3⟩
  case rest =>
    obtain ⟨la, O, A1, n1, c1, A2, n2, c2, rfl, rfl, rfl, hL, hll⟩ := hcut
    have HL := Lib.hid hL
    obtain ⟨C, hC⟩ : ∃ C, C = costs (la.map (·.1)) := ⟨_, rfl⟩
    have hCb : C ≤ 1500000 := by rw [hC]; have := hL.plays.cost; omega
    have hn2 : n2 = la.length := by have := hL.own2.len; have := hL.plays.len; omega
    have hn1 : n1 = la.length := by have := hL.own1.len; simp at this; omega
    obtain ⟨N, hN⟩ : ∃ N, N = la.length := ⟨_, rfl⟩
    have HAl : Hid (Calls Try.prog 19 #[.pointer (some ⟨hd.b, 0, none⟩)] wc (GivesI wc (la.map (·.1)))) := Lib.hid (by have := allL hL.mem (by omega); rwa [all_eq hL.seqs] at this)
    have HSa : Hid (∀ (W : World) (A B : Option Addr) (n c m d : Nat), Is W W.heap.size A n c (la.map (·.1)) → Is W W.heap.size B m d (la.map (·.1)) → Calls Try.prog 20 #[.slice A n c, .slice B m d] W fun e w' => e = .returned (.bool true) ∧ Grew W w') := Lib.hid fun W A B n c m d h1 h2 => (ref_same A B n c m d _ _ W h1 h2).mono fun e w' h => ⟨by rw [h.1, decide_eq_true rfl], h.2⟩
    have HBy : Hid (∀ W, Grew wc W → Calls Try.prog 22 #[.pointer (some ⟨hd.b, 0, none⟩)] W fun e w' => e = .returned (.int .i64 (C : Int)) ∧ W = w') := Lib.hid fun W hW => by rw [hC]; exact bytesL (hL.mem.grew hW)
    have HLn : Hid (∀ W, Grew wc W → Calls Try.prog 21 #[.pointer (some ⟨hd.b, 0, none⟩)] W fun e w' => e = .returned (.int .i64 (N : Int)) ∧ W = w') := Lib.hid fun W hW => by rw [hN]; exact lenL (hL.mem.grew hW)
    rw [← hN] at hn1 hn2 hll
    rw [← hC]
    have HC := Lib.hid hC
    have HN := Lib.hid hN
    clear hL hC hN
    subst hn1 hn2
    go_upto_region 26 with (go_at_call 19; ((with_reducible refine HAl.out.mono ?_); rintro e w3 ⟨A3, n3, c3, rfl, hO, hG⟩; have HO3 := Lib.hid hO; have HG3 := Lib.hid hG; clear hO hG))
    have hn3 : n3 = n2 := by have := HO3.out.len; have := HN.out; simp at *; omega
    subst hn3
    go_upto_region 28 with (first
      | (go_at_call 20; ((with_reducible refine (HSa.out _ _ _ _ _ _ _ (HO3.out.is (Nat.le_refl _)) (((HL.out.grew HG3.out).own1).is (Nat.le_refl _))).mono ?_); rintro e w4 ⟨rfl, hG⟩; have HG4 := Lib.hid (HG3.out.trans hG); have HO4 := Lib.hid (HO3.out.below_all hG); clear hG))
      | (go_at_call 21; ((with_reducible refine (HLn.out _ HG4.out).mono ?_); rintro e w8 ⟨rfl, rfl⟩))
      | (go_at_call 22; ((with_reducible refine (HBy.out _ HG4.out).mono ?_); rintro e w8 ⟨rfl, rfl⟩)))
    clear HAl HSa HBy HLn
    go_upto_block 2 with fail
    go_cut [] from 115 (fun wy => LoopP w1 wy B hd la O A1 n3 c1 A2 n3 c2)
    case first =>
      go_wp2_with fail
      go_loopw [18] (fun i wy => ∃ (k : Nat) (xs : List Value), k ≤ n3 ∧ i = .int .i64 (k : Int) ∧ Own wy wc.heap.size 29 4 A3 n3 c3 xs ∧ Below wc.heap.size wc wy) (fun i _ => n3 - (intOf i).toNat)
      case atStart => exact ⟨0, _, Nat.zero_le _, rfl, HO4.out, HG4.out⟩
      case round =>
        obtain ⟨k, xs, hk, rfl, hO, hB⟩ := hrel
        have HO := Lib.hid hO
        have HBk := Lib.hid hB
        have i0 : (0 : Int) ≤ (k : Int) := by omega
        by_cases hlt : k < n3
        · have i5 : (k : Int) < (n3 : Int) := by omega
          rcases hO.2.2.2 with ⟨_, h0⟩ | ⟨g, off, cur, fr, rfl, hbg, hh, hsz, hfz, hcs⟩
          · have := hO.2.1; omega
          have hcap := hO.2.1
          have hxl := hO.1
          obtain ⟨v, hv⟩ : ∃ v, xs[k * 4]? = some v := ⟨_, List.getElem?_eq_getElem (by omega)⟩
          have qc : wr.cell? ⟨g, off + k * 4, none⟩ = some v := by rw [cell_blk hh]; exact hcs _ _ hv
          have qf : wr.frozen? ⟨g, off + k * 4, none⟩ = false := hfz (k * 4) (by omega)
          have HBG := Lib.hid hbg
          clear hO hB hh hsz hfz hcs hxl hcap hv hbg
          go_wp2_with fail
          go_roundw
          case rel => exact ⟨k + 1, _, hlt, by go_num, Own.set HO.out (by omega) _, HBk.out.setCell HBG.out _⟩
          case measure => simp [intOf]; omega
        · obtain rfl : k = n3 := by omega
          have i5 : ¬ (k : Int) < (k : Int) := by omega
          clear hO hB
          go_wp2_with fail
          go_meet
          case rel => exact HL.out.grew HBk.out
    case rest =>
    have HL5 := Lib.hid hcut
    clear hcut HL HG3 HO3 HG4 HO4
    obtain ⟨y, b, hgv⟩ := getV_form (ItP.get (la.map (·.1)) key q)
    have HGe : Hid (Calls Try.prog 23 #[.pointer (some ⟨hd.b, 0, none⟩), sv key, .int .u64 (q : Int)] wc fun e w' => e = .returned (.tuple #[.agg #[.string ⟨y.key.toArray⟩, .int .u64 (y.seq : Int), .bool y.gone, .string ⟨y.val.toArray⟩], .bool b]) ∧ Grew wc w') := Lib.hid (by have := getL HL5.out.mem key q; rwa [get_eq HL5.out.mem.srt, hgv] at this)
    have HRg : Hid (∀ W, Is W W.heap.size A1 n3 c1 (la.map (·.1)) → Calls Try.prog 24 #[.slice A1 n3 c1, sv key, .int .u64 (q : Int)] W fun e w' => e = .returned (.tuple #[.agg #[.string ⟨y.key.toArray⟩, .int .u64 (y.seq : Int), .bool y.gone, .string ⟨y.val.toArray⟩], .bool b]) ∧ Grew W w') := Lib.hid fun W h => (ref_get A1 n3 c1 _ key q W h).mono fun e w' h => ⟨by rw [h.1, hgv], h.2⟩
    have hny : ∀ W : World, (binOp .neq 29 (.agg #[.string ⟨y.key.toArray⟩, .int .u64 (y.seq : Int), .bool y.gone, .string ⟨y.val.toArray⟩]) (.agg #[.string ⟨y.key.toArray⟩, .int .u64 (y.seq : Int), .bool y.gone, .string ⟨y.val.toArray⟩])).run Try.prog W = .ok (.bool false) W := fun W => by have := neq_item y y W; simpa using this
    have HHt : Hid (∀ W, MemL W B hd la → Calls Try.prog 16 #[.pointer (some ⟨hd.b, 0, none⟩)] W fun e w' => ∃ A c, e = .returned (.slice A n3 c) ∧ Own w' W.heap.size 3 1 A n3 c (htsL la) ∧ Grew W w') := Lib.hid fun W h => by rw [HN.out]; exact heightsL h (by have := HN.out; omega)
    clear hgv
    go_upto_region 33 with (go_at_call 23; ((with_reducible refine HGe.out.mono ?_); rintro e w5 ⟨rfl, hG⟩; have HL6 := Lib.hid (HL5.out.grew hG); clear hG))
    obtain ⟨w6, hw6⟩ : ∃ W, W = w5.alloc (.cells #[.string ⟨y.key.toArray⟩, .int .u64 (y.seq : Int), .bool y.gone, .string ⟨y.val.toArray⟩] 29) := ⟨_, rfl⟩
    obtain ⟨b19, hb19⟩ : ∃ b, b = w5.heap.size := ⟨_, rfl⟩
    have HX19 := Lib.hid (show IBox w6 b19 y by rw [hw6, hb19]; exact IBox.new w5 y)
    have HL7 := Lib.hid (HL6.out.grew (show Grew w5 w6 by rw [hw6]; exact grew_new w5 _))
    rw [← hw6, ← hb19]
    clear hw6 hb19 HL6 HL5 HGe
    go_upto_region 34 with (go_at_call 24; ((with_reducible refine (HRg.out _ (HL7.out.own1.is (Nat.le_refl _))).mono ?_); rintro e w7 ⟨rfl, hG⟩; have HL8 := Lib.hid (HL7.out.grew hG); have HX19b := Lib.hid (HX19.out.grew hG); clear hG))
    obtain ⟨w8, hw8⟩ : ∃ W, W = w7.alloc (.cells #[.string ⟨y.key.toArray⟩, .int .u64 (y.seq : Int), .bool y.gone, .string ⟨y.val.toArray⟩] 29) := ⟨_, rfl⟩
    obtain ⟨b21, hb21⟩ : ∃ b, b = w7.heap.size := ⟨_, rfl⟩
    have HX21 := Lib.hid (show IBox w8 b21 y by rw [hw8, hb21]; exact IBox.new w7 y)
    have HG78 := Lib.hid (show Grew w7 w8 by rw [hw8]; exact grew_new w7 _)
    have HL9 := Lib.hid (HL8.out.grew HG78.out)
    have HX19c := Lib.hid (HX19b.out.grew HG78.out)
    rw [← hw8, ← hb21]
    clear hw8 hb21 HL8 HL7 HRg HX19 HX19b HG78
    go_upto_region 35 with (go_at_call 16; ((with_reducible refine (HHt.out _ HL9.out.mem).mono ?_); rintro e w9 ⟨A4, c4, rfl, hO, hG⟩; have HO9 := Lib.hid hO; have HL10 := Lib.hid (HL9.out.grew hG); obtain ⟨x0, x1, x2, x3⟩ := range_cells (HX19c.out.grew hG).range; obtain ⟨y0, y1, y2, y3⟩ := range_cells (HX21.out.grew hG).range; clear hO hG))
    clear HHt HL9 HX19c HX21
    go_upto_region 37 with fail
    clear x0 x1 x2 x3 y0 y1 y2 y3 hny
    have HH5 : Hid (∀ (i : Nat), i ≤ 300 → ∀ W, Calls Try.prog 25 #[.int .i64 (i : Int)] W fun e w' => e = .returned (.int .i64 (hgt (i + 1) : Int)) ∧ w' = W) := Lib.hid fun i hi W => (law_height i W (by omega)).mono fun _ _ h => ⟨h.1, h.2.symm⟩
    go_upto_block 4 with fail
    go_cut [] from 156 (fun wy => Grew w9 wy)
    case first =>
      go_wp2_with fail
      go_loopw [24] (fun i wy => ∃ k : Nat, k ≤ n3 ∧ i = .int .i64 (k : Int) ∧ Grew w9 wy) (fun i _ => n3 - (intOf i).toNat)
      case atStart => exact ⟨0, Nat.zero_le _, rfl, Grew.refl _⟩
      case round =>
        obtain ⟨i, hi, rfl, hG⟩ := hrel
        have HGi := Lib.hid hG
        clear hG
        have i0 : (0 : Int) ≤ (i : Int) := by omega
        by_cases hlt : i < n3
        · obtain ⟨x, hx⟩ : ∃ y, O[i]? = some y := ⟨_, List.getElem?_eq_getElem (by have := HL10.out.own2.len; omega)⟩
          have HX := Lib.hid hx
          obtain ⟨g2, o2, e2, hb2, hr2⟩ := (HL10.out.own2.is (Nat.le_refl _)).at hx
          subst e2
          have HR2 : Hid (∀ W, Grew w9 W → W.cell? ⟨g2, o2 + i * 4, none⟩ = some (.string ⟨x.key.toArray⟩) ∧ W.cell? ⟨g2, o2 + i * 4 + 1, none⟩ = some (.int .u64 (x.seq : Int))) := Lib.hid fun W hW => by
            have := range_cells (range_below hr2 hW hb2)
            exact ⟨this.1, this.2.1⟩
          have i5 : (i : Int) < (n3 : Int) := by omega
          clear hr2 hx
          go_wp2_with fail
          go_loopw [25] (fun k wy => ∃ m : Nat, m ≤ n3 ∧ k = .int .i64 (m : Int) ∧ Grew w9 wy) (fun k _ => n3 - (intOf k).toNat)
          case atStart => exact ⟨0, Nat.zero_le _, rfl, HGi.out⟩
          case round =>
            obtain ⟨k, hk, rfl, hG2⟩ := hrel
            have HG2 := Lib.hid hG2
            have i20 : (0 : Int) ≤ (k : Int) := by omega
            by_cases hlt2 : k < n3
            · obtain ⟨p, hp⟩ : ∃ p, la[k]? = some p := ⟨_, List.getElem?_eq_getElem (by have := HN.out; omega)⟩
              obtain ⟨g1, o1, e1, hb1, hr1⟩ := (HL10.out.own1.is (Nat.le_refl _)).at (x := p.1) (i := k) (by simp [hp])
              subst e1
              obtain ⟨q0, q1, _, _⟩ := range_cells (range_below hr1 hG2 hb1)
              obtain ⟨r0, r1⟩ := HR2.out _ hG2
              have HP := Lib.hid hp
              have i25 : (k : Int) < (n3 : Int) := by omega
              clear hG2 hr1 hp
              by_cases hkey : p.1.key = x.key
              · have e1 : (p.1.key == x.key) = true := by simpa using hkey
                by_cases hseq : p.1.seq = x.seq
                · have e2 : ((p.1.seq : Int) == (x.seq : Int)) = true := by simp [hseq]
                  have hh : p.2 = hgt (i + 1) := HL10.out.plays.hts p (List.mem_of_getElem? HP.out) i x HX.out hkey hseq
                  obtain ⟨g4, o4, e4, hc4⟩ := own_cell (HO9.out.below_all HG2.out) (by simp [htsL]; have := HN.out; omega)
                  subst e4
                  have q4 := hc4 k (.int .i64 (hgt (i + 1) : Int)) (by simp [htsL, HP.out, hh])
                  clear hc4 hh hkey hseq
                  go_upto_region 43 with fail
                  go_quiet ((go_at_call 25; exact Calls.quiet_of_same (HH5.out i (by omega) _)))
                  go_wp2_with fail
                  go_roundw
                  case rel => exact ⟨k + 1, hlt2, by go_num, Grew.trans HG2.out (Grew.drewN _ _)⟩
                  case measure => simp [intOf]; omega
                · have e2 : ((p.1.seq : Int) == (x.seq : Int)) = false := by simp; omega
                  clear hkey hseq
                  go_upto_region 43 with fail
                  go_quiet (fail)
                  go_wp2_with fail
                  go_roundw
                  case rel => exact ⟨k + 1, hlt2, by go_num, Grew.trans HG2.out (Grew.drewN _ _)⟩
                  case measure => simp [intOf]; omega
              · have e1 : (p.1.key == x.key) = false := by simpa using hkey
                clear hkey
                go_upto_region 43 with fail
                go_quiet (fail)
                go_wp2_with fail
                go_roundw
                case rel => exact ⟨k + 1, hlt2, by go_num, Grew.trans HG2.out (Grew.drewN _ _)⟩
                case measure => simp [intOf]; omega
            · obtain rfl : k = n3 := by omega
              have i25 : ¬ (k : Int) < (k : Int) := by omega
              clear hG2
              go_wp2_with fail
              go_roundw
              case rel => exact ⟨i + 1, hlt, by go_num, HG2.out⟩
              case measure => simp [intOf]; omega
        · obtain rfl : i = n3 := by omega
          have i5 : ¬ (i : Int) < (i : Int) := by omega
          go_wp2_with fail
          go_meet
          case rel => exact HGi.out
    case rest =>
    have HGc := Lib.hid hcut
    clear hcut
    have HLc := Lib.hid (HL10.out.grew HGc.out)
    obtain ⟨want, hwant⟩ : ∃ l, l = ItP.from_ (la.map (·.1)) key := ⟨_, rfl⟩
    have HRf : Hid (Calls Try.prog 26 #[.slice A1 n3 c1, sv key] wc fun e w' => ∃ A' n' c', e = .returned (.slice A' n' c') ∧ OwnI w' wc.heap.size A' n' c' want ∧ Grew wc w') := Lib.hid (by rw [hwant]; exact ref_from A1 n3 c1 _ key wc (HLc.out.own1.is (Nat.le_refl _)) (by omega))
    have HSq : Hid (∀ W, Grew wc W → Calls Try.prog 27 #[.pointer (some ⟨hd.b, 0, none⟩), sv key] W (SeqPostB W want)) := Lib.hid fun W hW => by
      have h := seqB (HLc.out.mem.grew hW) (by have := HN.out; omega) key
      rwa [from_eq HLc.out.mem.srt HLc.out.seqs, ← hwant] at h
    have HPz : Hid (∀ W, Grew wc W → Calls Try.prog 15 #[.pointer (some ⟨hd.b, 0, none⟩), .agg #[.string ⟨#[122, 122, 122, 122]⟩, .int .u64 1152921504606846976, .bool false, .string ⟨#[]⟩]] W fun e w' => e = .returned (.int .i64 (putR la ⟨[122, 122, 122, 122], 1152921504606846976, false, []⟩).1) ∧ MemL w' B hd (putR la ⟨[122, 122, 122, 122], 1152921504606846976, false, []⟩).2 ∧ Kept B W w') := Lib.hid fun W hW =>
      (putL (HLc.out.mem.grew hW) (Nat.le_trans HLc.out.size hW.size) (by have := HN.out; omega) (by rw [← HC.out]; omega) (x := ⟨[122, 122, 122, 122], 1152921504606846976, false, []⟩) rfl rfl).out
    have hwl : want.length ≤ 300 := by rw [hwant]; have := from_le (la.map (·.1)) key; simp at this; have := HN.out; omega
    clear hwant
    have hfn : ∀ (f : Nat) (A : Array Value) (W : World), (binOp .eql 45 (.func (.func f) #[] A) .nilFunc).run Try.prog W = .ok (.bool false) W := fun f A W => by kernel_rfl
    go_upto_region 46 with (go_at_call 26; ((with_reducible refine HRf.out.mono ?_); rintro e w10 ⟨A5, n5, c5, rfl, hO, hG⟩; have HO5 := Lib.hid hO; have HG10 := Lib.hid hG; clear hO hG))
    obtain ⟨w11, hw11⟩ : ∃ W, W = w10.alloc (.cells #[.slice A5 n5 c5] 32) := ⟨_, rfl⟩
    obtain ⟨b26, hb26⟩ : ∃ b, b = w10.heap.size := ⟨_, rfl⟩
    have HB26 := Lib.hid (show Boxed w11 b26 32 (.slice A5 n5 c5) by rw [hw11, hb26]; exact Boxed.new w10 _ _)
    have HG11 := Lib.hid (HG10.out.trans (show Grew w10 w11 by rw [hw11]; exact grew_new w10 _))
    have HO6 := Lib.hid (HO5.out.below_all (show Grew w10 w11 by rw [hw11]; exact grew_new w10 _))
    rw [← hw11, ← hb26]
    clear hw11 hb26 HRf
    go_upto_region 49 with (go_at_call 27; ((with_reducible refine (HSq.out _ HG11.out).mono ?_); rintro e w12 ⟨Bs, n6, c6, A6, rfl, hBs, hO, hle, hG⟩; have HBs := Lib.hid hBs; have HO7 := Lib.hid hO; have HG12' := Lib.hid hG; clear hBs hO hle hG))
    go_wp2_with (go_at_call 15; ((with_reducible refine (HPz.out _ (HG11.out.trans HG12'.out)).mono ?_); rintro e w13 ⟨rfl, _, hK⟩; have HK13 := Lib.hid hK; clear hK))
    have HGs := Lib.hid (show Grew w1 w13 by
      have h1 := HLc.out.below.trans (HG11.out.mono HLc.out.size)
      have s1 := Nat.le_trans HLc.out.size HG11.out.size
      have h2 := (h1.trans (HG12'.out.mono s1)).trans HK13.out.below
      rwa [HB.out] at h2)
    have HB713 := Lib.hid (hBx2 HB71.out HGs.out)
    have HB813 := Lib.hid (hBx2 HB81.out HGs.out)
    have HB26b := Lib.hid (HK13.out.boxed (hBx2 HB26.out HG12'.out) (by decide))
    have HOW := Lib.hid (HK13.out.ownI (HO6.out.below_all HG12'.out))
    have HGV : Hid (∀ W, Grew w13 W → (∀ g, keepsfrom1 Bs A6 want g → g < w13.heap.size) ∧ Gives Try.prog 48 #[.pointer (some ⟨Bs, 0, none⟩)] (fun x : It => #[iv x]) (keepsfrom1 Bs A6 want) want W) := Lib.hid fun W hW => by
      have hb := HK13.out.boxed HBs.out (t := 32) (by decide)
      have ho := HK13.out.ownI HO7.out
      exact ⟨(from1_gives Bs n6 c6 A6 want w13 hb.cell (ho.is (Nat.le_refl _))).1, (from1_gives Bs n6 c6 A6 want W (hBx2 hb hW).cell ((ho.below_all hW).is (Nat.le_refl _))).2⟩
    have hl5 : want.length = n5 := HO5.out.len
    have hn5c := HOW.out.le
    have HGw := Lib.hid (HGw1.out.trans HGs.out)
    clear HSq HPz hfn HO5 HG10 HB26 HG11 HO6 HBs HO7 HG12' HK13 HLc HGc HL10 HO9 HH5 HN HC HB71 HB81 HGw1 HGs HB hll hCb HBl HG12 HL2
    refine wp_loop_rounds 3 ?_
    rw [rounds_succ]
    obtain ⟨w14, hw14⟩ : ∃ W, W = w13.alloc (.cells #[.int .i64 0] 3) := ⟨_, rfl⟩
    obtain ⟨b28, hb28⟩ : ∃ b, b = w13.heap.size := ⟨_, rfl⟩
    have HB28 := Lib.hid (show Boxed w14 b28 3 (.int .i64 0) by rw [hw14, hb28]; exact Boxed.new w13 _ _)
    have HG14 := Lib.hid (show Grew w13 w14 by rw [hw14]; exact grew_new w13 _)
    rw [← hw14, ← hb28]
    have HE28 := Lib.hid hb28
    clear hw14 hb28
    have c28 := HB28.out.cell
    go_upto_block 10 with fail
    obtain ⟨wA0, hwA0⟩ : ∃ W, W = w14.alloc (.cells #[.int .i64 0] 3) := ⟨_, rfl⟩
    obtain ⟨b290, hb290⟩ : ∃ b, b = w14.heap.size := ⟨_, rfl⟩
    have HB290 := Lib.hid (show Boxed wA0 b290 3 (.int .i64 0) by rw [hwA0, hb290]; exact Boxed.new w14 _ _)
    have HBA0 := Lib.hid (show Boxed wA0 b28 3 (.int .i64 0) by rw [hwA0]; exact HB28.out.alloc _)
    have HGA0 := Lib.hid (show Grew w13 wA0 by rw [hwA0]; exact HG14.out.trans (grew_new w14 _))
    have HLT0 := Lib.hid (show w13.heap.size ≤ b28 ∧ b28 < b290 by rw [hb290]; exact ⟨(Nat.le_of_eq HE28.out.symm), HB28.out.lt⟩)
    rw [← hwA0, ← hb290]
    clear hwA0 hb290
    refine wp_rangeIb 10 217 30 (gf := 48) (lb := #[.pointer (some ⟨Bs, 0, none⟩)]) (K := keepsfrom1 Bs A6 want) (xs := want) rfl (enters_of Try.func48 (by kernel_rfl) rfl)
      (fun g hg => Nat.lt_of_lt_of_le ((HGV.out _ HGA0.out).1 g hg) HGA0.out.size) (HGV.out _ HGA0.out).2
      (fun pre W => Boxed W b28 3 (.int .i64 0) ∧ Boxed W b290 3 (.int .i64 (pre.length : Int)) ∧ Grew w13 W) (fun pre W => Boxed W b28 3 (.int .i64 0) ∧ Grew w13 W)
      (fun s W W' h _ ha => ⟨ha.boxed h.1, ha.boxed h.2.1, ha.kept h.2.2 HGA0.out.size⟩) (fun s W W' h _ ha => ⟨ha.boxed h.1, ha.kept h.2 HGA0.out.size⟩) ⟨HBA0.out, HB290.out, HGA0.out⟩ ?_ ?_ ?_
    · intro l x W K' hK
      gi_wp2
      exact hK
    · rintro l pre x b W ⟨h28, h29, hG⟩ hsz hIb hb hlen
      have HIB := Lib.hid hIb.range
      have c28 := h28.cell
      have c29 := h29.cell
      have f29 := h29.frozen
      have c26 := (hBx2 HB26b.out hG).cell
      have c7 := (hBx2 HB713.out hG).cell
      have c8 := (hBx2 HB813.out hG).cell
      have f8 := (hBx2 HB813.out hG).frozen
      obtain ⟨y, hy⟩ : ∃ y, want[pre.length]? = some y := ⟨_, List.getElem?_eq_getElem hlen⟩
      obtain ⟨g5, o5, e5, _, hr5⟩ := ((HOW.out.below_all hG).is (Nat.le_refl _)).at hy
      subst e5
      have HR5 := Lib.hid hr5
      have i0 : (0 : Int) ≤ (pre.length : Int) := by omega
      have i1 : (pre.length : Int) < (n5 : Int) := by omega
      have i2 : ¬ (n5 : Int) ≤ (pre.length : Int) := by omega
      have i3 : decide (n5 ≤ pre.length) = false := by simp; omega
      have HY := Lib.hid hy
      have H28 := Lib.hid h28
      have H29 := Lib.hid h29
      have HGr := Lib.hid hG
      have hp3 : pre.length + 1 ≤ 300 := by omega
      clear hr5 hy h28 h29 hG hIb hlen
      simp only [actI, List.setIfInBounds_toArray, List.set_cons_zero, List.set_cons_succ]
      by_cases hx : x = y
      · have hne := fun W => neq_item x y W
        rw [show (!decide (x = y)) = false by simp [hx]] at hne
        clear hx
        gi_wp2
        refine wpIn_region_quiet_round (by kernel_rfl) rfl (by kernel_rfl) ?_
        repeat (first | gi_big_quiet_step (fail) | (refine wpQuietIn_loadI (o := ⟨some 223, _, _, _, _, _⟩) (.tmp 30) rfl rfl HIB.out rfl ?_; (simp only [Act.put, List.setIfInBounds_toArray, List.set_cons_succ, List.set_cons_zero])) | (refine wpQuietIn_loadI (o := ⟨some 227, _, _, _, _, _⟩) (.tmp 226) rfl rfl HR5.out rfl ?_; (simp only [Act.put, List.setIfInBounds_toArray, List.set_cons_succ, List.set_cons_zero])) | (refine wpQuietIn_neqI (o := ⟨some 228, _, _, _, _, _⟩) (.tmp 223) (.tmp 227) rfl rfl rfl hne rfl ?_; (simp only [Act.put, List.setIfInBounds_toArray, List.set_cons_succ, List.set_cons_zero])))
        refine wpQuietIn_nil ?_
        intro _ hw'
        obtain ⟨nq, hw''⟩ := hw'
        subst hw''
        have HKO := Lib.hid (show KeepsOthers W (W.drewN nq) from KeepsOthers.grew (Grew.drewN _ _))
        have HKS : Hid (∀ v, KeepSet (keepsfrom1 Bs A6 want) W ((W.drewN nq).setCell ⟨b290, 0, none⟩ v)) := Lib.hid fun v => KeepSet.trans (KeepSet.below (Grew.drewN _ _) fun g hg => Nat.lt_of_lt_of_le ((HGV.out _ HGr.out).1 g hg) HGr.out.size) (KeepSet.setCell _ _ _ fun hk => by
          have h1 := (HGV.out _ (Grew.refl _)).1 _ hk
          have h2 := HLT0.out
          simp at h1
          omega)
        have HI : Hid (Boxed ((W.drewN nq).setCell ⟨b290, 0, none⟩ (.int .i64 ((pre.length : Int) + 1))) b28 3 (.int .i64 0) ∧ Boxed ((W.drewN nq).setCell ⟨b290, 0, none⟩ (.int .i64 ((pre.length : Int) + 1))) b290 3 (.int .i64 ((pre ++ [x]).length : Int)) ∧ Grew w13 ((W.drewN nq).setCell ⟨b290, 0, none⟩ (.int .i64 ((pre.length : Int) + 1)))) := Lib.hid
          ⟨(Below.heap_setCell _ _ _ _ (by have := HLT0.out; simp; omega)).trans H28.out, by have h := Boxed.set (W := W.drewN nq) (.int .i64 ((pre.length : Int) + 1)) H29.out; rw [List.length_append, List.length_singleton, Int.natCast_add]; exact h, (HGr.out.trans (Grew.drewN _ _)).setCell (by have := HLT0.out; simp; omega) _⟩
        have c28' := HI.out.1.cell
        have c29' : ((W.drewN nq).setCell ⟨b290, 0, none⟩ (.int .i64 ((pre.length : Int) + 1))).cell? ⟨b290, 0, none⟩ = some (.int .i64 ((pre.length : Int) + 1)) := by have := HI.out.2.1.cell; simpa using this
        have c7' := (hBx2 HB713.out HI.out.2.2).cell
        by_cases hlv : a3 = (pre.length : Int) + 1
        · have hlb : ((pre.length : Int) + 1 == a3) = true := by simp [hlv]
          have HLV := Lib.hid hlv
          clear hlv
          gi_wp2
          exact ⟨HKO.out.trans (KeepsOthers.setCell _ _ _), .inl ⟨rfl, HI.out.1, HI.out.2.2⟩⟩
        · have hlb : ((pre.length : Int) + 1 == a3) = false := by simp; omega
          clear hlv
          gi_wp2
          exact ⟨HKO.out.trans (KeepsOthers.setCell _ _ _), HKS.out _, HI.out⟩
      · have hne : (!decide (x = y)) = true := by simp [hx]
        have HX := Lib.hid hx
        clear hx
        gi_wp2
        refine wpIn_region_quiet_round (by kernel_rfl) rfl (by kernel_rfl) ?_
        repeat (first | gi_big_quiet_step (fail) | (refine wpQuietIn_loadI (o := ⟨some 223, _, _, _, _, _⟩) (.tmp 30) rfl rfl HIB.out rfl ?_; (simp only [Act.put, List.setIfInBounds_toArray, List.set_cons_succ, List.set_cons_zero])) | (refine wpQuietIn_loadI (o := ⟨some 227, _, _, _, _, _⟩) (.tmp 226) rfl rfl HR5.out rfl ?_; (simp only [Act.put, List.setIfInBounds_toArray, List.set_cons_succ, List.set_cons_zero])) | (refine wpQuietIn_neqI (o := ⟨some 228, _, _, _, _, _⟩) (.tmp 223) (.tmp 227) rfl rfl rfl hne rfl ?_; (simp only [Act.put, List.setIfInBounds_toArray, List.set_cons_succ, List.set_cons_zero])))
        refine wpQuietIn_nil ?_
        intro _ hw'
        obtain ⟨nq, hw''⟩ := hw'
        subst hw''
        have HKO := Lib.hid (show KeepsOthers W (W.drewN nq) from KeepsOthers.grew (Grew.drewN _ _))
        gi_wp2
        exact ⟨HKO.out.trans (KeepsOthers.setCell _ _ _), .inr fun hp => HX.out (by
          obtain ⟨r, hr⟩ := hp
          have h1 : want[pre.length]? = some x := by rw [← hr]; simp
          exact Option.some.inj (h1.symm.trans HY.out))⟩
    · rintro D0 W0 hD hsz hor hd'
      have HM0 := Lib.hid ((Marks.nil w13.heap.size W0).cons (Nat.le_trans HGA0.out.size hD) hd' (fun m h => by cases h))
      have h28 : Boxed W0 b28 3 (.int .i64 0) := by exact hor.elim (fun h => h.1) (fun ⟨_, _, h⟩ => h.1)
      have hG : Grew w13 W0 := by exact hor.elim (fun h => h.2.2) (fun ⟨_, _, h⟩ => h.2)
      have c28 := h28.cell
      have HGW0 := Lib.hid hG
      have HD00 := Lib.hid hd'
      have HDL := Lib.hid (Nat.le_trans HGA0.out.size hD)
      have hD0lt : D0 < W0.heap.size := (Array.getElem?_eq_some_iff.1 hd').1
      clear hor hd'
      go_wp2_with fail
      rw [rounds_succ]
      obtain ⟨w16, hw16⟩ : ∃ W, W = W0.alloc (.cells #[.int .i64 1] 3) := ⟨_, rfl⟩
      obtain ⟨b281, hb281⟩ : ∃ b, b = W0.heap.size := ⟨_, rfl⟩
      have HB281 := Lib.hid (show Boxed w16 b281 3 (.int .i64 1) by rw [hw16, hb281]; exact Boxed.new W0 _ _)
      have HG16 := Lib.hid (show Grew w13 w16 by rw [hw16]; exact HGW0.out.trans (grew_new W0 _))
      have HD16 := Lib.hid (show w16.heap[D0]? = some (.deferred (some [])) by rw [hw16]; exact (Below.heap_alloc W0 _ D0 hD0lt).trans HD00.out)
      rw [← hw16, ← hb281]
      have HE281 := Lib.hid hb281
      have HL281 := Lib.hid (show w13.heap.size ≤ b281 by rw [hb281]; exact hG.size)
      have HD0 := Lib.hid (show D0 < w16.heap.size by rw [hw16]; simp; omega)
      clear hw16 hb281 hG hsz hD hD0lt
      have c281 := HB281.out.cell
      go_upto_block 10 with fail
      obtain ⟨wA1, hwA1⟩ : ∃ W, W = w16.alloc (.cells #[.int .i64 0] 3) := ⟨_, rfl⟩
      obtain ⟨b291, hb291⟩ : ∃ b, b = w16.heap.size := ⟨_, rfl⟩
      have HB291 := Lib.hid (show Boxed wA1 b291 3 (.int .i64 0) by rw [hwA1, hb291]; exact Boxed.new w16 _ _)
      have HBA1 := Lib.hid (show Boxed wA1 b281 3 (.int .i64 1) by rw [hwA1]; exact HB281.out.alloc _)
      have HGA1 := Lib.hid (show Grew w13 wA1 by rw [hwA1]; exact HG16.out.trans (grew_new w16 _))
      have HLT1 := Lib.hid (show w13.heap.size ≤ b281 ∧ b281 < b291 by rw [hb291]; exact ⟨HL281.out, HB281.out.lt⟩)
      have HDA := Lib.hid (show wA1.heap[D0]? = some (.deferred (some [])) by rw [hwA1]; exact (Below.heap_alloc w16 _ D0 HD0.out).trans HD16.out)
      have HDW := Lib.hid (show D0 < wA1.heap.size by rw [hwA1]; have := HD0.out; simp; omega)
      rw [← hwA1, ← hb291]
      clear hwA1 hb291
      refine wp_rangeIb 10 217 30 (gf := 48) (lb := #[.pointer (some ⟨Bs, 0, none⟩)]) (K := keepsfrom1 Bs A6 want) (xs := want) rfl (enters_of Try.func48 (by kernel_rfl) rfl)
        (fun g hg => Nat.lt_of_lt_of_le ((HGV.out _ HGA1.out).1 g hg) HGA1.out.size) (HGV.out _ HGA1.out).2
        (fun pre W => Boxed W b281 3 (.int .i64 1) ∧ Boxed W b291 3 (.int .i64 (pre.length : Int)) ∧ Grew w13 W ∧ W.heap[D0]? = some (.deferred (some []))) (fun pre W => False)
        (fun s W W' h _ ha => ⟨ha.boxed h.1, ha.boxed h.2.1, ha.kept h.2.2.1 HGA1.out.size, (ha.below.block D0 HDW.out).trans h.2.2.2⟩) (fun s W W' h _ ha => h) ⟨HBA1.out, HB291.out, HGA1.out, HDA.out⟩ ?_ ?_ ?_
      · intro l x W K' hK
        gi_wp2
        exact hK
      · rintro l pre x b W ⟨h28, h29, hG, hDD⟩ hsz hIb hb hlen
        have HIB := Lib.hid hIb.range
        have c28 := h28.cell
        have c29 := h29.cell
        have f29 := h29.frozen
        have c26 := (hBx2 HB26b.out hG).cell
        have c7 := (hBx2 HB713.out hG).cell
        have c8 := (hBx2 HB813.out hG).cell
        have f8 := (hBx2 HB813.out hG).frozen
        obtain ⟨y, hy⟩ : ∃ y, want[pre.length]? = some y := ⟨_, List.getElem?_eq_getElem hlen⟩
        obtain ⟨g5, o5, e5, _, hr5⟩ := ((HOW.out.below_all hG).is (Nat.le_refl _)).at hy
        subst e5
        have HR5 := Lib.hid hr5
        have i0 : (0 : Int) ≤ (pre.length : Int) := by omega
        have i1 : (pre.length : Int) < (n5 : Int) := by omega
        have i2 : ¬ (n5 : Int) ≤ (pre.length : Int) := by omega
        have i3 : decide (n5 ≤ pre.length) = false := by simp; omega
        have HY := Lib.hid hy
        have H28 := Lib.hid h28
        have H29 := Lib.hid h29
        have HGr := Lib.hid hG
        have HDD := Lib.hid hDD
        clear hDD
        have hp3 : pre.length + 1 ≤ 300 := by omega
        clear hr5 hy h28 h29 hG hIb hlen
        simp only [actI, List.setIfInBounds_toArray, List.set_cons_zero, List.set_cons_succ]
        by_cases hx : x = y
        · have hne := fun W => neq_item x y W
          rw [show (!decide (x = y)) = false by simp [hx]] at hne
          clear hx
          gi_wp2
          refine wpIn_region_quiet_round (by kernel_rfl) rfl (by kernel_rfl) ?_
          repeat (first | gi_big_quiet_step (fail) | (refine wpQuietIn_loadI (o := ⟨some 223, _, _, _, _, _⟩) (.tmp 30) rfl rfl HIB.out rfl ?_; (simp only [Act.put, List.setIfInBounds_toArray, List.set_cons_succ, List.set_cons_zero])) | (refine wpQuietIn_loadI (o := ⟨some 227, _, _, _, _, _⟩) (.tmp 226) rfl rfl HR5.out rfl ?_; (simp only [Act.put, List.setIfInBounds_toArray, List.set_cons_succ, List.set_cons_zero])) | (refine wpQuietIn_neqI (o := ⟨some 228, _, _, _, _, _⟩) (.tmp 223) (.tmp 227) rfl rfl rfl hne rfl ?_; (simp only [Act.put, List.setIfInBounds_toArray, List.set_cons_succ, List.set_cons_zero])))
          refine wpQuietIn_nil ?_
          intro _ hw'
          obtain ⟨nq, hw''⟩ := hw'
          subst hw''
          have HKO := Lib.hid (show KeepsOthers W (W.drewN nq) from KeepsOthers.grew (Grew.drewN _ _))
          have HKS : Hid (∀ v, KeepSet (keepsfrom1 Bs A6 want) W ((W.drewN nq).setCell ⟨b291, 0, none⟩ v)) := Lib.hid fun v => KeepSet.trans (KeepSet.below (Grew.drewN _ _) fun g hg => Nat.lt_of_lt_of_le ((HGV.out _ HGr.out).1 g hg) HGr.out.size) (KeepSet.setCell _ _ _ fun hk => by
            have h1 := (HGV.out _ (Grew.refl _)).1 _ hk
            have h2 := HLT1.out
            simp at h1
            omega)
          have HI : Hid (Boxed ((W.drewN nq).setCell ⟨b291, 0, none⟩ (.int .i64 ((pre.length : Int) + 1))) b281 3 (.int .i64 1) ∧ Boxed ((W.drewN nq).setCell ⟨b291, 0, none⟩ (.int .i64 ((pre.length : Int) + 1))) b291 3 (.int .i64 ((pre ++ [x]).length : Int)) ∧ Grew w13 ((W.drewN nq).setCell ⟨b291, 0, none⟩ (.int .i64 ((pre.length : Int) + 1)))) := Lib.hid
            ⟨(Below.heap_setCell _ _ _ _ (by have := HLT1.out; simp; omega)).trans H28.out, by have h := Boxed.set (W := W.drewN nq) (.int .i64 ((pre.length : Int) + 1)) H29.out; rw [List.length_append, List.length_singleton, Int.natCast_add]; exact h, (HGr.out.trans (Grew.drewN _ _)).setCell (by have := HLT1.out; simp; omega) _⟩
          have c28' := HI.out.1.cell
          have c29' : ((W.drewN nq).setCell ⟨b291, 0, none⟩ (.int .i64 ((pre.length : Int) + 1))).cell? ⟨b291, 0, none⟩ = some (.int .i64 ((pre.length : Int) + 1)) := by have := HI.out.2.1.cell; simpa using this
          have c7' := (hBx2 HB713.out HI.out.2.2).cell
          gi_wp2
          exact ⟨HKO.out.trans (KeepsOthers.setCell _ _ _), HKS.out _, HI.out.1, HI.out.2.1, HI.out.2.2, (KeepsOthers.setCell _ _ _).same _ _ (HKO.out.same _ _ HDD.out rfl) rfl⟩
        · have hne : (!decide (x = y)) = true := by simp [hx]
          have HX := Lib.hid hx
          clear hx
          gi_wp2
          refine wpIn_region_quiet_round (by kernel_rfl) rfl (by kernel_rfl) ?_
          repeat (first | gi_big_quiet_step (fail) | (refine wpQuietIn_loadI (o := ⟨some 223, _, _, _, _, _⟩) (.tmp 30) rfl rfl HIB.out rfl ?_; (simp only [Act.put, List.setIfInBounds_toArray, List.set_cons_succ, List.set_cons_zero])) | (refine wpQuietIn_loadI (o := ⟨some 227, _, _, _, _, _⟩) (.tmp 226) rfl rfl HR5.out rfl ?_; (simp only [Act.put, List.setIfInBounds_toArray, List.set_cons_succ, List.set_cons_zero])) | (refine wpQuietIn_neqI (o := ⟨some 228, _, _, _, _, _⟩) (.tmp 223) (.tmp 227) rfl rfl rfl hne rfl ?_; (simp only [Act.put, List.setIfInBounds_toArray, List.set_cons_succ, List.set_cons_zero])))
          refine wpQuietIn_nil ?_
          intro _ hw'
          obtain ⟨nq, hw''⟩ := hw'
          subst hw''
          have HKO := Lib.hid (show KeepsOthers W (W.drewN nq) from KeepsOthers.grew (Grew.drewN _ _))
          gi_wp2
          exact ⟨HKO.out.trans (KeepsOthers.setCell _ _ _), .inr fun hp => HX.out (by
            obtain ⟨r, hr⟩ := hp
            have h1 : want[pre.length]? = some x := by rw [← hr]; simp
            exact Option.some.inj (h1.symm.trans HY.out))⟩
      · rintro D1 W1 hD hsz hor hd'
        have hor : Boxed W1 b281 3 (.int .i64 1) ∧ Boxed W1 b291 3 (.int .i64 (want.length : Int)) ∧ Grew w13 W1 ∧ W1.heap[D0]? = some (.deferred (some [])) := hor.elim (fun h => h) (fun ⟨_, _, h⟩ => h.elim)
        obtain ⟨h28, h29, hG, hDD⟩ := hor
        have HM1 := Lib.hid (((Marks.nil w13.heap.size W1).cons HDL.out hDD (fun m h => by cases h)).cons (Nat.le_trans HGA1.out.size hD) hd' (fun m h => by
          have e : m = D0 := by simpa using h
          have := HDW.out
          omega))
        have c28 := h28.cell
        have c29 : W1.cell? ⟨b291, 0, none⟩ = some (.int .i64 (n5 : Int)) := by rw [← hl5]; exact h29.cell
        have c26 := (hBx2 HB26b.out hG).cell
        have HGW1 := Lib.hid hG
        have HB8W := Lib.hid (hBx2 HB813.out hG)
        clear hD hd' h28 h29 hG hDD
        go_wp2_with fail
        rw [rounds_succ]
        obtain ⟨w17, hw17⟩ : ∃ W, W = W1.alloc (.cells #[.int .i64 2] 3) := ⟨_, rfl⟩
        obtain ⟨b282, hb282⟩ : ∃ b, b = W1.heap.size := ⟨_, rfl⟩
        have HB282 := Lib.hid (show Boxed w17 b282 3 (.int .i64 2) by rw [hw17, hb282]; exact Boxed.new W1 _ _)
        have HG17 := Lib.hid (show Grew W1 w17 by rw [hw17]; exact grew_new W1 _)
        have HB817 := Lib.hid (hBx2 HB8W.out HG17.out)
        rw [← hw17, ← hb282]
        have HM17 := Lib.hid (Marks.apart (E := 0) HM1.out (KeepsOthers.grew HG17.out))
        have HGL17 := Lib.hid (HGW1.out.trans HG17.out)
        clear hw17 hb282 c28 c29 c26
        have c282 := HB282.out.cell
        have c817 := HB817.out.cell
        have f817 := HB817.out.frozen
        go_wp2_with fail
        have HBt := Lib.hid (HB817.out.set (.bool true))
        have HGt := Lib.hid (Below.setCell (p := ⟨b8, 0, none⟩) (show Below w.heap.size w w17 from HGw.out.trans HGL17.out) (by have := HBB.out.2; show w.heap.size ≤ b8; omega) (.bool true))
        refine postM_retC (v := .bool true) (D := w13.heap.size) (W := w17.setCell ⟨b8, 0, none⟩ (.bool true)) (Marks.apart (E := 0) HM17.out (KeepsOthers.setCell _ _ _)) (by have := HGL17.out.size; simpa using this) fun W' ha => ?_
        have hc := load_boxb (ha.boxed HBt.out).cell
        exact ⟨by simp [results, Try.results4, asAddr, hc], rfl, ha.kept HGt.out HGw.out.size⟩
end Go.Proofs.Ytkkeodfoiffofaa
