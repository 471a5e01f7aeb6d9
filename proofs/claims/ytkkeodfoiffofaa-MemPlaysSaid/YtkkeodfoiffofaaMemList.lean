/- The walks of mem's Get, list, Heights. -/
import Derived.Test.YtkkeodfoiffofaaMemRead
import Derived.Test.YtkkeodfoiffofaaRefGet
namespace Go.Proofs.Ytkkeodfoiffofaa
open Go.RowKit
set_option linter.unusedVariables false
open MemP
/-- what Get finds -/
def memGet (ns : List Nd) (key : List UInt8) (q : Nat) : Option It := ((tailN ns ⟨key, q, false, []⟩).head?.map (·.x)).filter fun x => x.key == key
set_option maxRecDepth 100000 in
set_option maxHeartbeats 1000000 in
theorem mem_get (B : Nat) (hd : Nd) (ns : List Nd) (key : List UInt8) (q : Nat) (w : World) (hM : MemI w B hd ns) :
    Calls Try.prog 23 #[.pointer (some ⟨hd.b, 0, none⟩), sv key, .int .u64 (q : Int)] w fun e w' => e = .returned (getV (memGet ns key q)) ∧ Grew w w' := by
  obtain ⟨T, hT⟩ : ∃ T, T = tailN ns ⟨key, q, false, []⟩ := ⟨_, rfl⟩
  have HG := Lib.hid (show memGet ns key q = (T.head?.map (·.x)).filter (fun x => x.key == key) by rw [hT]; rfl)
  have HTm := Lib.hid (show ∀ p ∈ T, p ∈ ns from fun p hp => by rw [hT] at hp; exact List.mem_of_mem_drop hp)
  have HM := Lib.hid hM
  have HZ := Lib.hid (IBox.zero w)
  obtain ⟨w1, hw1⟩ : ∃ w1, w1 = w.alloc (.cells #[.string ⟨#[]⟩, .int .u64 0, .bool false, .string ⟨#[]⟩] 29) := ⟨_, rfl⟩
  have HG1 := Lib.hid (show Grew w w1 by rw [hw1]; exact (Below.refl _ _).alloc (Nat.le_refl _) _)
  rw [← hw1] at HZ
  have HW1 := Lib.hid hw1
  have HF : Hid (Calls Try.prog 46 #[.pointer (some ⟨hd.b, 0, none⟩), sv key, .int .u64 (q : Int)] w1 fun e w' => e = .returned (.pointer (nxt T 0)) ∧ Grew w1 w') := Lib.hid (by rw [hT]; exact mem_from B hd ns key q w1 (hM.grew HG1.out))
  clear hM hw1 hT
  go_enter Try.func23, Try.ntmps23
  go_upto_region 1 with fail
  rw [← HW1.out]
  go_upto_region 2 with (go_at_call 46; refine HF.out.mono ?_; rintro e w2 ⟨rfl, hG2⟩)
  have HG2 := Lib.hid (HG1.out.trans hG2)
  have HZ2 := Lib.hid (HZ.out.grew hG2)
  clear hG2
  have HF0 := Lib.hid (HZ2.out.set ItP.none0).load
  have HBf0 := Lib.hid (HG2.out.grown (grown_setI w2 w.heap.size ItP.none0) HG2.out.size (fun k e => by cases e; exact Nat.le_refl _))
  have hbz : ∀ W : World, (Instr.build 29 #[]).run Try.prog W = .ok (iv ItP.none0) W := fun W => by kernel_rfl
  cases T with
  | nil =>
    have HR := Lib.hid (show memGet ns key q = none by rw [HG.out]; rfl)
    rw [nxt_nil]
    go_wp2_with (refine wpList_storeI rfl (.tmp 6) (.tmp 24) rfl w.heap.size _ ItP.none0 rfl rfl HZ2.out ?_)
    have hres := HF0.out
    refine bodyPost_ret (v := getV none) (by simp [results, Try.results23, asAddr, hres, getV]) rfl ⟨by rw [HR.out], HBf0.out⟩
  | cons p T =>
    have hpm := HTm.out p (by simp)
    rw [nxt_here (by have := (HM.out.hts p hpm).1; omega)]
    obtain ⟨⟨c0, c1, c2, c3⟩, _⟩ := ((HM.out.grew HG2.out).lst.node p (by simp [hpm])).cells
    by_cases hk : p.x.key = key
    · have HR := Lib.hid (show memGet ns key q = some p.x by rw [HG.out]; simp [hk])
      have hkb : (p.x.key == key) = true := by simpa using hk
      have HF1 := Lib.hid (HZ2.out.set p.x).load
      have HBf1 := Lib.hid (HG2.out.grown (grown_setI w2 w.heap.size p.x) HG2.out.size (fun k e => by cases e; exact Nat.le_refl _))
      clear hk hpm
      go_wp2_with (refine wpList_storeI rfl (.tmp 6) (.tmp 28) rfl w.heap.size _ p.x rfl rfl HZ2.out ?_)
      have hres := HF1.out
      refine bodyPost_ret (v := getV (some p.x)) (by simp [results, Try.results23, asAddr, hres, getV]) rfl ⟨by rw [HR.out], HBf1.out⟩
    · have HR := Lib.hid (show memGet ns key q = none by rw [HG.out]; simp [hk])
      have hkb : (p.x.key == key) = false := by simpa using hk
      clear hk hpm
      go_wp2_with (refine wpList_storeI rfl (.tmp 6) (.tmp 24) rfl w.heap.size _ ItP.none0 rfl rfl HZ2.out ?_)
      have hres := HF0.out
      refine bodyPost_ret (v := getV none) (by simp [results, Try.results23, asAddr, hres, getV]) rfl ⟨by rw [HR.out], HBf0.out⟩
/-- a slice of the call's own of just these items -/
def GivesI (w0 : World) (l : List It) (e : Ending) (w' : World) : Prop := ∃ A n c, e = .returned (.slice A n c) ∧ OwnI w' w0.heap.size A n c l ∧ Grew w0 w'
set_option maxRecDepth 100000 in
set_option maxHeartbeats 1000000 in
theorem mem_list (B : Nat) (hd : Nd) (ns : List Nd) (key : List UInt8) (w : World) (hM : MemI w B hd ns) (hn : ns.length ≤ 1000000) :
    Calls Try.prog 47 #[.pointer (some ⟨hd.b, 0, none⟩), sv key] w (GivesI w ((tailN ns ⟨key, m64 - 1, false, []⟩).map (·.x))) := by
  obtain ⟨T, hT⟩ : ∃ T, T = tailN ns ⟨key, m64 - 1, false, []⟩ := ⟨_, rfl⟩
  have HSUF : Hid (∃ P, ns = P ++ T) := Lib.hid ⟨_, by rw [hT]; exact (List.take_append_drop _ _).symm⟩
  have HF : Hid (Calls Try.prog 46 #[.pointer (some ⟨hd.b, 0, none⟩), sv key, .int .u64 18446744073709551615] w fun e w' => e = .returned (.pointer (nxt T 0)) ∧ Grew w w') := Lib.hid (by rw [hT]; exact mem_from B hd ns key (m64 - 1) w hM)
  rw [← hT]
  have HM := Lib.hid hM
  have HTl := Lib.hid (show T.length ≤ 1000000 by obtain ⟨P, e⟩ := HSUF.out; rw [e] at hn; simp at hn; omega)
  clear hM hT hn
  go_enter Try.func47, Try.ntmps47
  go_wp2_with (go_at_call 46; refine HF.out.mono ?_; rintro e w1 ⟨rfl, hG1⟩; have HG1 := Lib.hid hG1; clear hG1)
  go_loopg [5, 6] T.length (fun gk o n wy => ∃ (D R : List Nd) (A2 : Option Addr) (n2 c2 : Nat), T = D ++ R ∧ gk = R.length ∧ n = .pointer (nxt R 0) ∧ o = .slice A2 n2 c2 ∧ OwnI wy w.heap.size A2 n2 c2 (D.map (·.x)) ∧ MemI wy B hd ns ∧ Grew w wy)
  case atStart => exact ⟨[], T, none, 0, 0, rfl, rfl, rfl, rfl, OwnI.nil _ _, HM.out.grew HG1.out, HG1.out⟩
  case round =>
    obtain ⟨D, R, A2, n2, c2, hDR, hgk, rfl, rfl, hO, hMr, hG⟩ := hrel
    have HO := Lib.hid hO
    have HMr := Lib.hid hMr
    have HG := Lib.hid hG
    have HDR := Lib.hid hDR
    have hn2 : n2 = D.length := by have := hO.len; simp at this; omega
    have hn2b : n2 ≤ 1000000 := by have := HTl.out; rw [hDR] at this; simp at this; omega
    have HN2 := Lib.hid hn2
    have HGK := Lib.hid hgk
    clear hO hMr hG hDR hn2 hgk
    cases R with
    | nil =>
      rw [nxt_nil]
      go_wp2_with fail
      go_ret
      exact ⟨A2, n2, c2, rfl, by rw [HDR.out]; simpa using HO.out, HG.out⟩
    | cons p R =>
      obtain ⟨P, hP⟩ := HSUF.out
      have hpm : p ∈ ns := by rw [hP, HDR.out]; simp
      have hph := (HM.out.hts p hpm).1
      rw [nxt_here (by omega)]
      obtain ⟨⟨c0, c1, c2', c3⟩, c4⟩ := (HMr.out.lst.node p (by simp [hpm])).cells
      have hrow := HMr.out.lst.row (hd :: (P ++ D)) p R (by rw [hP, HDR.out]; simp)
      have HB := HG.out.size
      have HROW : Hid (∀ W, MemI W B hd ns → W.cell? ⟨p.b, 4, none⟩ = some (.slice (some ⟨p.r, 0, none⟩) p.s p.s) ∧ W.cell? ⟨p.r, 0, none⟩ = some (.pointer (nxt R 0))) := Lib.hid fun W hW => ⟨((hW.lst.node p (by simp [hpm])).cells).2, ((hW.lst.row (hd :: (P ++ D)) p R (by rw [hP, HDR.out]; simp)).cell (by omega)).1⟩
      have hs0 : 0 < p.s := by obtain ⟨_, _, _, h3, _⟩ := hrow; omega
      have HLE := Lib.hid (show (D ++ [p]).map (·.x) = D.map (·.x) ++ [p.x] by simp)
      clear hpm hph hrow hP
      go_wp2_with (at_builtin; refine wpList_appI rfl (.tmp 18) (.tmp 23) rfl w.heap.size A2 n2 c2 _ rfl (HO.out.alloc _) (some ⟨wr.heap.size, 0, none⟩) 1 1 (wr.heap.size + 1) [p.x] rfl rfl (IRow.one wr p.x _ _) (by omega) (by simp; omega) ?_; intro A3 c3' w3 hO3 hg3 hB3 hor3; have HM3 := Lib.hid ((HMr.out.grew (grew_new wr _)).appI (HO.out.alloc _) hg3); have r1 := (HROW.out w3 HM3.out).1; have r2 := (HROW.out w3 HM3.out).2; have HO3 := Lib.hid hO3; have HB3 := Lib.hid hB3; clear hO3 hg3 hB3 hor3)
      go_roundg R.length
      case measure => rw [HGK.out]; simp
      case rel => exact ⟨D ++ [p], R, A3, _, c3', by rw [HDR.out]; simp, rfl, rfl, rfl, by rw [HLE.out]; exact HO3.out, HM3.out, Below.trans (HG.out.trans (grew_new wr _)) HB3.out⟩
/-- the heights of the nodes -/
def htsV (ns : List Nd) : List Value := ns.map fun q => .int .i64 (q.h : Int)
theorem info_int : (Try.prog.info? 3).map (fun i => (i.zero, i.size, i.bytes)) = some (some (.int .i64 0), 1, 8) := by kernel_rfl
theorem MemI.appN {w w' : World} {B : Nat} {hd : Nd} {ns : List Nd} (h : MemI w B hd ns) {base n cap : Nat} {A : Option Addr} {xs : List Value} (ho : Own w base 3 1 A n cap xs) (hg : w.grownBy w' (blk A)) : MemI w' B hd ns :=
  h.other hg fun r e => by
    rcases ho.2.2.2 with ⟨rfl, _⟩ | ⟨g', off, cur, fr, rfl, _, hh, _⟩
    · cases e
    · simp [blk] at e
      subst e
      exact ⟨_, _, _, hh, by decide, by decide, by decide⟩
/-- what Heights answers -/
def HtsPost (w : World) (ns : List Nd) (e : Ending) (w' : World) : Prop := ∃ A c, e = .returned (.slice A ns.length c) ∧ Own w' w.heap.size 3 1 A ns.length c (htsV ns) ∧ Grew w w'
set_option maxRecDepth 100000 in
set_option maxHeartbeats 1000000 in
theorem mem_heights (B : Nat) (hd : Nd) (ns : List Nd) (w : World) (hM : MemI w B hd ns) (hn : ns.length ≤ 1000000) :
    Calls Try.prog 16 #[.pointer (some ⟨hd.b, 0, none⟩)] w (HtsPost w ns) := by
  have HM := Lib.hid hM
  obtain ⟨_, hc4⟩ := (hM.lst.node hd (by simp)).cells
  have hr0 := ((hM.lst.row [] hd ns rfl).cell (i := 0) (by rw [hM.hh]; omega)).1
  have hs0 : 0 < hd.s := by rw [hM.hs]; omega
  have HNn := Lib.hid hn
  clear hM hn
  go_enter Try.func16, Try.ntmps16
  go_wp2_with fail
  clear hc4 hr0 hs0
  go_loopg [3, 4] ns.length (fun gk o n wy => ∃ (D R : List Nd) (A2 : Option Addr) (n2 c2 : Nat), ns = D ++ R ∧ gk = R.length ∧ n = .pointer (nxt R 0) ∧ n2 = D.length ∧ o = .slice A2 n2 c2 ∧ Own wy w.heap.size 3 1 A2 n2 c2 (htsV D) ∧ MemI wy B hd ns ∧ Grew w wy)
  case atStart => exact ⟨[], ns, none, 0, 0, rfl, rfl, rfl, rfl, rfl, Own.nil _ _ _ _, HM.out, Grew.refl _⟩
  case round =>
    obtain ⟨D, R, A2, n2, c2, hDR, hgk, rfl, hn2, rfl, hO, hMr, hG⟩ := hrel
    have HO := Lib.hid hO
    have HMr := Lib.hid hMr
    have HG := Lib.hid hG
    have HDR := Lib.hid hDR
    have hn2b : n2 ≤ 1000000 := by have := HNn.out; rw [hDR] at this; simp at this; omega
    have HN2 := Lib.hid hn2
    have HGK := Lib.hid hgk
    clear hO hMr hG hDR hn2 hgk
    cases R with
    | nil =>
      rw [nxt_nil]
      go_wp2_with fail
      go_ret
      have e1 : D = ns := by have := HDR.out; simpa using this.symm
      have e2 : n2 = ns.length := by rw [HN2.out, e1]
      refine ⟨A2, c2, by rw [← e2]; rfl, ?_, HG.out⟩
      have := HO.out
      rwa [e1, e2] at this
    | cons p R =>
      have hpm : p ∈ ns := by rw [HDR.out]; simp
      have hph := HM.out.hts p hpm
      rw [nxt_here (by omega)]
      have c4 := ((HMr.out.lst.node p (by simp [hpm])).cells).2
      have hrow := HMr.out.lst.row (hd :: D) p R (by rw [HDR.out]; simp)
      have HB := HG.out.size
      have HROW : Hid (∀ W, MemI W B hd ns → W.cell? ⟨p.b, 4, none⟩ = some (.slice (some ⟨p.r, 0, none⟩) p.s p.s) ∧ W.cell? ⟨p.r, 0, none⟩ = some (.pointer (nxt R 0))) := Lib.hid fun W hW => ⟨((hW.lst.node p (by simp [hpm])).cells).2, ((hW.lst.row (hd :: D) p R (by rw [HDR.out]; simp)).cell (by omega)).1⟩
      have hs0 : 0 < p.s := by obtain ⟨_, _, _, h3, _⟩ := hrow; omega
      have HLE := Lib.hid (show htsV D ++ [.int .i64 (p.s : Int)] = htsV (D ++ [p]) by simp [htsV, hph.2.1])
      clear hpm hph hrow
      go_wp2_with (at_builtin; refine wpList_appn1 rfl (.tmp 20) (.tmp 26) 30 3 (.int .i64 0) 8 rfl Try.underlying30 info_int rfl (by omega) w.heap.size A2 n2 c2 _ rfl (HO.out.alloc _) 1 [.int .i64 (p.s : Int)] (Src.slice rfl (Row.new _ _ _ _ (wr.heap.size + 1) _ rfl (by omega) _ rfl)) (by intro u hu; simp at hu; subst hu; rfl) (n2 + 1) rfl (htsV (D ++ [p])) HLE.out (by omega) (by simp; omega) ?_; intro A3 c3' w3 hO3 hg3 hB3 hor3; have HM3 := Lib.hid ((HMr.out.grew (grew_new wr _)).appN (HO.out.alloc _) hg3); have r1 := (HROW.out w3 HM3.out).1; have r2 := (HROW.out w3 HM3.out).2; have HO3 := Lib.hid hO3; have HB3 := Lib.hid hB3; clear hO3 hg3 hB3 hor3)
      go_roundg R.length
      case measure => rw [HGK.out]; simp
      case rel => exact ⟨D ++ [p], R, A3, n2 + 1, c3', by rw [HDR.out]; simp, rfl, rfl, by rw [HN2.out]; simp, rfl, HO3.out, HM3.out, Below.trans (HG.out.trans (grew_new wr _)) HB3.out⟩
end Go.Proofs.Ytkkeodfoiffofaa
