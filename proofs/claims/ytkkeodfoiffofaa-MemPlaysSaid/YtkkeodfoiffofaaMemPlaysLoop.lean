/- What MemPlays' first loop keeps, in memory. -/
import Derived.Test.YtkkeodfoiffofaaMemPlaysPlain
namespace Go.Proofs.Ytkkeodfoiffofaa
open Go.RowKit
set_option linter.unusedVariables false
open MemP
/-- the keeper, the sorted list of the reference and the items in the order in which they were put -/
structure LoopP (w1 wy : World) (B : Nat) (hd : Nd) (la : List (It × Nat)) (O : List It) (A1 : Option Addr) (n1 c1 : Nat) (A2 : Option Addr) (n2 c2 : Nat) : Prop where
  mem : MemL wy B hd la
  plays : Plays la O
  own1 : OwnI wy B A1 n1 c1 (la.map (·.1))
  own2 : OwnI wy B A2 n2 c2 O
  apart : blk A1 = none ∨ blk A1 ≠ blk A2
  below : Below B w1 wy
  size : B ≤ wy.heap.size
  seqs : ∀ x ∈ la.map (·.1), x.seq < m64
section
variable {w1 wy w4 w6 w8 : World} {B base : Nat} {hd : Nd} {la : List (It × Nat)} {O : List It} {A1 A2 A1' A2' : Option Addr} {n1 c1 n2 c2 n1' c1' n2' c2' : Nat} {x : It} {tmp : Obj}
theorem LoopP.same (h : LoopP w1 wy B hd la O A1 n1 c1 A2 n2 c2) (hM : MemL w4 B hd la) (hK : Kept B wy w4) : LoopP w1 w4 B hd la O A1 n1 c1 A2 n2 c2 :=
  ⟨hM, h.plays, hK.ownI h.own1, hK.ownI h.own2, h.apart, h.below.trans hK.below, Nat.le_trans h.size hK.below.size, h.seqs⟩
theorem LoopP.grew (h : LoopP w1 wy B hd la O A1 n1 c1 A2 n2 c2) (hg : Grew wy w4) : LoopP w1 w4 B hd la O A1 n1 c1 A2 n2 c2 :=
  ⟨h.mem.grew hg, h.plays, h.own1.below_all hg, h.own2.below_all hg, h.apart, h.below.trans (hg.mono h.size), Nat.le_trans h.size hg.size, h.seqs⟩
theorem LoopP.next (h : LoopP w1 wy B hd la O A1 n1 c1 A2 n2 c2) (hm : ItP.may x = true) (hp : (ItP.put (la.map (·.1)) x).2 = true) (hq : x.seq < m64) (hM : MemL w4 B hd (putR la x).2) (hK : Kept B wy w4) (hG : Grew w4 w6)
    (hO1 : OwnI w6 base A1' n1' c1' (ItP.put (la.map (·.1)) x).1) (hb : w4.heap.size ≤ base) (hO2 : OwnI w8 B A2' n2' c2' (O ++ [x])) (hg : (w6.alloc tmp).grownBy w8 (blk A2)) (hB : Below B (w6.alloc tmp) w8)
    (hor : blk A2' = blk A2 ∨ blk A2' = some (w6.alloc tmp).heap.size) : LoopP w1 w8 B hd (putR la x).2 (O ++ [x]) A1' n1' c1' A2' n2' c2' := by
  have hs4 := hK.below.size
  have hs6 := hG.size
  have hsz := h.size
  have hap : blk A1' = none ∨ blk A1' ≠ blk A2 := by
    cases e : blk A1' with
    | none => exact .inl rfl
    | some g =>
      refine .inr fun e2 => ?_
      have h1 := (hO1.lt g e).1
      have h2 := (h.own2.lt g e2.symm).2
      omega
  have hP := plays_put h.plays h.mem.srt hm hp
  refine ⟨((hM.grew hG).grew (grew_new w6 tmp)).appI (((hK.ownI h.own2).below_all hG).alloc tmp) hg, hP.1, ?_, hO2, ?_, ?_, ?_, ?_⟩
  · rw [hP.2.1]
    exact Own.lower ((Own.alloc hO1 tmp).grown hg hap) (by omega)
  · rcases hor with e | e
    · rw [e]; exact hap
    · cases e1 : blk A1' with
      | none => exact .inl rfl
      | some g =>
        refine .inr fun e2 => ?_
        have h1 := (hO1.lt g e1).2
        rw [e] at e2
        have : g = (w6.alloc tmp).heap.size := by injection e2
        simp at this
        omega
  · exact ((h.below.trans hK.below).trans ((hG.trans (grew_new w6 tmp)).mono (by omega))).trans hB
  · exact Nat.le_trans (by simp; omega) hB.size
  · intro y hy
    rw [hP.2.1, put_yes hp] at hy
    simp only [List.mem_append, List.mem_cons] at hy
    rcases hy with a | a | a
    · exact h.seqs y ((List.take_sublist _ _).mem a)
    · rw [a]; exact hq
    · exact h.seqs y ((List.drop_sublist _ _).mem a)
end
/-- From, with the box of its slice told by type -/
def SeqPostB (w : World) (l : List It) (e : Ending) (w' : World) : Prop := ∃ (Bs n c : Nat) (A : Option Addr), e = .returned (.func (.func 48) #[] #[.pointer (some ⟨Bs, 0, none⟩)]) ∧ Boxed w' Bs 32 (.slice A n c) ∧ OwnI w' w.heap.size A n c l ∧ w.heap.size ≤ Bs ∧ Grew w w'
set_option maxHeartbeats 1000000 in
theorem mem_FromB (B : Nat) (hd : Nd) (ns : List Nd) (key : List UInt8) (w : World) (hM : MemI w B hd ns) (hn : ns.length ≤ 1000000) :
    Calls Try.prog 27 #[.pointer (some ⟨hd.b, 0, none⟩), sv key] w (SeqPostB w ((tailN ns ⟨key, m64 - 1, false, []⟩).map (·.x))) := by
  have HL := Lib.hid (mem_list B hd ns key w hM hn)
  clear hM hn
  go_enter Try.func27, Try.ntmps27
  go_wp2_with (go_at_call 47; refine HL.out.mono ?_; rintro e w1 ⟨A, n, c, rfl, hO, hG⟩; have HO := Lib.hid hO; have HG := Lib.hid hG; clear hO hG)
  go_ret
  exact ⟨w1.heap.size, n, c, A, rfl, Boxed.new w1 32 (.slice A n c), HO.out.alloc _, HG.out.size, HG.out.trans (grew_new _ _)⟩
theorem seqB {w : World} {B : Nat} {hd : Nd} {l : List (It × Nat)} (h : MemL w B hd l) (hn : l.length ≤ 1000000) (key : List UInt8) : Calls Try.prog 27 #[.pointer (some ⟨hd.b, 0, none⟩), sv key] w (SeqPostB w (tailI (l.map (·.1)) ⟨key, m64 - 1, false, []⟩)) := by
  obtain ⟨ns, hM, hl⟩ := h
  rw [← items_of hl, ← tailN_map]
  exact mem_FromB B hd ns key w hM (by rw [len_of hl]; exact hn)
theorem getV_form (o : Option It) : ∃ (y : It) (b : Bool), getV o = .tuple #[.agg #[.string ⟨y.key.toArray⟩, .int .u64 (y.seq : Int), .bool y.gone, .string ⟨y.val.toArray⟩], .bool b] := by
  cases o with
  | none => exact ⟨ItP.none0, false, rfl⟩
  | some y => exact ⟨y, true, rfl⟩
end Go.Proofs.Ytkkeodfoiffofaa
