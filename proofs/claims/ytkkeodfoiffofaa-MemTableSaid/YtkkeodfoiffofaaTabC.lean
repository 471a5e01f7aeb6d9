/- A table that is read, block by block: what stands in memory. -/
import Derived.Test.YtkkeodfoiffofaaTabA
import Derived.Test.YtkkeodfoiffofaaItemBox
import Derived.Test.YtkkeodfoiffofaaRangeI
import Derived.Test.YtkkeodfoiffofaaTabB
import Derived.Test.YtkkeodfoiffofaaClass
import Derived.Test.YtkkeodfoiffofaaClone
import Derived.Test.YtkkeodfoiffofaaRangeB
namespace Go.Proofs.Ytkkeodfoiffofaa
open Go.RowKit
set_option linter.unusedVariables false
/-- w' is w but for the table T, the row of its items A, and new blocks -/
structure But (T : Nat) (A : Option Addr) (w w' : World) : Prop where
  os : w'.os = w.os
  tape : w'.tape = w.tape
  output : w'.output = w.output
  size : w.heap.size ≤ w'.heap.size
  block : ∀ k, k < w.heap.size → k ≠ T → blk A ≠ some k → w'.heap[k]? = w.heap[k]?
theorem But.refl (T : Nat) (A : Option Addr) (w : World) : But T A w w := ⟨rfl, rfl, rfl, Nat.le_refl _, fun _ _ _ _ => rfl⟩
theorem But.grown {T : Nat} {A : Option Addr} {w w1 w2 : World} {row : Option Nat} (h : But T A w w1) (hg : w1.grownBy w2 row) (hr : ∀ k, row = some k → k = T ∨ blk A = some k ∨ w.heap.size ≤ k) : But T A w w2 :=
  ⟨hg.os.trans h.os, hg.tape.trans h.tape, hg.output.trans h.output, Nat.le_trans h.size hg.size, fun k hk hT hA => by
    rw [hg.block k (Nat.lt_of_lt_of_le hk h.size) (fun e => ?_)]
    · exact h.block k hk hT hA
    · rcases hr k e.symm with h1 | h1 | h1
      · exact hT h1
      · exact hA h1
      · omega⟩
theorem But.grew {T : Nat} {A : Option Addr} {w w1 w2 : World} (h : But T A w w1) (hg : Grew w1 w2) : But T A w w2 :=
  ⟨hg.os.trans h.os, hg.tape.trans h.tape, hg.output.trans h.output, Nat.le_trans h.size hg.size, fun k hk hT hA => (hg.block k (Nat.lt_of_lt_of_le hk h.size)).trans (h.block k hk hT hA)⟩
theorem But.below {T : Nat} {A : Option Addr} {w w' : World} (h : But T A w w') (hT : T ≤ w.heap.size) (hA : ∀ k, blk A = some k → T < k) : Below T w w' :=
  ⟨h.os, h.tape, h.output, h.size, fun k hk => h.block k (by omega) (by omega) (fun e => by have := hA k e; omega)⟩
def TabV (A : Option Addr) (n c : Nat) (bk flt : Value) : Obj := .cells #[.slice A n c, bk, flt] 87 (0, 0)
structure PartI (w : World) (lo hi g T : Nat) (A A1 : Option Addr) (n1 c1 : Nat) (l : List It) (bk flt : Value) (st : BinP.St) (W : World) : Prop where
  rd : RdS W (lo, hi) g st
  obj : W.heap[T]? = some (TabV A1 n1 c1 bk flt)
  own : OwnI W (T + 1) A1 n1 c1 l
  row : ∀ k, blk A1 = some k → (blk A = some k ∧ k < w.heap.size) ∨ hi ≤ k
  but : But T A w W
  lo_ : w.heap.size ≤ lo
  hi_ : hi ≤ W.heap.size
  T_ : T < w.heap.size
section
variable {w W W' : World} {lo hi g T n1 c1 : Nat} {A A1 : Option Addr} {l : List It} {bk flt : Value} {st st' : BinP.St}
theorem PartI.read (h : PartI w lo hi g T A A1 n1 c1 l bk flt st W) (hr : RdS W' (lo, hi) g st') (hg : W.grownBy W' (some g)) : PartI w lo hi g T A A1 n1 c1 l bk flt st' W' := by
  have hb := (RdS.base_le h.rd).1
  have h1 := h.lo_
  have h2 := h.T_
  simp only at hb
  refine ⟨hr, (hg.block T (lt_of_blk h.obj) (fun e => by injection e with e; omega)).trans h.obj, Own.grown h.own hg (.inr fun e => ?_), h.row, h.but.grown hg (fun k e => by injection e with e; subst e; exact .inr (.inr (by omega))), h1, Nat.le_trans h.hi_ hg.size, h2⟩
  rcases h.row g e with ⟨_, h3⟩ | h3 <;> omega
theorem PartI.grew (h : PartI w lo hi g T A A1 n1 c1 l bk flt st W) (hg : Grew W W') : PartI w lo hi g T A A1 n1 c1 l bk flt st W' :=
  ⟨h.rd.below hg, (hg.block T (lt_of_blk h.obj)).trans h.obj, Own.below_all h.own hg, h.row, h.but.grew hg, h.lo_, Nat.le_trans h.hi_ hg.size, h.T_⟩
/-- a box of one's own is written -/
theorem PartI.box (h : PartI w lo hi g T A A1 n1 c1 l bk flt st W) {b : Nat} (hb : hi ≤ b) (hne : blk A1 ≠ some b) (hg : W.grownBy W' (some b)) : PartI w lo hi g T A A1 n1 c1 l bk flt st W' := by
  have h1 := h.lo_
  have h2 := h.T_
  have h3 := (RdS.base_le h.rd).1
  simp only at h3
  refine ⟨h.rd.other hg (.inr hb), (hg.block T (lt_of_blk h.obj) (fun e => by injection e with e; omega)).trans h.obj, Own.grown h.own hg (.inr hne), h.row, h.but.grown hg (fun k e => by injection e with e; subst e; exact .inr (.inr (by omega))), h1, Nat.le_trans h.hi_ hg.size, h2⟩
/-- a new box -/
theorem PartI.box0 (h : PartI w lo hi g T A A1 n1 c1 l bk flt st W) : PartI w lo hi g T A A1 n1 c1 l bk flt st (W.alloc (.cells #[.string ⟨#[]⟩, .int .u64 0, .bool false, .string ⟨#[]⟩] 29)) ∧ IBox (W.alloc (.cells #[.string ⟨#[]⟩, .int .u64 0, .bool false, .string ⟨#[]⟩] 29)) W.heap.size ItP.none0 ∧ hi ≤ W.heap.size ∧ blk A1 ≠ some W.heap.size :=
  ⟨h.grew (grew_new W _), IBox.zero W, h.hi_, fun e => by have := (Own.lt h.own _ e).2; omega⟩
theorem PartI.boxRead {b : Nat} {x : It} (h : PartI w lo hi g T A A1 n1 c1 l bk flt st W) (hb : hi ≤ b) (hx : IBox W b x) (hg : W.grownBy W' (some g)) : IBox W' b x := by
  have h3 := (RdS.base_le h.rd).1
  simp only at h3
  exact hx.keep (hg.block b hx.lt (fun e => by injection e with e; omega))
theorem heap_setObj {W : World} {T : Nat} (h : W.heap[T]? = some (TabV A1 n1 c1 bk flt)) (A2 : Option Addr) (n2 c2 : Nat) : (W.setCell ⟨T, 0, none⟩ (.slice A2 n2 c2)).heap[T]? = some (TabV A2 n2 c2 bk flt) :=
  heap_setCell_at W T 0 _ _ _ _ h
/-- one item more -/
theorem PartI.add {A2 : Option Addr} {c2 : Nat} {x : It} {w5 : World} (h : PartI w lo hi g T A A1 n1 c1 l bk flt st W) (hO : OwnI w5 (T + 1) A2 (n1 + 1) c2 (l ++ [x])) (hg : W.grownBy w5 (blk A1)) (hor : blk A2 = blk A1 ∨ blk A2 = some W.heap.size) :
    PartI w lo hi g T A A2 (n1 + 1) c2 (l ++ [x]) bk flt st (w5.setCell ⟨T, 0, none⟩ (.slice A2 (n1 + 1) c2)) := by
  have h1 := h.lo_
  have h2 := h.T_
  have h3 := (RdS.base_le h.rd).1
  have h4 := h.hi_
  simp only at h3
  have hT5 : w5.heap[T]? = some (TabV A1 n1 c1 bk flt) := (hg.block T (lt_of_blk h.obj) (fun e => by have := (Own.lt h.own T e.symm).1; omega)).trans h.obj
  have hs := grown_setCells T [.slice A2 (n1 + 1) c2] 0 w5
  have hs' : w5.grownBy (w5.setCell ⟨T, 0, none⟩ (.slice A2 (n1 + 1) c2)) (some T) := hs
  have hrow : ∀ k, blk A1 = some k → k < lo ∨ hi ≤ k := fun k e => by rcases h.row k e with ⟨_, h5⟩ | h5 <;> omega
  have rd5 : RdS w5 (lo, hi) g st := h.rd.keep hg.size fun k hk hb1 hb2 => hg.block k hk fun e => by rcases hrow k e.symm with h5 | h5 <;> simp only at hb1 hb2 <;> omega
  refine ⟨rd5.other hs' (.inl (by omega)), heap_setObj hT5 A2 (n1 + 1) c2, Own.setCell hO (fun e => by have := (Own.lt hO T e).1; omega) _, ?_, (h.but.grown hg fun k e => ?_).grown hs' (fun k e => .inl (by injection e with e; exact e.symm)), h1, Nat.le_trans h4 (Nat.le_trans hg.size hs'.size), h2⟩
  · intro k hk
    rcases hor with e | e
    · rw [e] at hk
      exact h.row k hk
    · rw [e] at hk
      injection hk with hk
      exact .inr (by omega)
  · rcases h.row k e with ⟨h5, _⟩ | h5
    · exact .inr (.inl h5)
    · exact .inr (.inr (by omega))
end
theorem IBox.frozen {w : World} {b : Nat} {x : It} (h : IBox w b x) (i : Nat) : w.frozen? ⟨b, i, none⟩ = false := by
  unfold World.frozen?
  rw [show w.heap[b]? = _ from h]
  simp
theorem IBox.setVal {w : World} {b : Nat} {x : It} (h : IBox w b x) (v : List UInt8) : IBox (w.setCell ⟨b, 3, none⟩ (.string ⟨v.toArray⟩)) b ⟨x.key, x.seq, x.gone, v⟩ := heap_setCell_at w b 3 _ _ _ _ h
theorem IBox.setGone {w : World} {b : Nat} {x : It} (h : IBox w b x) : IBox (w.setCell ⟨b, 2, none⟩ (.bool true)) b ⟨x.key, x.seq, true, x.val⟩ := heap_setCell_at w b 2 _ _ _ _ h
theorem exec_loadIs {o : Oper} {a : Act} {w : World} {g k n c : Nat} {A : Option Addr} (X : Operand) (ho : o.op = .load 32 X) (hx : a.eval X = .pointer (some ⟨g, k, none⟩)) (h : w.cell? ⟨g, k, none⟩ = some (.slice A n c)) : (execOp a.eval o).run Try.prog w = .ok (.value (.slice A n c)) w := by
  unfold execOp
  simp [ho, hx, Instr.loadAt, Instr.sureAddr, loadVar, isAgg, Sem.run_bind, run_underlying Try.underlying32 w, h]
theorem size_is : (Try.prog.info? 32).map (·.size) = some 1 := by kernel_rfl
theorem run_storeIs {w : World} {g k n c : Nat} {A : Option Addr} {old : Value} (hc : w.cell? ⟨g, k, none⟩ = some old) (hf : w.frozen? ⟨g, k, none⟩ = false) :
    (storeVar 32 ⟨g, k, none⟩ (.slice A n c)).run Try.prog w = .ok () (w.setCell ⟨g, k, none⟩ (.slice A n c)) := by
  have hs := run_storeCells_cells (P := Try.prog) g k [.slice A n c] 0 w (fun j hj => by
    have : j = 0 := by simp at hj; omega
    subst this
    simp [hc]) (fun j hj => by
    have : j = 0 := by simp at hj; omega
    subst this
    simpa using hf) (fun v hv => by simp at hv; rw [hv]; rfl)
  have hcs : (Value.slice A n c).cells = #[.slice A n c] := rfl
  cases hq : Try.prog.info? 32 with
  | none => have := size_is; simp [hq] at this
  | some i =>
    have hsz : i.size = 1 := by have := size_is; simpa [hq] using this
    simp only [Nat.add_zero] at hs
    simp [storeVar, sizeOf, typeInfo, hq, hcs, hsz, hs, World.setCells]
theorem wpList_storeIs {ops : Array Oper} {rest : List Oper} {o : Oper} {a : Act} {w : World} {Q : Exit → Act → World → Prop} (hgd : o.guard = none) (X Y : Operand) (ho : o.op = .store 32 X Y)
    (g k n c : Nat) (A : Option Addr) (old : Value) (hx : a.eval X = .pointer (some ⟨g, k, none⟩)) (hy : a.eval Y = .slice A n c) (hc : w.cell? ⟨g, k, none⟩ = some old) (hf : w.frozen? ⟨g, k, none⟩ = false)
    (h : wpList Try.prog ops Q rest (a.put o.dst undef) (w.setCell ⟨g, k, none⟩ (.slice A n c))) : wpList Try.prog ops Q (o :: rest) a w :=
  wpList_plain hgd fun _ hK => by
    unfold Oper.wp execOp
    simp only [ho, hx, hy, Instr.storeAt, Instr.sureAddr, Sem.run_bind, Sem.run_pure, Result.andThen_ok, run_storeIs hc hf]
    exact hK _ _ h
theorem tabv_cell {W : World} {T n1 c1 : Nat} {A1 : Option Addr} {bk flt : Value} (h : W.heap[T]? = some (TabV A1 n1 c1 bk flt)) : W.cell? ⟨T, 0, none⟩ = some (.slice A1 n1 c1) ∧ W.cell? ⟨T, 1, none⟩ = some bk ∧ W.cell? ⟨T, 2, none⟩ = some flt ∧ ∀ i, W.frozen? ⟨T, i, none⟩ = false := by
  unfold TabV at h
  exact ⟨by rw [cell_blk h]; rfl, by rw [cell_blk h]; rfl, by rw [cell_blk h]; rfl, fun i => by simp [World.frozen?, h]⟩
theorem exec_cat {o : Oper} {a : Act} {w : World} {l m : List UInt8} {rt : TypeId} (X Y : Operand) (ho : o.op = .binOp .add 9 X Y rt) (hx : a.eval X = .string ⟨l.toArray⟩) (hy : a.eval Y = .string ⟨m.toArray⟩) (hk : l.length + m.length ≤ 1000000000) : (execOp a.eval o).run Try.prog w = .ok (.value (.string ⟨(l ++ m).toArray⟩)) w := by
  have hl := ba_size l
  have hm := ba_size m
  have e : (⟨l.toArray⟩ : ByteArray) ++ ⟨m.toArray⟩ = ⟨(l ++ m).toArray⟩ := by
    apply ByteArray.ext
    simp
  unfold execOp
  simp only [ho, hx, hy]
  simp [go_sem, hl, hm, e]
  omega
theorem exec_strTo {o : Oper} {a : Act} {w : World} {l : List UInt8} {k : Nat} (X Y : Operand) (ho : o.op = .slice 9 X none (some Y) none) (hx : a.eval X = .string ⟨l.toArray⟩) (hy : a.eval Y = .int .i64 (k : Int)) (hk : k ≤ l.length) : (execOp a.eval o).run Try.prog w = .ok (.value (.string ⟨(l.take k).toArray⟩)) w := by
  have h1 : (k : Int) ≤ (l.length : Int) := by omega
  have h0 : (0 : Int) ≤ (k : Int) := by omega
  have hsz := ba_size l
  unfold execOp
  simp only [ho, hx, hy, Option.map_some, Option.map_none]
  simp [go_sem, h1, h0, hsz, ba_extract]
end Go.Proofs.Ytkkeodfoiffofaa
namespace Go.Proofs.Ytkkeodfoiffofaa
open Go.RowKit
set_option linter.unusedVariables false
namespace TabP
def goA (k : Nat) (key : List UInt8) (q : Nat) (p : List UInt8 × BinP.St) (l : List It) : Option (List It × BinP.St) :=
  match p with
  | (_, none) => none
  | (v, some r) => partF k key (some r) (l ++ [⟨key, q, false, v⟩])
def goB (k : Nat) (key : List UInt8) (q : Nat) (st : BinP.St) (l : List It) : Option (List It × BinP.St) :=
  match st with
  | none => none
  | some r => partF k key (some r) (l ++ [⟨key, q, true, []⟩])
theorem partF_succ (k : Nat) (ahead : List UInt8) (st : BinP.St) (l : List It) :
    partF (k + 1) ahead st l =
      (fun (a : Nat × BinP.St) => (fun (b : List UInt8 × BinP.St) => (fun (c : Nat × BinP.St) => (fun (d : UInt8 × BinP.St) =>
        if d.1 = 0 then goA k (ahead.take a.1 ++ b.1) c.1 (BinP.pText 4096 d.2) l else if d.1 = 1 then goB k (ahead.take a.1 ++ b.1) c.1 d.2 l else none)
        (BinP.pByte c.2)) (BinP.pUint b.2)) (BinP.pText 256 a.2)) (BinP.pInt (ahead.length : Int) st) := by
  unfold goA goB
  rfl
theorem partF_go {k kk q : Nat} {ahead t : List UInt8} {x : UInt8} {st st1 st2 st3 st4 : BinP.St} {l : List It} (ha : BinP.pInt (ahead.length : Int) st = (kk, st1)) (hb : BinP.pText 256 st1 = (t, st2)) (hc : BinP.pUint st2 = (q, st3)) (hd : BinP.pByte st3 = (x, st4)) :
    partF (k + 1) ahead st l = if x = 0 then goA k (ahead.take kk ++ t) q (BinP.pText 4096 st4) l else if x = 1 then goB k (ahead.take kk ++ t) q st4 l else none := by
  rw [partF_succ, ha]
  simp only
  rw [hb]
  simp only
  rw [hc]
  simp only
  rw [hd]
end TabP
set_option maxRecDepth 100000 in
set_option maxHeartbeats 4000000 in
theorem tab_part (T : Nat) (A : Option Addr) (n c : Nat) (l : List It) (bk flt : Value) (s : List UInt8) (many : Nat) (w : World) (hT : w.heap[T]? = some (TabV A n c bk flt)) (hO : OwnI w (T + 1) A n c l) (hs : s.length ≤ 1000000000) (hm : many ≤ 10000) (hn : n ≤ 10000) (hq : ∀ x ∈ l, x.seq < m64) :
    Calls Try.prog 60 #[.pointer (some ⟨T, 0, none⟩), .string ⟨s.toArray⟩, .int .i64 (many : Int)] w fun e w' => ∃ A' n' c' l', e = .returned (.bool (TabP.partP s many l).isSome) ∧ w'.heap[T]? = some (TabV A' n' c' bk flt) ∧ OwnI w' (T + 1) A' n' c' l' ∧ (∀ l2, TabP.partP s many l = some l2 → l' = l2 ∧ n' = n + many) ∧ (∀ x ∈ l', x.seq < m64) ∧ But T A w w' ∧ (∀ k, blk A' = some k → (blk A = some k ∧ k < w.heap.size) ∨ w.heap.size ≤ k) := by
  have HT := Lib.hid hT
  have HO := Lib.hid hO
  have HQ := Lib.hid hq
  have hTl := lt_of_blk hT
  clear hT hO hq
  go_enter Try.func60, Try.ntmps60
  go_upto_region 2 with (first
    | (refine wpList_bytes8 (dst := some 12) w.heap.size s rfl rfl (Nat.le_refl _) (by unfold maxLen; omega) ?_; intro cap1 w1 hO1 hB1 hs1)
    | (go_at_call 57; ((refine (bin_read _ _ _ s w1.heap.size w1 rfl hO1.row (Nat.le_refl _) (by omega)).mono ?_); rintro e w2 ⟨g, rfl, hR, hG⟩)))
  have hG2 : Grew w w2 := Below.trans hB1 (hG.mono (Nat.le_of_lt hs1))
  have HP0 := Lib.hid (show PartI w w1.heap.size w2.heap.size g T A A n c l bk flt (some s) w2 from
    ⟨hR, (hG2.block T hTl).trans HT.out, Own.below_all HO.out hG2, fun k hk => .inl ⟨hk, (Own.lt HO.out k hk).2⟩, (But.refl T A w).grew hG2, Nat.le_of_lt hs1, Nat.le_refl _, hTl⟩)
  obtain ⟨lo, hlo⟩ : ∃ x, x = w1.heap.size := ⟨_, rfl⟩
  obtain ⟨hi, hhi⟩ : ∃ x, x = w2.heap.size := ⟨_, rfl⟩
  rw [← hlo, ← hhi] at HP0
  have hlh : w.heap.size ≤ hi := by rw [hhi]; exact hG2.size
  obtain ⟨PR, hPR⟩ : ∃ R, R = TabP.partF many [] (some s) l := ⟨_, rfl⟩
  have HPR := Lib.hid hPR
  clear hO1 hB1 hs1 hR hG hG2 hlo hhi hPR HT HO
  go_wp2_with fail
  go_loopw [8, 9, 10, 15] (fun ah _ _ i wy => ∃ (j : Nat) (ahead : List UInt8) (st : BinP.St) (A1 : Option Addr) (n1 c1 : Nat) (l1 : List It), j ≤ many ∧ i = .int .i64 (j : Int) ∧ ah = .string ⟨ahead.toArray⟩ ∧ ahead.length ≤ 256 * j ∧ PartI w lo hi g T A A1 n1 c1 l1 bk flt st wy ∧ n1 = n + j ∧ (∀ x ∈ l1, x.seq < m64) ∧ TabP.partF (many - j) ahead st l1 = PR) (fun _ _ _ i _ => many - (intOf i).toNat)
  case atStart => exact ⟨0, [], some s, A, n, c, l, Nat.zero_le _, rfl, rfl, Nat.zero_le _, HP0.out, rfl, HQ.out, HPR.out.symm⟩
  case round =>
    obtain ⟨j, ahead, st, A1, n1, c1, l1, hj, rfl, rfl, hah, hP, hn1, hq1, hpf⟩ := hrel
    have HP := Lib.hid hP
    have HQ1 := Lib.hid hq1
    have HPF := Lib.hid hpf
    clear hP hq1 hpf HP0 HQ
    have i0 : (0 : Int) ≤ (j : Int) := by omega
    have hsa := ba_size ahead
    by_cases hlt : j < many
    · have i1 : (j : Int) < (many : Int) := by omega
      obtain ⟨kk, st1, hA⟩ : ∃ a b, BinP.pInt (ahead.length : Int) st = (a, b) := ⟨_, _, rfl⟩
      obtain ⟨t, st2, hB⟩ : ∃ a b, BinP.pText 256 st1 = (a, b) := ⟨_, _, rfl⟩
      obtain ⟨q, st3, hC⟩ : ∃ a b, BinP.pUint st2 = (a, b) := ⟨_, _, rfl⟩
      obtain ⟨x, st4, hD⟩ : ∃ a b, BinP.pByte st3 = (a, b) := ⟨_, _, rfl⟩
      have hkk : kk ≤ ahead.length := by have := TabP.pInt_le (st := st) (most := (ahead.length : Int)) (by omega); rw [hA] at this; simp only at this; omega
      have htt : t.length ≤ 256 := by have := TabP.pText_le (st := st1) (most := 256) (by omega); rw [hB] at this; simp only at this; omega
      have hqq0 : q < m64 := by have := TabP.pUint_lt st2; rwa [hC] at this
      have HSTEP := Lib.hid (show _ = PR from (TabP.partF_go (k := many - j - 1) (l := l1) hA hB hC hD).symm.trans (by rw [show many - j - 1 + 1 = many - j from by omega]; exact HPF.out))
      have HRi := Lib.hid (fun (W : World) (h : PartI w lo hi g T A A1 n1 c1 l1 bk flt st W) => by have := rd_int g st (lo, hi) W (ahead.length : Int) (by simp [Lit.wf, IntKind.min, IntKind.max, IntKind.signed, IntKind.bits]; omega) h.rd; rw [hA] at this; exact this)
      have HRt := Lib.hid (fun (W : World) (h : PartI w lo hi g T A A1 n1 c1 l1 bk flt st1 W) => by have := rd_text g st1 (lo, hi) W 256 (by decide) h.rd; rw [hB] at this; exact this)
      have HRu := Lib.hid (fun (W : World) (h : PartI w lo hi g T A A1 n1 c1 l1 bk flt st2 W) => by have := rd_uint g st2 (lo, hi) W h.rd; rw [hC] at this; exact this)
      have HRb := Lib.hid (fun (W : World) (h : PartI w lo hi g T A A1 n1 c1 l1 bk flt st3 W) => by have := rd_byte g st3 (lo, hi) W h.rd; rw [hD] at this; exact this)
      clear hA hB hC hD HPF
      go_upto_region 6 with (go_at_call 58; ((refine (HRi.out _ HP.out).mono ?_); rintro e w3 ⟨rfl, hR, hG⟩; have HP3 := Lib.hid (HP.out.read hR hG); clear hR hG))
      have hcat : (ahead.take kk).length + t.length ≤ 1000000000 := by rw [List.length_take]; omega
      go_cut [10] from 21 to 30 (fun y wy => ∃ b : Nat, y = .pointer (some ⟨b, 0, none⟩) ∧ IBox wy b ⟨ahead.take kk ++ t, q, false, []⟩ ∧ PartI w lo hi g T A A1 n1 c1 l1 bk flt st3 wy ∧ hi ≤ b ∧ blk A1 ≠ some b)
      case first =>
        have HC := Lib.hid trivial
        refine wp_region_c (fun _ => True) (by kernel_rfl) trivial ?_
        (refine wpAnyC_free 0 (oi := ⟨some 21, _, _, _, _, _⟩) (v := ?_) rfl (by kernel_rfl) (by kernel_rfl) (by kernel_rfl) HC.out rfl (fun x => ?_) ?_; rotate_left; (focus (simp [go_sem]; (try go_ints); first | done | (with_reducible rfl))); (simp only [Act.put, List.setIfInBounds_toArray, List.set_cons_succ, List.set_cons_zero]))
        (refine wpAnyC_free 1 (oi := ⟨some 22, _, _, _, _, _⟩) (v := ?_) rfl (by kernel_rfl) (by kernel_rfl) (by kernel_rfl) HC.out rfl (fun x => ?_) ?_; rotate_left; (focus (simp [go_sem]; (try go_ints); first | done | (with_reducible rfl))); (simp only [Act.put, List.setIfInBounds_toArray, List.set_cons_succ, List.set_cons_zero]))
        refine wpAnyC_free 2 (oi := ⟨some 23, _, _, _, _, _⟩) (.string ⟨(ahead.take kk).toArray⟩) rfl (by kernel_rfl) (by kernel_rfl) (by kernel_rfl) HC.out rfl (fun V => exec_strTo (.tmp 21) (.tmp 22) rfl rfl rfl hkk) ?_
        (simp only [Act.put, List.setIfInBounds_toArray, List.set_cons_succ, List.set_cons_zero])
        (refine wpAnyC_free 3 (oi := ⟨some 24, _, _, _, _, _⟩) (v := ?_) rfl (by kernel_rfl) (by kernel_rfl) (by kernel_rfl) HC.out rfl (fun x => ?_) ?_; rotate_left; (focus (simp [go_sem]; (try go_ints); first | done | (with_reducible rfl))); (simp only [Act.put, List.setIfInBounds_toArray, List.set_cons_succ, List.set_cons_zero]))
        (refine wpAnyC_free 6 (oi := ⟨some 27, _, _, _, _, _⟩) (v := ?_) rfl (by kernel_rfl) (by kernel_rfl) (by kernel_rfl) HC.out rfl (fun x => ?_) ?_; rotate_left; (focus (simp [go_sem]; (try go_ints); first | done | (with_reducible rfl))); (simp only [Act.put, List.setIfInBounds_toArray, List.set_cons_succ, List.set_cons_zero]))
        change wpAnyC _ _ _ _ _ _ _ _ (World.drewN w3 1)
        have HP := Lib.hid (HP3.out.grew (Grew.drewN w3 1))
        obtain ⟨wd, hwd⟩ : ∃ W, W = World.drewN w3 1 := ⟨_, rfl⟩
        rw [← hwd] at HP ⊢
        clear hwd HP3
        refine wpAnyC_fork 4 9 (oi := ⟨some 25, _, _, _, _, _⟩) (oj := ⟨some 10, _, _, _, _, _⟩) rfl rfl (by kernel_rfl) ?_ ?_
        · refine cOp_list 4 (o := ⟨some 25, _, _, _, _, _⟩) rfl rfl ?_
          refine wpList_callR rfl _ _ (fun v w' => v = .string ⟨t.toArray⟩ ∧ PartI w lo hi g T A A1 n1 c1 l1 bk flt st2 w') (by simp [go_sem]) ((HRt.out _ HP.out).mono fun e w' ⟨h1, h2, h3⟩ => ⟨_, h1, rfl, HP.out.read h2 h3⟩) ?_
          rintro v w4 ⟨rfl, hP⟩
          have HP := Lib.hid hP
          clear hP
          (simp only [Act.put, List.setIfInBounds_toArray, List.set_cons_succ, List.set_cons_zero])
          refine wpList_nil ⟨rfl, trivial, ?_⟩
          refine wpAnyC_free 5 (oi := ⟨some 26, _, _, _, _, _⟩) (.string ⟨(ahead.take kk ++ t).toArray⟩) rfl (by kernel_rfl) (by kernel_rfl) (by kernel_rfl) HC.out rfl (fun V => exec_cat (.tmp 23) (.tmp 25) rfl rfl rfl hcat) ?_
          (simp only [Act.put, List.setIfInBounds_toArray, List.set_cons_succ, List.set_cons_zero])
          refine wpAnyC_fork 7 9 (oi := ⟨some 28, _, _, _, _, _⟩) (oj := ⟨some 10, _, _, _, _, _⟩) rfl rfl (by kernel_rfl) ?_ ?_
          · refine cOp_list 7 (o := ⟨some 28, _, _, _, _, _⟩) rfl rfl ?_
            refine wpList_callR rfl _ _ (fun v w' => v = .int .u64 (q : Int) ∧ PartI w lo hi g T A A1 n1 c1 l1 bk flt st3 w') (by simp [go_sem]) ((HRu.out _ HP.out).mono fun e w' ⟨h1, h2, h3⟩ => ⟨_, h1, rfl, HP.out.read h2 h3⟩) ?_
            rintro v w5 ⟨rfl, hP⟩
            have HP := Lib.hid hP
            clear hP
            (simp only [Act.put, List.setIfInBounds_toArray, List.set_cons_succ, List.set_cons_zero])
            refine wpList_nil ⟨rfl, trivial, ?_⟩
            (refine wpAnyC_free 8 (oi := ⟨some 29, _, _, _, _, _⟩) (v := ?_) rfl (by kernel_rfl) (by kernel_rfl) (by kernel_rfl) HC.out rfl (fun x => ?_) ?_; rotate_left; (focus (simp [go_sem]; (try go_ints); first | done | (with_reducible rfl))); (simp only [Act.put, List.setIfInBounds_toArray, List.set_cons_succ, List.set_cons_zero]))
            refine wpAnyC_step 9 (o := ⟨some 10, _, _, _, _, _⟩) rfl (by kernel_rfl) rfl ?_
            refine wpList_value (o := ⟨some 10, _, _, _, _, _⟩) (v := .pointer (some ⟨w5.heap.size, 0, none⟩)) (w' := w5.alloc (.cells #[.string ⟨#[]⟩, .int .u64 0, .bool false, .string ⟨#[]⟩] 29)) rfl (by kernel_rfl) ?_
            obtain ⟨hP, hX, hbh, hbn⟩ := HP.out.box0
            obtain ⟨b, hb⟩ : ∃ b, b = w5.heap.size := ⟨_, rfl⟩
            rw [← hb] at hX hbh hbn ⊢
            generalize w5.alloc (.cells #[.string ⟨#[]⟩, .int .u64 0, .bool false, .string ⟨#[]⟩] 29) = wb at hP hX ⊢
            have HP := Lib.hid hP
            have HBX := Lib.hid hX
            have HBH := Lib.hid hbh
            have HBN := Lib.hid hbn
            clear hP hX hbh hbn hb
            (simp only [Act.put, List.setIfInBounds_toArray, List.set_cons_succ, List.set_cons_zero])
            refine wpList_nil ⟨rfl, trivial, ?_⟩
            refine wpAnyC_step 10 (o := ⟨none, _, _, _, _, _⟩) rfl (by kernel_rfl) rfl ?_
            refine wpList_storeI rfl (.tmp 10) (.tmp 29) rfl b ItP.none0 ⟨ahead.take kk ++ t, q, false, []⟩ rfl rfl HBX.out ?_
            (simp only [Act.put])
            refine wpList_nil ⟨rfl, trivial, ?_⟩
            refine wpAnyC_done (by kernel_rfl) (fun _ => ?_) _
            go_wp2_with fail
            go_meet
            case rel => exact ⟨b, rfl, HBX.out.set _, HP.out.box HBH.out HBN.out (grown_setI _ b _), HBH.out, HBN.out⟩
          · refine cOp_list 9 (o := ⟨some 10, _, _, _, _, _⟩) rfl rfl ?_
            refine wpList_value (o := ⟨some 10, _, _, _, _, _⟩) (v := .pointer (some ⟨w4.heap.size, 0, none⟩)) (w' := w4.alloc (.cells #[.string ⟨#[]⟩, .int .u64 0, .bool false, .string ⟨#[]⟩] 29)) rfl (by kernel_rfl) ?_
            obtain ⟨hP, hX, hbh, hbn⟩ := HP.out.box0
            obtain ⟨b, hb⟩ : ∃ b, b = w4.heap.size := ⟨_, rfl⟩
            rw [← hb] at hX hbh hbn ⊢
            generalize w4.alloc (.cells #[.string ⟨#[]⟩, .int .u64 0, .bool false, .string ⟨#[]⟩] 29) = wb at hP hX ⊢
            have HP := Lib.hid hP
            have HBX := Lib.hid hX
            have HBH := Lib.hid hbh
            have HBN := Lib.hid hbn
            clear hP hX hbh hbn hb
            (simp only [Act.put, List.setIfInBounds_toArray, List.set_cons_succ, List.set_cons_zero])
            refine wpList_nil ⟨rfl, trivial, ?_⟩
            refine wpAnyC_step 7 (o := ⟨some 28, _, _, _, _, _⟩) rfl (by kernel_rfl) rfl ?_
            refine wpList_callR rfl _ _ (fun v w' => v = .int .u64 (q : Int) ∧ PartI w lo hi g T A A1 n1 c1 l1 bk flt st3 w' ∧ IBox w' b ItP.none0) (by simp [go_sem]) ((HRu.out _ HP.out).mono fun e w' ⟨h1, h2, h3⟩ => ⟨_, h1, rfl, HP.out.read h2 h3, HP.out.boxRead HBH.out HBX.out h3⟩) ?_
            rintro v w5 ⟨rfl, hP, hX⟩
            have HP := Lib.hid hP
            have HBX := Lib.hid hX
            clear hP hX
            (simp only [Act.put, List.setIfInBounds_toArray, List.set_cons_succ, List.set_cons_zero])
            refine wpList_nil ⟨rfl, trivial, ?_⟩
            (refine wpAnyC_free 8 (oi := ⟨some 29, _, _, _, _, _⟩) (v := ?_) rfl (by kernel_rfl) (by kernel_rfl) (by kernel_rfl) HC.out rfl (fun x => ?_) ?_; rotate_left; (focus (simp [go_sem]; (try go_ints); first | done | (with_reducible rfl))); (simp only [Act.put, List.setIfInBounds_toArray, List.set_cons_succ, List.set_cons_zero]))
            refine wpAnyC_step 10 (o := ⟨none, _, _, _, _, _⟩) rfl (by kernel_rfl) rfl ?_
            refine wpList_storeI rfl (.tmp 10) (.tmp 29) rfl b ItP.none0 ⟨ahead.take kk ++ t, q, false, []⟩ rfl rfl HBX.out ?_
            (simp only [Act.put])
            refine wpList_nil ⟨rfl, trivial, ?_⟩
            refine wpAnyC_done (by kernel_rfl) (fun _ => ?_) _
            go_wp2_with fail
            go_meet
            case rel => exact ⟨b, rfl, HBX.out.set _, HP.out.box HBH.out HBN.out (grown_setI _ b _), HBH.out, HBN.out⟩
        · refine cOp_list 9 (o := ⟨some 10, _, _, _, _, _⟩) rfl rfl ?_
          refine wpList_value (o := ⟨some 10, _, _, _, _, _⟩) (v := .pointer (some ⟨wd.heap.size, 0, none⟩)) (w' := wd.alloc (.cells #[.string ⟨#[]⟩, .int .u64 0, .bool false, .string ⟨#[]⟩] 29)) rfl (by kernel_rfl) ?_
          obtain ⟨hP, hX, hbh, hbn⟩ := HP.out.box0
          obtain ⟨b, hb⟩ : ∃ b, b = wd.heap.size := ⟨_, rfl⟩
          rw [← hb] at hX hbh hbn ⊢
          generalize wd.alloc (.cells #[.string ⟨#[]⟩, .int .u64 0, .bool false, .string ⟨#[]⟩] 29) = wb at hP hX ⊢
          have HP := Lib.hid hP
          have HBX := Lib.hid hX
          have HBH := Lib.hid hbh
          have HBN := Lib.hid hbn
          clear hP hX hbh hbn hb
          (simp only [Act.put, List.setIfInBounds_toArray, List.set_cons_succ, List.set_cons_zero])
          refine wpList_nil ⟨rfl, trivial, ?_⟩
          refine wpAnyC_step 4 (o := ⟨some 25, _, _, _, _, _⟩) rfl (by kernel_rfl) rfl ?_
          refine wpList_callR rfl _ _ (fun v w' => v = .string ⟨t.toArray⟩ ∧ PartI w lo hi g T A A1 n1 c1 l1 bk flt st2 w' ∧ IBox w' b ItP.none0) (by simp [go_sem]) ((HRt.out _ HP.out).mono fun e w' ⟨h1, h2, h3⟩ => ⟨_, h1, rfl, HP.out.read h2 h3, HP.out.boxRead HBH.out HBX.out h3⟩) ?_
          rintro v w4 ⟨rfl, hP, hX⟩
          have HP := Lib.hid hP
          have HBX := Lib.hid hX
          clear hP hX
          (simp only [Act.put, List.setIfInBounds_toArray, List.set_cons_succ, List.set_cons_zero])
          refine wpList_nil ⟨rfl, trivial, ?_⟩
          refine wpAnyC_free 5 (oi := ⟨some 26, _, _, _, _, _⟩) (.string ⟨(ahead.take kk ++ t).toArray⟩) rfl (by kernel_rfl) (by kernel_rfl) (by kernel_rfl) HC.out rfl (fun V => exec_cat (.tmp 23) (.tmp 25) rfl rfl rfl hcat) ?_
          (simp only [Act.put, List.setIfInBounds_toArray, List.set_cons_succ, List.set_cons_zero])
          refine wpAnyC_step 7 (o := ⟨some 28, _, _, _, _, _⟩) rfl (by kernel_rfl) rfl ?_
          refine wpList_callR rfl _ _ (fun v w' => v = .int .u64 (q : Int) ∧ PartI w lo hi g T A A1 n1 c1 l1 bk flt st3 w' ∧ IBox w' b ItP.none0) (by simp [go_sem]) ((HRu.out _ HP.out).mono fun e w' ⟨h1, h2, h3⟩ => ⟨_, h1, rfl, HP.out.read h2 h3, HP.out.boxRead HBH.out HBX.out h3⟩) ?_
          rintro v w5 ⟨rfl, hP, hX⟩
          have HP := Lib.hid hP
          have HBX := Lib.hid hX
          clear hP hX
          (simp only [Act.put, List.setIfInBounds_toArray, List.set_cons_succ, List.set_cons_zero])
          refine wpList_nil ⟨rfl, trivial, ?_⟩
          (refine wpAnyC_free 8 (oi := ⟨some 29, _, _, _, _, _⟩) (v := ?_) rfl (by kernel_rfl) (by kernel_rfl) (by kernel_rfl) HC.out rfl (fun x => ?_) ?_; rotate_left; (focus (simp [go_sem]; (try go_ints); first | done | (with_reducible rfl))); (simp only [Act.put, List.setIfInBounds_toArray, List.set_cons_succ, List.set_cons_zero]))
          refine wpAnyC_step 10 (o := ⟨none, _, _, _, _, _⟩) rfl (by kernel_rfl) rfl ?_
          refine wpList_storeI rfl (.tmp 10) (.tmp 29) rfl b ItP.none0 ⟨ahead.take kk ++ t, q, false, []⟩ rfl rfl HBX.out ?_
          (simp only [Act.put])
          refine wpList_nil ⟨rfl, trivial, ?_⟩
          refine wpAnyC_done (by kernel_rfl) (fun _ => ?_) _
          go_wp2_with fail
          go_meet
          case rel => exact ⟨b, rfl, HBX.out.set _, HP.out.box HBH.out HBN.out (grown_setI _ b _), HBH.out, HBN.out⟩
      case rest =>
      obtain ⟨b, rfl, hX, hP, hbh, hbn⟩ := hcut
      have HX := Lib.hid hX
      have HP := Lib.hid hP
      have HBH := Lib.hid hbh
      have HBN := Lib.hid hbn
      clear hX hP hbh hbn HP3 HRi HRt HRu
      by_cases hx0 : x = 0
      · have t0 : ((x.toNat : Int) == 0) = true := by rw [hx0]; rfl
        have HST0 := Lib.hid (show TabP.goA (many - j - 1) (ahead.take kk ++ t) q (BinP.pText 4096 st4) l1 = PR by have := HSTEP.out; rwa [if_pos hx0] at this)
        clear hx0
        obtain ⟨v, st5, hV⟩ : ∃ a b, BinP.pText 4096 st4 = (a, b) := ⟨_, _, rfl⟩
        have HRv := Lib.hid (fun (W : World) (h : PartI w lo hi g T A A1 n1 c1 l1 bk flt st4 W) => by have := rd_text g st4 (lo, hi) W 4096 (by decide) h.rd; rw [hV] at this; exact this)
        rw [hV] at HST0
        clear hV HSTEP
        go_upto_region 13 with (first
          | (go_at_call 75; ((refine (HRb.out _ HP.out).mono ?_); rintro e w6 ⟨rfl, hR, hG⟩; have HX := Lib.hid (HP.out.boxRead HBH.out HX.out hG); have HP := Lib.hid (HP.out.read hR hG); clear hR hG))
          | (go_at_call 61; ((refine (HRv.out _ HP.out).mono ?_); rintro e w7 ⟨rfl, hR, hG⟩; have HX := Lib.hid (HP.out.boxRead HBH.out HX.out hG); have HP := Lib.hid (HP.out.read hR hG); have f3 := HX.out.frozen 3; (obtain ⟨y0, y1, y2, y3⟩ := range_cells HX.out.range); clear hR hG)))
        obtain ⟨w8, hw8⟩ : ∃ W, W = w7.setCell ⟨b, 3, none⟩ (.string ⟨v.toArray⟩) := ⟨_, rfl⟩
        obtain ⟨X, hXd⟩ : ∃ X : It, X = ⟨ahead.take kk ++ t, q, false, v⟩ := ⟨_, rfl⟩
        have HX := Lib.hid (show IBox w8 b X by rw [hw8, hXd]; exact HX.out.setVal v)
        have HP := Lib.hid (show PartI w lo hi g T A A1 n1 c1 l1 bk flt st5 w8 by rw [hw8]; exact HP.out.box HBH.out HBN.out (grown_setCells b [.string ⟨v.toArray⟩] 3 w7))
        have HXK := Lib.hid (show X.key = ahead.take kk ++ t by rw [hXd])
        have HXQ := Lib.hid (show X.seq < m64 by rw [hXd]; exact hqq0)
        rw [← hw8]
        clear hw8 y0 y1 y2 y3 f3 HRv HRb
        rcases st5 with _ | r
        · clear hXd
          have HNo := Lib.hid (show TabP.partP s many l = none by unfold TabP.partP; rw [if_neg (by omega), ← HPR.out, ← HST0.out]; rfl)
          have HRe := Lib.hid (fun (W : World) (h : PartI w lo hi g T A A1 n1 c1 l1 bk flt none W) => rd_err g none (lo, hi) W h.rd)
          go_wp2_with (go_at_call 59; ((refine (HRe.out _ HP.out).mono ?_); rintro e wE ⟨rfl, rfl⟩; rw [errN_none]))
          go_ret
          exact ⟨A1, n1, c1, l1, by rw [HNo.out]; rfl, HP.out.obj, HP.out.own, (fun l2 e => by rw [HNo.out] at e; cases e), HQ1.out, HP.out.but, fun k hk => (HP.out.row k hk).imp_right fun h => by omega⟩
        · have HST := Lib.hid (show TabP.partF (many - j - 1) X.key (some r) (l1 ++ [X]) = PR by rw [hXd]; exact HST0.out)
          clear hXd HST0
          have hXk : X.key.length ≤ 256 * (j + 1) := by rw [HXK.out, List.length_append, List.length_take]; omega
          have HQ2 := Lib.hid (show ∀ y ∈ l1 ++ [X], y.seq < m64 from fun y hy => by
            rcases List.mem_append.1 hy with hy | hy
            · exact HQ1.out y hy
            · simp at hy
              rw [hy]
              exact HXQ.out)
          have HRe := Lib.hid (fun (W : World) (h : PartI w lo hi g T A A1 n1 c1 l1 bk flt (some r) W) => rd_err g (some r) (lo, hi) W h.rd)
          go_upto_region 15 with (go_at_call 59; ((refine (HRe.out _ HP.out).mono ?_); rintro e wE ⟨rfl, rfl⟩; rw [errN_some]))
          have HC := Lib.hid (show IBox (World.drewN w8 1) b X from HX.out)
          refine wp_region_c (fun V => IBox V b X) (by kernel_rfl) HC.out ?_
          (refine wpAnyC_free 0 (oi := ⟨some 43, _, _, _, _, _⟩) (v := ?_) rfl (by kernel_rfl) (by kernel_rfl) (by kernel_rfl) HC.out rfl (fun x => ?_) ?_; rotate_left; (focus (simp [go_sem]; (try go_ints); first | done | (with_reducible rfl))); (simp only [Act.put, List.setIfInBounds_toArray, List.set_cons_succ, List.set_cons_zero]))
          (refine wpAnyC_free 1 (oi := ⟨some 44, _, _, _, _, _⟩) (v := ?_) rfl (by kernel_rfl) (by kernel_rfl) (by kernel_rfl) HC.out rfl (fun x => ?_) ?_; rotate_left; (focus (simp [go_sem]; (try go_ints); first | done | (with_reducible rfl))); (simp only [Act.put, List.setIfInBounds_toArray, List.set_cons_succ, List.set_cons_zero]))
          (refine wpAnyC_free 2 (oi := ⟨some 45, _, _, _, _, _⟩) (v := ?_) rfl (by kernel_rfl) (by kernel_rfl) (by kernel_rfl) HC.out rfl (fun x => ?_) ?_; rotate_left; (focus (simp [go_sem]; (try go_ints); first | done | (with_reducible rfl))); (simp only [Act.put, List.setIfInBounds_toArray, List.set_cons_succ, List.set_cons_zero]))
          (refine wpAnyC_free 3 (oi := ⟨some 46, _, _, _, _, _⟩) (v := ?_) rfl (by kernel_rfl) (by kernel_rfl) (by kernel_rfl) HC.out rfl (fun x => ?_) ?_; rotate_left; (focus (simp [go_sem]; (try go_ints); first | done | (with_reducible rfl))); (simp only [Act.put, List.setIfInBounds_toArray, List.set_cons_succ, List.set_cons_zero]))
          refine wpAnyC_free 5 (oi := ⟨some 48, _, _, _, _, _⟩) (iv X) rfl (by kernel_rfl) (by kernel_rfl) (by kernel_rfl) HC.out rfl (fun V => exec_loadI (.tmp 10) rfl rfl V.2.range) ?_
          (simp only [Act.put, List.setIfInBounds_toArray, List.set_cons_succ, List.set_cons_zero])
          change wpAnyC _ _ _ _ _ _ _ _ (World.drewN w8 1)
          obtain ⟨wz, hwz⟩ : ∃ W, W = World.drewN w8 1 := ⟨_, rfl⟩
          have HPz := Lib.hid (show PartI w lo hi g T A A1 n1 c1 l1 bk flt (some r) wz by rw [hwz]; exact HP.out.grew (Grew.drewN _ _))
          have HXz := Lib.hid (show IBox wz b X by rw [hwz]; exact HX.out)
          rw [← hwz]
          clear hwz HP HX
          have hTz : T < wz.heap.size := lt_of_blk HPz.out.obj
          have hhz := HPz.out.hi_
          have hbT : hi ≤ b := HBH.out
          refine wpAnyC_fork 4 6 (oi := ⟨some 47, _, _, _, _, _⟩) (oj := ⟨some 49, _, _, _, _, _⟩) rfl rfl (by kernel_rfl) ?_ ?_
          · refine cOp_list 4 (o := ⟨some 47, _, _, _, _, _⟩) rfl rfl ?_
            refine wpList_value (o := ⟨some 47, _, _, _, _, _⟩) rfl (exec_loadIs (.tmp 46) rfl rfl (tabv_cell HPz.out.obj).1) ?_
            (simp only [Act.put, List.setIfInBounds_toArray, List.set_cons_succ, List.set_cons_zero])
            refine wpList_nil ⟨rfl, HXz.out, ?_⟩
            refine wpAnyC_step 6 (o := ⟨some 49, _, _, _, _, _⟩) rfl (by kernel_rfl) rfl ?_
            refine wpList_build1 (.tmp 48) X rfl rfl rfl ?_
            have HR2 := Lib.hid (IRow.one wz X 29 (0, 0))
            have HP2 := Lib.hid (HPz.out.grew (grew_new wz (.cells #[.string ⟨X.key.toArray⟩, .int .u64 (X.seq : Int), .bool X.gone, .string ⟨X.val.toArray⟩] 29)))
            have HX2 := Lib.hid (HXz.out.alloc (.cells #[.string ⟨X.key.toArray⟩, .int .u64 (X.seq : Int), .bool X.gone, .string ⟨X.val.toArray⟩] 29))
            have hz2 : T < (wz.alloc (.cells #[.string ⟨X.key.toArray⟩, .int .u64 (X.seq : Int), .bool X.gone, .string ⟨X.val.toArray⟩] 29)).heap.size := by simp; omega
            generalize wz.alloc (.cells #[.string ⟨X.key.toArray⟩, .int .u64 (X.seq : Int), .bool X.gone, .string ⟨X.val.toArray⟩] 29) = w2 at HR2 HP2 HX2 hz2 ⊢
            (simp only [Act.put, List.setIfInBounds_toArray, List.set_cons_succ, List.set_cons_zero])
            refine wpList_nil ⟨rfl, HX2.out, ?_⟩
            refine wpAnyC_step 7 (o := ⟨some 50, _, _, _, _, _⟩) rfl (by kernel_rfl) rfl ?_
            refine wpList_appI rfl (.tmp 47) (.tmp 49) rfl (T + 1) A1 n1 c1 l1 rfl HP2.out.own (some ⟨wz.heap.size, 0, none⟩) 1 1 (wz.heap.size + 1) [X] rfl rfl HR2.out (by omega) (by have := HP2.out.hi_; omega) ?_
            intro A5 cap5 w5 hO5 hg5 hB5 hor5
            have hb2 : b < w2.heap.size := HX2.out.lt
            have HC5 := Lib.hid (show IBox w5 b X from HX2.out.keep (hg5.block b hb2 (fun e => HBN.out e.symm)))
            have HOb := Lib.hid (tabv_cell (show w5.heap[T]? = some (TabV A1 n1 c1 bk flt) from (hg5.block T (by omega) (fun e => by have := (Own.lt HP2.out.own T e.symm).1; omega)).trans HP2.out.obj))
            have HPA := Lib.hid (PartI.add HP2.out hO5 hg5 hor5)
            clear hO5 hg5 hB5 hor5
            (simp only [Act.put, List.setIfInBounds_toArray, List.set_cons_succ, List.set_cons_zero])
            refine wpList_nil ⟨rfl, HC5.out, ?_⟩
            have HC := HC5
            (refine wpAnyC_free 8 (oi := ⟨some 51, _, _, _, _, _⟩) (v := ?_) rfl (by kernel_rfl) (by kernel_rfl) (by kernel_rfl) HC.out rfl (fun x => ?_) ?_; rotate_left; (focus (simp [go_sem]; (try go_ints); first | done | (with_reducible rfl))); (simp only [Act.put, List.setIfInBounds_toArray, List.set_cons_succ, List.set_cons_zero]))
            (refine wpAnyC_free 9 (oi := ⟨some 52, _, _, _, _, _⟩) (v := ?_) rfl (by kernel_rfl) (by kernel_rfl) (by kernel_rfl) HC.out rfl (fun x => ?_) ?_; rotate_left; (focus (simp [go_sem]; (try go_ints); first | done | (with_reducible rfl))); (simp only [Act.put, List.setIfInBounds_toArray, List.set_cons_succ, List.set_cons_zero]))
            refine wpAnyC_step 10 (o := ⟨none, _, _, _, _, _⟩) rfl (by kernel_rfl) rfl ?_
            refine wpList_storeIs rfl (.tmp 52) (.tmp 50) rfl T 0 (n1 + 1) cap5 A5 (.slice A1 n1 c1) rfl rfl HOb.out.1 (HOb.out.2.2.2 0) ?_
            have HC6 := Lib.hid (show IBox (w5.setCell ⟨T, 0, none⟩ (.slice A5 (n1 + 1) cap5)) b X from HC5.out.keep (Below.heap_setCell _ _ _ _ (fun e => by simp at e; omega)))
            generalize w5.setCell ⟨T, 0, none⟩ (.slice A5 (n1 + 1) cap5) = w6' at HPA HC6 ⊢
            (simp only [Act.put])
            refine wpList_nil ⟨rfl, HC6.out, ?_⟩
            refine wpAnyC_done (by kernel_rfl) (fun _ => ?_) _
            obtain ⟨z0, z1, z2, z3⟩ := range_cells HC6.out.range
            go_wp2_with fail
            go_roundw
            case rel => exact ⟨j + 1, X.key, some r, A5, n1 + 1, cap5, l1 ++ [X], hlt, by go_num, rfl, by omega, HPA.out, by omega, HQ2.out, by rw [show many - (j + 1) = many - j - 1 from by omega]; exact HST.out⟩
            case measure => simp [intOf]; omega
          · refine cOp_list 6 (o := ⟨some 49, _, _, _, _, _⟩) rfl rfl ?_
            refine wpList_build1 (.tmp 48) X rfl rfl rfl ?_
            have HR2 := Lib.hid (IRow.one wz X 29 (0, 0))
            have HP2 := Lib.hid (HPz.out.grew (grew_new wz (.cells #[.string ⟨X.key.toArray⟩, .int .u64 (X.seq : Int), .bool X.gone, .string ⟨X.val.toArray⟩] 29)))
            have HX2 := Lib.hid (HXz.out.alloc (.cells #[.string ⟨X.key.toArray⟩, .int .u64 (X.seq : Int), .bool X.gone, .string ⟨X.val.toArray⟩] 29))
            have hz2 : T < (wz.alloc (.cells #[.string ⟨X.key.toArray⟩, .int .u64 (X.seq : Int), .bool X.gone, .string ⟨X.val.toArray⟩] 29)).heap.size := by simp; omega
            generalize wz.alloc (.cells #[.string ⟨X.key.toArray⟩, .int .u64 (X.seq : Int), .bool X.gone, .string ⟨X.val.toArray⟩] 29) = w2 at HR2 HP2 HX2 hz2 ⊢
            (simp only [Act.put, List.setIfInBounds_toArray, List.set_cons_succ, List.set_cons_zero])
            refine wpList_nil ⟨rfl, HX2.out, ?_⟩
            refine wpAnyC_step 4 (o := ⟨some 47, _, _, _, _, _⟩) rfl (by kernel_rfl) rfl ?_
            refine wpList_value (o := ⟨some 47, _, _, _, _, _⟩) rfl (exec_loadIs (.tmp 46) rfl rfl (tabv_cell HP2.out.obj).1) ?_
            (simp only [Act.put, List.setIfInBounds_toArray, List.set_cons_succ, List.set_cons_zero])
            refine wpList_nil ⟨rfl, HX2.out, ?_⟩
            refine wpAnyC_step 7 (o := ⟨some 50, _, _, _, _, _⟩) rfl (by kernel_rfl) rfl ?_
            refine wpList_appI rfl (.tmp 47) (.tmp 49) rfl (T + 1) A1 n1 c1 l1 rfl HP2.out.own (some ⟨wz.heap.size, 0, none⟩) 1 1 (wz.heap.size + 1) [X] rfl rfl HR2.out (by omega) (by have := HP2.out.hi_; omega) ?_
            intro A5 cap5 w5 hO5 hg5 hB5 hor5
            have hb2 : b < w2.heap.size := HX2.out.lt
            have HC5 := Lib.hid (show IBox w5 b X from HX2.out.keep (hg5.block b hb2 (fun e => HBN.out e.symm)))
            have HOb := Lib.hid (tabv_cell (show w5.heap[T]? = some (TabV A1 n1 c1 bk flt) from (hg5.block T (by omega) (fun e => by have := (Own.lt HP2.out.own T e.symm).1; omega)).trans HP2.out.obj))
            have HPA := Lib.hid (PartI.add HP2.out hO5 hg5 hor5)
            clear hO5 hg5 hB5 hor5
            (simp only [Act.put, List.setIfInBounds_toArray, List.set_cons_succ, List.set_cons_zero])
            refine wpList_nil ⟨rfl, HC5.out, ?_⟩
            have HC := HC5
            (refine wpAnyC_free 8 (oi := ⟨some 51, _, _, _, _, _⟩) (v := ?_) rfl (by kernel_rfl) (by kernel_rfl) (by kernel_rfl) HC.out rfl (fun x => ?_) ?_; rotate_left; (focus (simp [go_sem]; (try go_ints); first | done | (with_reducible rfl))); (simp only [Act.put, List.setIfInBounds_toArray, List.set_cons_succ, List.set_cons_zero]))
            (refine wpAnyC_free 9 (oi := ⟨some 52, _, _, _, _, _⟩) (v := ?_) rfl (by kernel_rfl) (by kernel_rfl) (by kernel_rfl) HC.out rfl (fun x => ?_) ?_; rotate_left; (focus (simp [go_sem]; (try go_ints); first | done | (with_reducible rfl))); (simp only [Act.put, List.setIfInBounds_toArray, List.set_cons_succ, List.set_cons_zero]))
            refine wpAnyC_step 10 (o := ⟨none, _, _, _, _, _⟩) rfl (by kernel_rfl) rfl ?_
            refine wpList_storeIs rfl (.tmp 52) (.tmp 50) rfl T 0 (n1 + 1) cap5 A5 (.slice A1 n1 c1) rfl rfl HOb.out.1 (HOb.out.2.2.2 0) ?_
            have HC6 := Lib.hid (show IBox (w5.setCell ⟨T, 0, none⟩ (.slice A5 (n1 + 1) cap5)) b X from HC5.out.keep (Below.heap_setCell _ _ _ _ (fun e => by simp at e; omega)))
            generalize w5.setCell ⟨T, 0, none⟩ (.slice A5 (n1 + 1) cap5) = w6' at HPA HC6 ⊢
            (simp only [Act.put])
            refine wpList_nil ⟨rfl, HC6.out, ?_⟩
            refine wpAnyC_done (by kernel_rfl) (fun _ => ?_) _
            obtain ⟨z0, z1, z2, z3⟩ := range_cells HC6.out.range
            go_wp2_with fail
            go_roundw
            case rel => exact ⟨j + 1, X.key, some r, A5, n1 + 1, cap5, l1 ++ [X], hlt, by go_num, rfl, by omega, HPA.out, by omega, HQ2.out, by rw [show many - (j + 1) = many - j - 1 from by omega]; exact HST.out⟩
            case measure => simp [intOf]; omega
      · have HSTEP := Lib.hid (show (if x = 1 then TabP.goB (many - j - 1) (ahead.take kk ++ t) q st4 l1 else none) = PR by have := HSTEP.out; rwa [if_neg hx0] at this)
        have t0 : ((x.toNat : Int) == 0) = false := by
          rw [beq_eq_false_iff_ne]
          intro e
          exact hx0 (UInt8.toNat_inj.1 (by have : x.toNat = 0 := by omega
                                           rw [this]; rfl))
        by_cases hx1 : x = 1
        · have t1 : ((x.toNat : Int) == 1) = true := by rw [hx1]; rfl
          have HST0 := Lib.hid (show TabP.goB (many - j - 1) (ahead.take kk ++ t) q st4 l1 = PR by have := HSTEP.out; rwa [if_pos hx1] at this)
          clear hx0 hx1 HSTEP
          go_upto_region 13 with (go_at_call 75; ((refine (HRb.out _ HP.out).mono ?_); rintro e w6 ⟨rfl, hR, hG⟩; have HX := Lib.hid (HP.out.boxRead HBH.out HX.out hG); have HP := Lib.hid (HP.out.read hR hG); have f2 := HX.out.frozen 2; (obtain ⟨y0, y1, y2, y3⟩ := range_cells HX.out.range); clear hR hG))
          obtain ⟨w8, hw8⟩ : ∃ W, W = w6.setCell ⟨b, 2, none⟩ (.bool true) := ⟨_, rfl⟩
          obtain ⟨X, hXd⟩ : ∃ X : It, X = ⟨ahead.take kk ++ t, q, true, []⟩ := ⟨_, rfl⟩
          have HX := Lib.hid (show IBox w8 b X by rw [hw8, hXd]; exact HX.out.setGone)
          have HP := Lib.hid (show PartI w lo hi g T A A1 n1 c1 l1 bk flt st4 w8 by rw [hw8]; exact HP.out.box HBH.out HBN.out (grown_setCells b [.bool true] 2 w6))
          have HXK := Lib.hid (show X.key = ahead.take kk ++ t by rw [hXd])
          have HXQ := Lib.hid (show X.seq < m64 by rw [hXd]; exact hqq0)
          rw [← hw8]
          clear hw8 y0 y1 y2 y3 f2 HRb
          rcases st4 with _ | r
          · clear hXd
            have HNo := Lib.hid (show TabP.partP s many l = none by unfold TabP.partP; rw [if_neg (by omega), ← HPR.out, ← HST0.out]; rfl)
            have HRe := Lib.hid (fun (W : World) (h : PartI w lo hi g T A A1 n1 c1 l1 bk flt none W) => rd_err g none (lo, hi) W h.rd)
            go_wp2_with (go_at_call 59; ((refine (HRe.out _ HP.out).mono ?_); rintro e wE ⟨rfl, rfl⟩; rw [errN_none]))
            go_ret
            exact ⟨A1, n1, c1, l1, by rw [HNo.out]; rfl, HP.out.obj, HP.out.own, (fun l2 e => by rw [HNo.out] at e; cases e), HQ1.out, HP.out.but, fun k hk => (HP.out.row k hk).imp_right fun h => by omega⟩
          · have HST := Lib.hid (show TabP.partF (many - j - 1) X.key (some r) (l1 ++ [X]) = PR by rw [hXd]; exact HST0.out)
            clear hXd HST0
            have hXk : X.key.length ≤ 256 * (j + 1) := by rw [HXK.out, List.length_append, List.length_take]; omega
            have HQ2 := Lib.hid (show ∀ y ∈ l1 ++ [X], y.seq < m64 from fun y hy => by
              rcases List.mem_append.1 hy with hy | hy
              · exact HQ1.out y hy
              · simp at hy
                rw [hy]
                exact HXQ.out)
            have HRe := Lib.hid (fun (W : World) (h : PartI w lo hi g T A A1 n1 c1 l1 bk flt (some r) W) => rd_err g (some r) (lo, hi) W h.rd)
            go_upto_region 15 with (go_at_call 59; ((refine (HRe.out _ HP.out).mono ?_); rintro e wE ⟨rfl, rfl⟩; rw [errN_some]))
            have HC := Lib.hid (show IBox (World.drewN w8 1) b X from HX.out)
            refine wp_region_c (fun V => IBox V b X) (by kernel_rfl) HC.out ?_
            (refine wpAnyC_free 0 (oi := ⟨some 43, _, _, _, _, _⟩) (v := ?_) rfl (by kernel_rfl) (by kernel_rfl) (by kernel_rfl) HC.out rfl (fun x => ?_) ?_; rotate_left; (focus (simp [go_sem]; (try go_ints); first | done | (with_reducible rfl))); (simp only [Act.put, List.setIfInBounds_toArray, List.set_cons_succ, List.set_cons_zero]))
            (refine wpAnyC_free 1 (oi := ⟨some 44, _, _, _, _, _⟩) (v := ?_) rfl (by kernel_rfl) (by kernel_rfl) (by kernel_rfl) HC.out rfl (fun x => ?_) ?_; rotate_left; (focus (simp [go_sem]; (try go_ints); first | done | (with_reducible rfl))); (simp only [Act.put, List.setIfInBounds_toArray, List.set_cons_succ, List.set_cons_zero]))
            (refine wpAnyC_free 2 (oi := ⟨some 45, _, _, _, _, _⟩) (v := ?_) rfl (by kernel_rfl) (by kernel_rfl) (by kernel_rfl) HC.out rfl (fun x => ?_) ?_; rotate_left; (focus (simp [go_sem]; (try go_ints); first | done | (with_reducible rfl))); (simp only [Act.put, List.setIfInBounds_toArray, List.set_cons_succ, List.set_cons_zero]))
            (refine wpAnyC_free 3 (oi := ⟨some 46, _, _, _, _, _⟩) (v := ?_) rfl (by kernel_rfl) (by kernel_rfl) (by kernel_rfl) HC.out rfl (fun x => ?_) ?_; rotate_left; (focus (simp [go_sem]; (try go_ints); first | done | (with_reducible rfl))); (simp only [Act.put, List.setIfInBounds_toArray, List.set_cons_succ, List.set_cons_zero]))
            refine wpAnyC_free 5 (oi := ⟨some 48, _, _, _, _, _⟩) (iv X) rfl (by kernel_rfl) (by kernel_rfl) (by kernel_rfl) HC.out rfl (fun V => exec_loadI (.tmp 10) rfl rfl V.2.range) ?_
            (simp only [Act.put, List.setIfInBounds_toArray, List.set_cons_succ, List.set_cons_zero])
            change wpAnyC _ _ _ _ _ _ _ _ (World.drewN w8 1)
            obtain ⟨wz, hwz⟩ : ∃ W, W = World.drewN w8 1 := ⟨_, rfl⟩
            have HPz := Lib.hid (show PartI w lo hi g T A A1 n1 c1 l1 bk flt (some r) wz by rw [hwz]; exact HP.out.grew (Grew.drewN _ _))
            have HXz := Lib.hid (show IBox wz b X by rw [hwz]; exact HX.out)
            rw [← hwz]
            clear hwz HP HX
            have hTz : T < wz.heap.size := lt_of_blk HPz.out.obj
            have hhz := HPz.out.hi_
            have hbT : hi ≤ b := HBH.out
            refine wpAnyC_fork 4 6 (oi := ⟨some 47, _, _, _, _, _⟩) (oj := ⟨some 49, _, _, _, _, _⟩) rfl rfl (by kernel_rfl) ?_ ?_
            · refine cOp_list 4 (o := ⟨some 47, _, _, _, _, _⟩) rfl rfl ?_
              refine wpList_value (o := ⟨some 47, _, _, _, _, _⟩) rfl (exec_loadIs (.tmp 46) rfl rfl (tabv_cell HPz.out.obj).1) ?_
              (simp only [Act.put, List.setIfInBounds_toArray, List.set_cons_succ, List.set_cons_zero])
              refine wpList_nil ⟨rfl, HXz.out, ?_⟩
              refine wpAnyC_step 6 (o := ⟨some 49, _, _, _, _, _⟩) rfl (by kernel_rfl) rfl ?_
              refine wpList_build1 (.tmp 48) X rfl rfl rfl ?_
              have HR2 := Lib.hid (IRow.one wz X 29 (0, 0))
              have HP2 := Lib.hid (HPz.out.grew (grew_new wz (.cells #[.string ⟨X.key.toArray⟩, .int .u64 (X.seq : Int), .bool X.gone, .string ⟨X.val.toArray⟩] 29)))
              have HX2 := Lib.hid (HXz.out.alloc (.cells #[.string ⟨X.key.toArray⟩, .int .u64 (X.seq : Int), .bool X.gone, .string ⟨X.val.toArray⟩] 29))
              have hz2 : T < (wz.alloc (.cells #[.string ⟨X.key.toArray⟩, .int .u64 (X.seq : Int), .bool X.gone, .string ⟨X.val.toArray⟩] 29)).heap.size := by simp; omega
              generalize wz.alloc (.cells #[.string ⟨X.key.toArray⟩, .int .u64 (X.seq : Int), .bool X.gone, .string ⟨X.val.toArray⟩] 29) = w2 at HR2 HP2 HX2 hz2 ⊢
              (simp only [Act.put, List.setIfInBounds_toArray, List.set_cons_succ, List.set_cons_zero])
              refine wpList_nil ⟨rfl, HX2.out, ?_⟩
              refine wpAnyC_step 7 (o := ⟨some 50, _, _, _, _, _⟩) rfl (by kernel_rfl) rfl ?_
              refine wpList_appI rfl (.tmp 47) (.tmp 49) rfl (T + 1) A1 n1 c1 l1 rfl HP2.out.own (some ⟨wz.heap.size, 0, none⟩) 1 1 (wz.heap.size + 1) [X] rfl rfl HR2.out (by omega) (by have := HP2.out.hi_; omega) ?_
              intro A5 cap5 w5 hO5 hg5 hB5 hor5
              have hb2 : b < w2.heap.size := HX2.out.lt
              have HC5 := Lib.hid (show IBox w5 b X from HX2.out.keep (hg5.block b hb2 (fun e => HBN.out e.symm)))
              have HOb := Lib.hid (tabv_cell (show w5.heap[T]? = some (TabV A1 n1 c1 bk flt) from (hg5.block T (by omega) (fun e => by have := (Own.lt HP2.out.own T e.symm).1; omega)).trans HP2.out.obj))
              have HPA := Lib.hid (PartI.add HP2.out hO5 hg5 hor5)
              clear hO5 hg5 hB5 hor5
              (simp only [Act.put, List.setIfInBounds_toArray, List.set_cons_succ, List.set_cons_zero])
              refine wpList_nil ⟨rfl, HC5.out, ?_⟩
              have HC := HC5
              (refine wpAnyC_free 8 (oi := ⟨some 51, _, _, _, _, _⟩) (v := ?_) rfl (by kernel_rfl) (by kernel_rfl) (by kernel_rfl) HC.out rfl (fun x => ?_) ?_; rotate_left; (focus (simp [go_sem]; (try go_ints); first | done | (with_reducible rfl))); (simp only [Act.put, List.setIfInBounds_toArray, List.set_cons_succ, List.set_cons_zero]))
              (refine wpAnyC_free 9 (oi := ⟨some 52, _, _, _, _, _⟩) (v := ?_) rfl (by kernel_rfl) (by kernel_rfl) (by kernel_rfl) HC.out rfl (fun x => ?_) ?_; rotate_left; (focus (simp [go_sem]; (try go_ints); first | done | (with_reducible rfl))); (simp only [Act.put, List.setIfInBounds_toArray, List.set_cons_succ, List.set_cons_zero]))
              refine wpAnyC_step 10 (o := ⟨none, _, _, _, _, _⟩) rfl (by kernel_rfl) rfl ?_
              refine wpList_storeIs rfl (.tmp 52) (.tmp 50) rfl T 0 (n1 + 1) cap5 A5 (.slice A1 n1 c1) rfl rfl HOb.out.1 (HOb.out.2.2.2 0) ?_
              have HC6 := Lib.hid (show IBox (w5.setCell ⟨T, 0, none⟩ (.slice A5 (n1 + 1) cap5)) b X from HC5.out.keep (Below.heap_setCell _ _ _ _ (fun e => by simp at e; omega)))
              generalize w5.setCell ⟨T, 0, none⟩ (.slice A5 (n1 + 1) cap5) = w6' at HPA HC6 ⊢
              (simp only [Act.put])
              refine wpList_nil ⟨rfl, HC6.out, ?_⟩
              refine wpAnyC_done (by kernel_rfl) (fun _ => ?_) _
              obtain ⟨z0, z1, z2, z3⟩ := range_cells HC6.out.range
              go_wp2_with fail
              go_roundw
              case rel => exact ⟨j + 1, X.key, some r, A5, n1 + 1, cap5, l1 ++ [X], hlt, by go_num, rfl, by omega, HPA.out, by omega, HQ2.out, by rw [show many - (j + 1) = many - j - 1 from by omega]; exact HST.out⟩
              case measure => simp [intOf]; omega
            · refine cOp_list 6 (o := ⟨some 49, _, _, _, _, _⟩) rfl rfl ?_
              refine wpList_build1 (.tmp 48) X rfl rfl rfl ?_
              have HR2 := Lib.hid (IRow.one wz X 29 (0, 0))
              have HP2 := Lib.hid (HPz.out.grew (grew_new wz (.cells #[.string ⟨X.key.toArray⟩, .int .u64 (X.seq : Int), .bool X.gone, .string ⟨X.val.toArray⟩] 29)))
              have HX2 := Lib.hid (HXz.out.alloc (.cells #[.string ⟨X.key.toArray⟩, .int .u64 (X.seq : Int), .bool X.gone, .string ⟨X.val.toArray⟩] 29))
              have hz2 : T < (wz.alloc (.cells #[.string ⟨X.key.toArray⟩, .int .u64 (X.seq : Int), .bool X.gone, .string ⟨X.val.toArray⟩] 29)).heap.size := by simp; omega
              generalize wz.alloc (.cells #[.string ⟨X.key.toArray⟩, .int .u64 (X.seq : Int), .bool X.gone, .string ⟨X.val.toArray⟩] 29) = w2 at HR2 HP2 HX2 hz2 ⊢
              (simp only [Act.put, List.setIfInBounds_toArray, List.set_cons_succ, List.set_cons_zero])
              refine wpList_nil ⟨rfl, HX2.out, ?_⟩
              refine wpAnyC_step 4 (o := ⟨some 47, _, _, _, _, _⟩) rfl (by kernel_rfl) rfl ?_
              refine wpList_value (o := ⟨some 47, _, _, _, _, _⟩) rfl (exec_loadIs (.tmp 46) rfl rfl (tabv_cell HP2.out.obj).1) ?_
              (simp only [Act.put, List.setIfInBounds_toArray, List.set_cons_succ, List.set_cons_zero])
              refine wpList_nil ⟨rfl, HX2.out, ?_⟩
              refine wpAnyC_step 7 (o := ⟨some 50, _, _, _, _, _⟩) rfl (by kernel_rfl) rfl ?_
              refine wpList_appI rfl (.tmp 47) (.tmp 49) rfl (T + 1) A1 n1 c1 l1 rfl HP2.out.own (some ⟨wz.heap.size, 0, none⟩) 1 1 (wz.heap.size + 1) [X] rfl rfl HR2.out (by omega) (by have := HP2.out.hi_; omega) ?_
              intro A5 cap5 w5 hO5 hg5 hB5 hor5
              have hb2 : b < w2.heap.size := HX2.out.lt
              have HC5 := Lib.hid (show IBox w5 b X from HX2.out.keep (hg5.block b hb2 (fun e => HBN.out e.symm)))
              have HOb := Lib.hid (tabv_cell (show w5.heap[T]? = some (TabV A1 n1 c1 bk flt) from (hg5.block T (by omega) (fun e => by have := (Own.lt HP2.out.own T e.symm).1; omega)).trans HP2.out.obj))
              have HPA := Lib.hid (PartI.add HP2.out hO5 hg5 hor5)
              clear hO5 hg5 hB5 hor5
              (simp only [Act.put, List.setIfInBounds_toArray, List.set_cons_succ, List.set_cons_zero])
              refine wpList_nil ⟨rfl, HC5.out, ?_⟩
              have HC := HC5
              (refine wpAnyC_free 8 (oi := ⟨some 51, _, _, _, _, _⟩) (v := ?_) rfl (by kernel_rfl) (by kernel_rfl) (by kernel_rfl) HC.out rfl (fun x => ?_) ?_; rotate_left; (focus (simp [go_sem]; (try go_ints); first | done | (with_reducible rfl))); (simp only [Act.put, List.setIfInBounds_toArray, List.set_cons_succ, List.set_cons_zero]))
              (refine wpAnyC_free 9 (oi := ⟨some 52, _, _, _, _, _⟩) (v := ?_) rfl (by kernel_rfl) (by kernel_rfl) (by kernel_rfl) HC.out rfl (fun x => ?_) ?_; rotate_left; (focus (simp [go_sem]; (try go_ints); first | done | (with_reducible rfl))); (simp only [Act.put, List.setIfInBounds_toArray, List.set_cons_succ, List.set_cons_zero]))
              refine wpAnyC_step 10 (o := ⟨none, _, _, _, _, _⟩) rfl (by kernel_rfl) rfl ?_
              refine wpList_storeIs rfl (.tmp 52) (.tmp 50) rfl T 0 (n1 + 1) cap5 A5 (.slice A1 n1 c1) rfl rfl HOb.out.1 (HOb.out.2.2.2 0) ?_
              have HC6 := Lib.hid (show IBox (w5.setCell ⟨T, 0, none⟩ (.slice A5 (n1 + 1) cap5)) b X from HC5.out.keep (Below.heap_setCell _ _ _ _ (fun e => by simp at e; omega)))
              generalize w5.setCell ⟨T, 0, none⟩ (.slice A5 (n1 + 1) cap5) = w6' at HPA HC6 ⊢
              (simp only [Act.put])
              refine wpList_nil ⟨rfl, HC6.out, ?_⟩
              refine wpAnyC_done (by kernel_rfl) (fun _ => ?_) _
              obtain ⟨z0, z1, z2, z3⟩ := range_cells HC6.out.range
              go_wp2_with fail
              go_roundw
              case rel => exact ⟨j + 1, X.key, some r, A5, n1 + 1, cap5, l1 ++ [X], hlt, by go_num, rfl, by omega, HPA.out, by omega, HQ2.out, by rw [show many - (j + 1) = many - j - 1 from by omega]; exact HST.out⟩
              case measure => simp [intOf]; omega
        · have t1 : ((x.toNat : Int) == 1) = false := by
            rw [beq_eq_false_iff_ne]
            intro e
            exact hx1 (UInt8.toNat_inj.1 (by have : x.toNat = 1 := by omega
                                             rw [this]; rfl))
          have HNo := Lib.hid (show TabP.partP s many l = none by unfold TabP.partP; rw [if_neg (by omega), ← HPR.out, ← HSTEP.out, if_neg hx1])
          clear hx0 hx1 HSTEP
          go_wp2_with (go_at_call 75; ((refine (HRb.out _ HP.out).mono ?_); rintro e w6 ⟨rfl, hR, hG⟩; have HP := Lib.hid (HP.out.read hR hG); clear hR hG))
          go_ret
          exact ⟨A1, n1, c1, l1, by rw [HNo.out]; rfl, HP.out.obj, HP.out.own, (fun l2 e => by rw [HNo.out] at e; cases e), HQ1.out, HP.out.but, fun k hk => (HP.out.row k hk).imp_right fun h => by omega⟩
    · obtain rfl : j = many := by omega
      have i1 : ¬ (j : Int) < (j : Int) := by omega
      have HPF := Lib.hid (show PR = some (l1, st) by rw [← HPF.out, Nat.sub_self]; rfl)
      by_cases hz : j = 0
      · have i2 : ¬ (0 : Int) < (j : Int) := by omega
        have HNo := Lib.hid (show TabP.partP s j l = none by unfold TabP.partP; rw [if_pos hz])
        clear hz
        go_wp2_with fail
        go_ret
        exact ⟨by rw [HNo.out]; rfl, A1, n1, c1, HP.out.obj, l1, HP.out.own, (fun l2 e => by rw [HNo.out] at e; cases e), HQ1.out, HP.out.but, fun k hk => (HP.out.row k hk).imp_right fun h => by omega⟩
      · have i2 : (0 : Int) < (j : Int) := by omega
        rcases st with _ | _ | ⟨y, r⟩
        · have HRn := Lib.hid (fun (W : World) (h : PartI w lo hi g T A A1 n1 c1 l1 bk flt (none) W) => rd_end g (none) (lo, hi) W h.rd)
          have HNo := Lib.hid (show TabP.partP s j l = none by unfold TabP.partP; rw [if_neg (by omega), ← HPR.out, HPF.out]; rfl)
          go_wp2_with (go_at_call 76; ((refine (HRn.out _ HP.out).mono ?_); rintro e wE ⟨rfl, rfl⟩; rw [endN_none]))
          go_ret
          exact ⟨A1, n1, c1, l1, by rw [HNo.out]; rfl, HP.out.obj, HP.out.own, (fun l2 e => by rw [HNo.out] at e; cases e), HQ1.out, HP.out.but, fun k hk => (HP.out.row k hk).imp_right fun h => by omega⟩
        · have HRn := Lib.hid (fun (W : World) (h : PartI w lo hi g T A A1 n1 c1 l1 bk flt (some []) W) => rd_end g (some []) (lo, hi) W h.rd)
          have HYes := Lib.hid (show TabP.partP s j l = some l1 by unfold TabP.partP; rw [if_neg (by omega), ← HPR.out, HPF.out]; rfl)
          go_wp2_with (go_at_call 76; ((refine (HRn.out _ HP.out).mono ?_); rintro e wE ⟨rfl, rfl⟩; rw [endN_nil]))
          go_ret
          exact ⟨A1, n1, c1, l1, by rw [HYes.out]; rfl, HP.out.obj, HP.out.own, (fun l2 e => by rw [HYes.out] at e; cases e; exact ⟨rfl, hn1⟩), HQ1.out, HP.out.but, fun k hk => (HP.out.row k hk).imp_right fun h => by omega⟩
        · have HRn := Lib.hid (fun (W : World) (h : PartI w lo hi g T A A1 n1 c1 l1 bk flt (some (y :: r)) W) => rd_end g (some (y :: r)) (lo, hi) W h.rd)
          have HNo := Lib.hid (show TabP.partP s j l = none by unfold TabP.partP; rw [if_neg (by omega), ← HPR.out, HPF.out]; rfl)
          go_wp2_with (go_at_call 76; ((refine (HRn.out _ HP.out).mono ?_); rintro e wE ⟨rfl, rfl⟩; rw [endN_cons]))
          go_ret
          exact ⟨A1, n1, c1, l1, by rw [HNo.out]; rfl, HP.out.obj, HP.out.own, (fun l2 e => by rw [HNo.out] at e; cases e), HQ1.out, HP.out.but, fun k hk => (HP.out.row k hk).imp_right fun h => by omega⟩
end Go.Proofs.Ytkkeodfoiffofaa
