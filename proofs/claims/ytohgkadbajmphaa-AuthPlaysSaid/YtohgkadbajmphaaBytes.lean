/- append onto a slice of bytes that the call itself owns, inside a walk. -/
import Derived.Test.YtohgkadbajmphaaOps
import Derived.Test.YtohgkadbajmphaaOpen
import Derived.Laws.MakeOwn
import Derived.Laws.OwnMore
namespace Go.Proofs.Ytohgkadbajmphaa
open Go.RowKit
theorem info_u8 : (Try.prog.info? 5).map (fun i => (i.zero, i.size, i.bytes)) = some (some (.int .u8 0), 1, 1) := by kernel_rfl
/-- the slice (A, n, cap) is the call's own, from block base on, and holds the bytes l -/
def OwnB (w : World) (base : Nat) (A : Option Addr) (n cap : Nat) (l : List UInt8) : Prop := Own w base 5 1 A n cap (l.map b8)
theorem one_b8 (l : List UInt8) : ∀ u ∈ l.map b8, u.oneCell' = true := by
  intro u hu
  obtain ⟨x, _, rfl⟩ := List.mem_map.1 hu
  rfl
theorem Src.str {P : Program} {w : World} (s : List UInt8) : Src P w 1 (.string ⟨s.toArray⟩) s.length (s.map b8) := by
  have h := Src.string (P := P) (w := w) ⟨s.toArray⟩
  have hz : (⟨s.toArray⟩ : ByteArray).size = s.length := by show s.toArray.size = _; simp
  rw [hz] at h
  exact h
theorem str_of (s : ByteArray) : ∃ l : List UInt8, s = ⟨l.toArray⟩ ∧ s.data.toList = l := ⟨s.data.toList, by rw [Array.toArray_toList], rfl⟩
theorem below_grown {w w' : World} {base : Nat} {row : Option Nat} (hg : w.grownBy w' row) (hb : base ≤ w.heap.size) (hr : ∀ g, row = some g → base ≤ g) : Below base w w' :=
  ⟨hg.os, hg.tape, hg.output, hg.size, fun k hk => hg.block k (Nat.lt_of_lt_of_le hk hb) (fun e => by have := hr k e.symm; omega)⟩
theorem Row.pre8 {w : World} {B : Nat} {A : Option Addr} {l r : List UInt8} (h : Row w B A ((l ++ r).map b8)) : Row w B A (l.map b8) := by
  have := h.take l.length
  rwa [List.map_append, List.take_append_of_le_length (by simp), List.take_of_length_le (by simp)] at this
theorem OwnB.row {w : World} {base : Nat} {A : Option Addr} {n cap : Nat} {l : List UInt8} (h : OwnB w base A n cap l) : Row w w.heap.size A (l.map b8) := Own.row h (Nat.le_refl _)
theorem OwnB.below_all {w w' : World} {base : Nat} {A : Option Addr} {n cap : Nat} {l : List UInt8} (h : OwnB w base A n cap l) (hb : Below w.heap.size w w') : OwnB w' base A n cap l := Own.below_all h hb
theorem OwnB.le {w : World} {base : Nat} {A : Option Addr} {n cap : Nat} {l : List UInt8} (h : OwnB w base A n cap l) : n ≤ cap ∧ cap ≤ maxLen := Own.le h
theorem OwnB.drewN {w : World} {base : Nat} {A : Option Addr} {n cap : Nat} {l : List UInt8} (h : OwnB w base A n cap l) (k : Nat) : OwnB (w.drewN k) base A n cap l := h
theorem OwnB.drew {w : World} {base : Nat} {A : Option Addr} {n cap : Nat} {l : List UInt8} (h : OwnB w base A n cap l) : OwnB w.drew base A n cap l := h
theorem OwnB.alloc {w : World} {base : Nat} {A : Option Addr} {n cap : Nat} {l : List UInt8} (h : OwnB w base A n cap l) (o : Obj) : OwnB (w.alloc o) base A n cap l := Own.alloc h o
section
variable {w : World} {base g n cap : Nat} {l : List UInt8}
theorem OwnB.len {A : Option Addr} (h : OwnB w base A n cap l) : l.length = n := by have := Own.len h; simpa using this
theorem OwnB.cell (h : OwnB w base (some ⟨g, 0, none⟩) n cap l) {j : Nat} (hj : j < l.length) : w.cell? ⟨g, j, none⟩ = some (b8 l[j]) := by
  obtain ⟨ad, e, _, hc⟩ := h.row.at_ j (by simpa using hj)
  injection e with e
  subst e
  rw [add_off, Nat.zero_add, List.getElem_map] at hc
  exact hc
theorem OwnB.frozen (h : OwnB w base (some ⟨g, 0, none⟩) n cap l) {j : Nat} (hj : j < n) : w.frozen? ⟨g, j, none⟩ = false := by
  rcases h.2.2.2 with ⟨h, _⟩ | ⟨g', off, cur, fr, ha, _, _, _, hf, _⟩
  · cases h
  · simp only [Option.some.injEq, Addr.mk.injEq] at ha
    obtain ⟨rfl, rfl, _⟩ := ha
    have h2 := h.2.1
    have := hf j (by omega)
    rwa [Nat.zero_add] at this
theorem OwnB.set (h : OwnB w base (some ⟨g, 0, none⟩) n cap l) {j : Nat} (hj : j < n) (x : UInt8) : OwnB (w.setCell ⟨g, j, none⟩ (b8 x)) base (some ⟨g, 0, none⟩) n cap (l.set j x) := by
  have := Own.set h (j := j) (by omega) (b8 x)
  rw [Nat.zero_add] at this
  unfold OwnB
  rw [List.map_set]
  exact this
theorem OwnB.base_le (h : OwnB w base (some ⟨g, 0, none⟩) n cap l) : base ≤ g ∧ g < w.heap.size := Own.lt h g rfl
end
theorem wpList_app8 {ops : Array Oper} {rest : List Oper} {o : Oper} {a : Act} {w : World} {Q : Exit → Act → World → Prop} (hw : Region.wanted o (yielded ops a.tmps) = true) (s x : Operand) (xt : TypeId)
    (ho : o.op = .call { callee := .builtin .append, args := #[s, x], argTypes := #[31, xt] }) (hxt : (∃ e', Try.prog.underlying xt = some (.slice e')) ∨ Try.prog.underlying xt = some .string)
    (base : Nat) (A : Option Addr) (n cap : Nat) (l : List UInt8) (hs : a.eval s = .slice A n cap) (hown : OwnB w base A n cap l)
    (m : Nat) (r : List UInt8) (hsrc : Src Try.prog w 1 (a.eval x) m (r.map b8)) (hfit : n + m ≤ 140737488355328 ∨ (m = 1 ∧ n ≤ 140737488355328)) (hbase : base ≤ w.heap.size)
    (h : ∀ A' cap' w', OwnB w' base A' (n + m) cap' (l ++ r) → w.grownBy w' (blk A) → Below base w w' → (blk A' = blk A ∨ blk A' = some w.heap.size) → wpList Try.prog ops Q rest (a.put o.dst (.slice A' (n + m) cap')) w') :
    wpList Try.prog ops Q (o :: rest) a w := by
  obtain ⟨i0, hi, hz0, hz1, hz2⟩ := info_parts info_u8
  have hle := hown.le
  refine wpList_append_gen w hw s x 31 xt ho base 5 i0 (.int .u8 0) 1 1 Try.underlying31 hxt hi hz0 hz1 hz2 rfl A n cap (l.map b8) hs hown m (r.map b8) hsrc (one_b8 r) ?_ ?_ hbase ?_
  · unfold maxLen; omega
  · by_cases hroom : n + m ≤ cap
    · exact .inl hroom
    · right
      rcases hfit with hf | ⟨rfl, hf⟩
      · exact growslice_fits (by omega) (by omega)
      · obtain rfl : cap = n := by omega
        exact growslice_fits_succ (by omega) (by omega)
  · intro A' cap' w' hO hg hor
    refine h A' cap' w' (by unfold OwnB; rw [List.map_append]; exact hO) hg (below_grown hg hbase fun g e => (hown.lt g e).1) ?_
    rcases hor with ⟨_, rfl, _⟩ | ⟨rfl, _⟩
    · exact .inl rfl
    · exact .inr rfl
theorem wpList_bytes8 {ops : Array Oper} {rest : List Oper} {a : Act} {w : World} {Q : Exit → Act → World → Prop} {dst : Option Tmp} {ty : TypeId} {x : Operand} {pos : String} {af : Array Edge} {g : Option (Nat × Bool)}
    (base : Nat) (l : List UInt8) (hx : a.eval x = .string ⟨l.toArray⟩) (hw : Region.wanted ⟨dst, .convert 9 31 x, ty, pos, af, g⟩ (yielded ops a.tmps) = true) (hb : base ≤ w.heap.size) (hm : l.length ≤ maxLen)
    (h : ∀ cap w', OwnB w' base (some ⟨w.heap.size, 0, none⟩) l.length cap l → Below w.heap.size w w' → w.heap.size < w'.heap.size →
      wpList Try.prog ops Q rest (a.put dst (.slice (some ⟨w.heap.size, 0, none⟩) l.length cap)) w') :
    wpList Try.prog ops Q (⟨dst, .convert 9 31 x, ty, pos, af, g⟩ :: rest) a w :=
  wpList_bytes Try.underlying9 Try.underlying31 Try.underlying5 base l hx hw hb hm fun cap w' h1 h2 h3 => h cap w' h1 h2 (by omega)
theorem wpList_str8 {ops : Array Oper} {rest : List Oper} {a : Act} {w : World} {Q : Exit → Act → World → Prop} {dst : Option Tmp} {ty : TypeId} {x : Operand} {pos : String} {af : Array Edge} {g : Option (Nat × Bool)}
    (A : Option Addr) (n c B : Nat) (l : List UInt8) (hx : a.eval x = .slice A n c) (hw : Region.wanted ⟨dst, .convert 31 9 x, ty, pos, af, g⟩ (yielded ops a.tmps) = true)
    (hn : l.length = n) (hr : Row w B A (l.map b8)) (h : wpList Try.prog ops Q rest (a.put dst (.string ⟨l.toArray⟩)) w) :
    wpList Try.prog ops Q (⟨dst, .convert 31 9 x, ty, pos, af, g⟩ :: rest) a w :=
  wpList_str Try.underlying31 Try.underlying5 Try.underlying9 A n c B l hx hw hn hr h
/-- make([]byte, n) -/
theorem wpList_make8 {ops : Array Oper} {rest : List Oper} {a : Act} {w : World} {Q : Exit → Act → World → Prop} {dst : Option Tmp} {ty : TypeId} {x y : Operand} {pos : String} {af : Array Edge} {g : Option (Nat × Bool)}
    (base n : Nat) (kl kc : IntKind) (hx : a.eval x = .int kl (n : Int)) (hy : a.eval y = .int kc (n : Int)) (hw : Region.wanted ⟨dst, .makeSlice 31 x y, ty, pos, af, g⟩ (yielded ops a.tmps) = true) (hb : base ≤ w.heap.size) (hn : n ≤ 281474976710656)
    (h : ∀ w', OwnB w' base (some ⟨w.heap.size, 0, none⟩) n n (List.replicate n 0) → Below w.heap.size w w' → w.heap.size < w'.heap.size →
      wpList Try.prog ops Q rest (a.put dst (.slice (some ⟨w.heap.size, 0, none⟩) n n)) w') :
    wpList Try.prog ops Q (⟨dst, .makeSlice 31 x y, ty, pos, af, g⟩ :: rest) a w := by
  obtain ⟨i0, hi, hz0, hz1, hz2⟩ := info_parts info_u8
  have hr := run_make (P := Try.prog) w 31 5 i0 (.int .u8 0) Try.underlying31 hi hz0 kl kc (n : Int) (n : Int) (by omega) (by omega) (by rw [hz2]; omega) (by omega)
  simp only [Int.toNat_natCast, hz1, Nat.mul_one] at hr
  refine wpList_value hw (v := .slice (some ⟨w.heap.size, 0, none⟩) n n) (w' := w.alloc (.cells (madeCells (Value.int .u8 0).cells n) 5)) ?_ (h _ ?_ ?_ ?_)
  · simp only [execOp, hx, hy, Sem.run_bind, hr, Result.andThen_ok, Sem.run_pure]
  · refine Own.made w _ 5 (0, 0) 1 n n _ hb (by simp) (Nat.le_refl _) (by unfold maxLen; omega) (by rw [size_madeCells]; omega) (.inr rfl) (fun j u hu => ?_)
    rw [← Array.getElem?_toList]
    have e : (madeCells (Value.int .u8 0).cells n).toList = List.replicate n (Value.int .u8 0) := toList_madeCells_one _ n
    rw [e]
    rw [List.map_replicate] at hu
    exact hu
  · exact ⟨rfl, rfl, rfl, by simp, fun k hk => Below.heap_alloc w _ k hk⟩
  · simp
/-- append of a few elements of one cell -/
theorem wpList_appn1 {ops : Array Oper} {rest : List Oper} {o : Oper} {a : Act} {w : World} {Q : Exit → Act → World → Prop} (hw : Region.wanted o (yielded ops a.tmps) = true) (s x : Operand) (t e : TypeId) (z : Value) (bytes : Nat)
    (ho : o.op = .call { callee := .builtin .append, args := #[s, x], argTypes := #[t, t] }) (ht : Try.prog.underlying t = some (.slice e))
    (hinfo : (Try.prog.info? e).map (fun i => (i.zero, i.size, i.bytes)) = some (some z, 1, bytes)) (hz : z.cells.size = 1) (hb8 : 1 ≤ bytes)
    (base : Nat) (A : Option Addr) (n cap : Nat) (xs : List Value) (hs : a.eval s = .slice A n cap) (hown : Own w base e 1 A n cap xs)
    (m : Nat) (news : List Value) (hsrc : Src Try.prog w 1 (a.eval x) m news) (h1 : ∀ u ∈ news, u.oneCell' = true) (N : Nat) (hN : n + m = N) (ys : List Value) (hys : xs ++ news = ys)
    (hfit : N * bytes ≤ 140737488355328) (hbase : base ≤ w.heap.size)
    (h : ∀ A2 cap2 w', Own w' base e 1 A2 N cap2 ys → w.grownBy w' (blk A) → Below base w w' → ((N ≤ cap ∧ A2 = A) ∨ A2 = some ⟨w.heap.size, 0, none⟩) → wpList Try.prog ops Q rest (a.put o.dst (.slice A2 N cap2)) w') :
    wpList Try.prog ops Q (o :: rest) a w := by
  subst hN
  subst hys
  obtain ⟨i0, hi, hz0, hz1, hz2⟩ := info_parts hinfo
  have hle := hown.le
  refine wpList_append_gen w hw s x t t ho base e i0 z 1 bytes ht (.inl ⟨_, ht⟩) hi hz0 hz1 hz2 hz A n cap xs hs hown m news hsrc h1 ?_ ?_ hbase ?_
  · have := Nat.mul_le_mul_left (n + m) hb8
    unfold maxLen; omega
  · by_cases hroom : n + m ≤ cap
    · exact .inl hroom
    · right
      exact growslice_fits (by omega) hfit
  · intro A' cap' w' hO hg hor
    refine h A' cap' w' hO hg (below_grown hg hbase fun g e => (hown.lt g e).1) ?_
    rcases hor with ⟨h1, rfl, _⟩ | ⟨rfl, _⟩
    · exact .inl ⟨h1, rfl⟩
    · exact .inr rfl
end Go.Proofs.Ytohgkadbajmphaa
