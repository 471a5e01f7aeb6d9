/- A slice of acts (rolodexlaw18.Act) that came in, opened. -/
import Derived.Test.YtohgkadbajmphaaOpen
import Derived.Test.YtohgkadbajmphaaOwn
import Derived.Deep.Slices
import Derived.Deep.Fields
import Derived.ChangeSame
import Derived.Test.YtohgkadbajmphaaAuthOnce
import Derived.Test.YtohgkadbajmphaaAwake18
import Derived.Test.YtohgkadbajmphaaAuthD
namespace Go.Proofs.Ytohgkadbajmphaa
open Go.RowKit Go.ChangeShapes Go.WideShapes Go.Deep
set_option linter.unusedVariables false
/-- an act: what is called, for whom, of which token, till when, which byte is changed and by what -/
structure Ac where
  op : Int
  dev : Int
  at_ : Int
  epoch : Nat
  now : Int
  lasts : Int
  place : Int
  byx : Nat
def acv (x : Ac) : List Value := [.int .i64 x.op, .int .i64 x.dev, .int .i64 x.at_, .int .u64 (x.epoch : Int), .int .i64 x.now, .int .i64 x.lasts, .int .i64 x.place, .int .u8 (x.byx : Int)]
def Ac.none0 : Ac := ⟨0, 0, 0, 0, 0, 0, 0, 0⟩
/-- an int's range -/
def i64r (z : Int) : Prop := -9223372036854775808 ≤ z ∧ z ≤ 9223372036854775807
structure Ac.fine (x : Ac) : Prop where
  op : i64r x.op
  dev : i64r x.dev
  at_ : i64r x.at_
  epoch : x.epoch ≤ 18446744073709551615
  now : i64r x.now
  lasts : i64r x.lasts
  place : i64r x.place
  byx : x.byx < 256
theorem acv_len (x : Ac) : (acv x).length = 8 := rfl
def acvs (l : List Ac) : List Value := l.flatMap acv
theorem acvs_cons (x : Ac) (l : List Ac) : acvs (x :: l) = acv x ++ acvs l := rfl
theorem acvs_append (a b : List Ac) : acvs (a ++ b) = acvs a ++ acvs b := by simp [acvs]
theorem acvs_len : ∀ l : List Ac, (acvs l).length = l.length * 8
  | [] => rfl
  | x :: r => by rw [acvs_cons, List.length_append, acvs_len r, acv_len, List.length_cons]; omega
theorem acvs_one (x : Ac) : acvs [x] = acv x := by simp [acvs]
theorem acvs_drop : ∀ (l : List Ac) (k : Nat), (acvs l).drop (k * 8) = acvs (l.drop k)
  | l, 0 => by simp
  | [], k + 1 => by simp [acvs]
  | x :: r, k + 1 => by
    rw [acvs_cons, List.drop_succ_cons, ← acvs_drop r k, List.drop_append, List.drop_of_length_le (by rw [acv_len]; omega), List.nil_append, acv_len]
    congr 1
    omega
theorem acvs_at {l : List Ac} {i : Nat} {x : Ac} (h : l[i]? = some x) {j : Nat} {u : Value} (hu : (acv x)[j]? = some u) : (acvs l)[i * 8 + j]? = some u := by
  have hj : j < 8 := by have := (List.getElem?_eq_some_iff.1 hu).1; rwa [acv_len] at this
  have h1 : l.drop i = x :: l.drop (i + 1) := by
    have hi := (List.getElem?_eq_some_iff.1 h)
    obtain ⟨hi1, hi2⟩ := hi
    rw [List.drop_eq_getElem_cons hi1, hi2]
  rw [← List.getElem?_drop, acvs_drop, h1, acvs_cons, List.getElem?_append_left (by rw [acv_len]; exact hj)]
  exact hu
theorem spot_none {w : World} {ad : Addr} {u : Value} (hc : w.cell? ad = some u) : ad.spot = none := by
  unfold World.cell? at hc
  cases ho : w.heap[ad.block]? with
  | none => rw [ho] at hc; cases hc
  | some o =>
    rw [ho] at hc
    cases o with
    | cells c ty fr =>
      simp only at hc
      split at hc
      · cases hc
      · rename_i hh
        simpa using hh
    | _ => cases hc
/-- an act of a row, in one block -/
theorem acts_at {w : World} {B : Nat} {A : Option Addr} {l : List Ac} (h : Row w B A (acvs l)) {i : Nat} {x : Ac} (hx : l[i]? = some x) : ∃ g off, A = some ⟨g, off, none⟩ ∧ g < B ∧ ∀ (j : Nat) (v : Value), (acv x)[j]? = some v → w.cell? ⟨g, off + i * 8 + j, none⟩ = some v := by
  have hi := (List.getElem?_eq_some_iff.1 hx).1
  obtain ⟨ad, e, hb, hc⟩ := h _ _ (acvs_at (List.getElem?_eq_getElem (show 0 < l.length by omega)) (j := 0) (u := .int .i64 (l[0]'(by omega)).op) rfl)
  have hs : ad.spot = none := spot_none (w := w) (ad := ad) hc
  obtain ⟨g, off, sp⟩ := ad
  simp only at hs
  subst hs
  refine ⟨g, off, e, hb, fun j v hj => ?_⟩
  obtain ⟨ad', e', _, hc'⟩ := h _ _ (acvs_at hx hj)
  rw [e] at e'
  cases e'
  rw [add_off] at hc'
  rw [Nat.add_assoc]
  exact hc'
structure ActsIn (w : World) (A : Option Addr) (n c : Nat) (l : List Ac) : Prop where
  len : l.length = n
  le : n ≤ c
  max : c ≤ maxLen
  row : Row w w.heap.size A (acvs l)
  fine : ∀ x ∈ l, x.fine
section
variable {H : Type} {enc : TypeId × Value → H} {w : World} {base : Nat} {spare : Nat → Bool} {held : Bool}
theorem wf_i64a {z : Int} (h : (Lit.int .i64 z).wf = true) : i64r z := by
  unfold i64r
  simpa [Lit.wf, IntKind.min, IntKind.max, IntKind.signed, IntKind.bits] using h
theorem wf_u64a {z : Int} (h : (Lit.int .u64 z).wf = true) : 0 ≤ z ∧ z ≤ 18446744073709551615 := by
  simpa [Lit.wf, IntKind.min, IntKind.max, IntKind.signed, IntKind.bits] using h
theorem wf_u8a {z : Int} (h : (Lit.int .u8 z).wf = true) : 0 ≤ z ∧ z ≤ 255 := by
  simpa [Lit.wf, IntKind.min, IntKind.max, IntKind.signed, IntKind.bits] using h
set_option maxRecDepth 100000 in
set_option maxHeartbeats 1000000 in
theorem act_cells {fuel : Nat} {cs : List Value} {y : DataW H × List MemPlace} (hc : cs.length = 8) (h : DataW.trod enc Try.prog w base spare held fuel 59 cs = some y) :
    ∃ x : Ac, cs = acv x ∧ x.fine := by
  obtain ⟨ys, n, _, hy, hlen, hyl, hf⟩ := DataW.trod_struct Try.underlying59 h
  match cs, hc with
  | [c0, c1, c2, c3, c4, c5, c6, c7], _ =>
    match ys, hyl with
    | [y0, y1, y2, y3, y4, y5, y6, y7], _ =>
      have k0 : Try.prog.cellsOf 3 = 1 := by kernel_rfl
      have k1 : Try.prog.cellsOf 48 = 1 := by kernel_rfl
      have k2 : Try.prog.cellsOf 2 = 1 := by kernel_rfl
      have k3 : Try.prog.cellsOf 5 = 1 := by kernel_rfl
      have h0 : DataW.trod enc Try.prog w base spare held n 3 [c0] = some y0 := by simpa [k0, k1, k2, k3] using hf 0 _ rfl
      have h1 : DataW.trod enc Try.prog w base spare held n 3 [c1] = some y1 := by simpa [k0, k1, k2, k3] using hf 1 _ rfl
      have h2 : DataW.trod enc Try.prog w base spare held n 3 [c2] = some y2 := by simpa [k0, k1, k2, k3] using hf 2 _ rfl
      have h3 : DataW.trod enc Try.prog w base spare held n 48 [c3] = some y3 := by simpa [k0, k1, k2, k3] using hf 3 _ rfl
      have h4 : DataW.trod enc Try.prog w base spare held n 2 [c4] = some y4 := by simpa [k0, k1, k2, k3] using hf 4 _ rfl
      have h5 : DataW.trod enc Try.prog w base spare held n 2 [c5] = some y5 := by simpa [k0, k1, k2, k3] using hf 5 _ rfl
      have h6 : DataW.trod enc Try.prog w base spare held n 3 [c6] = some y6 := by simpa [k0, k1, k2, k3] using hf 6 _ rfl
      have h7 : DataW.trod enc Try.prog w base spare held n 5 [c7] = some y7 := by simpa [k0, k1, k2, k3] using hf 7 _ rfl
      obtain ⟨z0, e0, _, f0⟩ := DataW.trod_int Try.underlying3 h0
      obtain ⟨z1, e1, _, f1⟩ := DataW.trod_int Try.underlying3 h1
      obtain ⟨z2, e2, _, f2⟩ := DataW.trod_int Try.underlying3 h2
      obtain ⟨z3, e3, _, f3⟩ := DataW.trod_int Try.underlying48 h3
      obtain ⟨z4, e4, _, f4⟩ := DataW.trod_int Try.underlying2 h4
      obtain ⟨z5, e5, _, f5⟩ := DataW.trod_int Try.underlying2 h5
      obtain ⟨z6, e6, _, f6⟩ := DataW.trod_int Try.underlying3 h6
      obtain ⟨z7, e7, _, f7⟩ := DataW.trod_int Try.underlying5 h7
      have g3 := wf_u64a f3
      have g7 := wf_u8a f7
      simp only [List.cons.injEq, and_true] at e0 e1 e2 e3 e4 e5 e6 e7
      refine ⟨⟨z0, z1, z2, z3.toNat, z4, z5, z6, z7.toNat⟩, ?_, wf_i64a f0, wf_i64a f1, wf_i64a f2, by show z3.toNat ≤ _; omega, wf_i64a f4, wf_i64a f5, wf_i64a f6, by show z7.toNat < 256; omega⟩
      rw [e0, e1, e2, e3, e4, e5, e6, e7]
      simp only [acv, Int.toNat_of_nonneg g3.1, Int.toNat_of_nonneg g7.1]
set_option maxRecDepth 100000 in
theorem open_acts {fuel : Nat} {A : Option Addr} {n c : Nat} {x : DataW H × List MemPlace} (h : DataW.trod enc Try.prog w base spare held fuel 55 [.slice A n c] = some x) :
    ∃ l, ActsIn w A n c l ∧ 1 ≤ Rows.uptoBulk x.1 ∧ ((x.1 = .nil ∧ n = 0) ∨ ∃ es sp, x.1 = .slice es sp ∧ es.length = n) := by
  have hC : Try.prog.cellsOf 59 = 8 := by kernel_rfl
  rcases open_slice Try.underlying55 h with ⟨hcs, hx⟩ | ⟨a, len, cap, m, n1, D, Pl, hcs, _, hl, hm, hmm, hx, hi⟩
  · simp only [List.cons.injEq, Value.slice.injEq, and_true] at hcs
    obtain ⟨rfl, rfl, rfl⟩ := hcs
    exact ⟨[], ⟨rfl, Nat.le_refl _, Nat.zero_le _, Row.nil, fun x h => by cases h⟩, one_le_bulk _, .inl ⟨by rw [hx], rfl⟩⟩
  · simp only [List.cons.injEq, Value.slice.injEq, and_true] at hcs
    obtain ⟨rfl, rfl, rfl⟩ := hcs
    have hnm : n ≤ m := by rw [hmm]; split <;> omega
    have each : ∀ i, i < n → ∃ x : Ac, (∀ j u, (acv x)[j]? = some u → w.cell? (a.add (i * 8 + j)) = some u) ∧ x.fine := by
      intro i hin
      obtain ⟨cs', hc, ht'⟩ := hi i (by omega)
      rw [hC] at hc
      obtain ⟨_, hcl, hat⟩ := World.cells?_some hc
      obtain ⟨x, e1, e2⟩ := act_cells hcl ht'
      refine ⟨x, fun j u hu => ?_, e2⟩
      have hj : j < 8 := by have := (List.getElem?_eq_some_iff.1 hu).1; rwa [acv_len] at this
      have := hat j hj
      rw [Go.Deep.add_add] at this
      rw [this, e1]
      exact hu
    have pick : ∃ f : Nat → Ac, ∀ i, i < n → (∀ j u, (acv (f i))[j]? = some u → w.cell? (a.add (i * 8 + j)) = some u) ∧ (f i).fine := by
      refine ⟨fun i => if h : i < n then (each i h).choose else Ac.none0, fun i hin => ?_⟩
      have := (each i hin).choose_spec
      simp only [hin, dif_pos]
      exact this
    obtain ⟨f, hf⟩ := pick
    have row : ∀ (k : Nat) (hk : k ≤ n) (j : Nat) (u : Value), (acvs ((List.range k).map f))[j]? = some u → w.cell? (a.add j) = some u := by
      intro k
      induction k with
      | zero => intro _ j u h; simp [acvs] at h
      | succ k ih =>
        intro hk j u h
        rw [List.range_succ, List.map_append, acvs_append, List.getElem?_append] at h
        split at h
        · exact ih (by omega) j u h
        · rename_i hge
          rw [acvs_len] at h hge
          simp only [List.length_map, List.length_range] at h hge
          simp only [List.map_cons, List.map_nil, acvs_one] at h
          have := (hf k (by omega)).1 _ _ h
          rwa [show k * 8 + (j - k * 8) = j from by omega] at this
    refine ⟨(List.range n).map f, ⟨by simp, hl, hm, ?_, ?_⟩, one_le_bulk _, .inr ⟨_, _, by rw [hx], by simp⟩⟩
    · intro j u hu
      have hc1 := row n (Nat.le_refl _) j u hu
      refine ⟨a, rfl, ?_, hc1⟩
      have := World.block_lt_of_cell? w _ hc1
      rwa [add_block] at this
    · intro x hx
      obtain ⟨i, hi1, rfl⟩ := List.mem_map.1 hx
      exact (hf i (by simpa using hi1)).2
end
end Go.Proofs.Ytohgkadbajmphaa
namespace Go.Proofs.Ytohgkadbajmphaa
open Go.RowKit
set_option linter.unusedVariables false
def tvs (ts : List (List UInt8)) : List Value := ts.map fun t => .string ⟨t.toArray⟩
def bvs (rev : Nat → Bool) : List Value := (List.range 40).map fun j => .bool (rev j)
theorem bvs_len (rev : Nat → Bool) : (bvs rev).length = 40 := by simp [bvs]
theorem bvs_at (rev : Nat → Bool) {j : Nat} (h : j < 40) : (bvs rev)[j]? = some (.bool (rev j)) := by simp [bvs, h]
theorem bvs_set (rev : Nat → Bool) {j : Nat} (h : j < 40) : (bvs rev).set j (.bool true) = bvs (fun i => if i = j then true else rev i) := by
  apply List.ext_getElem?
  intro i
  by_cases hi : i < 40
  · rw [List.getElem?_set, bvs_at _ hi, bvs_at _ hi, bvs_len]
    by_cases e : j = i
    · subst e
      rw [if_pos rfl, if_pos h, if_pos rfl]
    · rw [if_neg e, if_neg (fun e2 => e e2.symm)]
  · rw [List.getElem?_eq_none (by simp [bvs_len]; omega), List.getElem?_eq_none (by rw [bvs_len]; omega)]
theorem tvs_at {ts : List (List UInt8)} {i : Nat} {t : List UInt8} (h : ts[i]? = some t) : (tvs ts)[i]? = some (.string ⟨t.toArray⟩) := by simp [tvs, h]
/-- what the loop keeps -/
structure PlS (w4 : World) (B T g gR : Nat) (key : List UInt8) (ts : List (List UInt8)) (A : Option Addr) (c asked : Nat) (rev : Nat → Bool) (kk : Nat) (W : World) : Prop where
  toks : Own W T 9 1 A ts.length c (tvs ts)
  revs : Own W T 4 1 (some ⟨gR, 0, none⟩) 40 40 (bvs rev)
  keep : Keep W B T g key ts.length asked rev kk
  out : Out B T w4 W
  small : ∀ t ∈ ts, t.length ≤ 150
section
variable {w2 W W' : World} {B T g gR c asked kk : Nat} {key : List UInt8} {ts : List (List UInt8)} {A : Option Addr} {rev : Nat → Bool}
theorem PlS.grew (h : PlS w2 B T g gR key ts A c asked rev kk W) (hg : Grew W W') : PlS w2 B T g gR key ts A c asked rev kk W' :=
  ⟨h.toks.below_all hg, h.revs.below_all hg, h.keep.grew hg, h.out.grew hg, h.small⟩
/-- the keeper was called, and has no more tokens -/
theorem PlS.called {asked' kk' : Nat} (h : PlS w2 B T g gR key ts A c asked rev kk W) (ho : Out B T W W') (hk : Keep W' B T g key ts.length asked' rev kk') : PlS w2 B T g gR key ts A c asked' rev kk' W' :=
  ⟨h.toks.out ho, h.revs.out ho, hk, h.out.trans ho, h.small⟩
theorem PlS.row (h : PlS w2 B T g gR key ts A c asked rev kk W) : gR < W.heap.size ∧ ∀ j, j < 40 → W.cell? ⟨gR, j, none⟩ = some (.bool (rev j)) := by
  refine ⟨(h.revs.lt gR rfl).2, fun j hj => ?_⟩
  have := h.revs.cellAt (bvs_at rev hj)
  rw [Nat.zero_add] at this
  exact this
end
theorem own_types {w : World} {b1 b2 s1 s2 n1 n2 c1 c2 g o : Nat} {e1 e2 : TypeId} {A1 : Option Addr} {x1 x2 : List Value} (h : Own w b1 e1 s1 A1 n1 c1 x1) (k : Own w b2 e2 s2 (some ⟨g, o, none⟩) n2 c2 x2) (hne : e1 ≠ e2) : blk (some ⟨g, o, none⟩) ≠ blk A1 := by
  rcases h.2.2.2 with ⟨rfl, _⟩ | ⟨g1, o1, cur, fr, rfl, _, hh, _⟩
  · intro e; cases e
  · rcases k.2.2.2 with ⟨h0, _⟩ | ⟨g2, o2, cur2, fr2, h0, _, hh2, _⟩
    · cases h0
    · simp only [Option.some.injEq, Addr.mk.injEq] at h0
      obtain ⟨rfl, rfl, _⟩ := h0
      intro e
      simp [blk] at e
      subst e
      rw [hh] at hh2
      injection hh2 with hh2
      injection hh2 with _ he _
      exact hne he
/-- one more token -/
theorem PlS.push {w4 W W' : World} {B T g gR c asked kk c' : Nat} {key TK : List UInt8} {ts : List (List UInt8)} {A A' : Option Addr} {rev : Nat → Bool} {tmp : Obj} (hT : w4.heap.size = T) (ht : Own W T 9 1 A ts.length c (tvs ts)) (hr : Own W T 4 1 (some ⟨gR, 0, none⟩) 40 40 (bvs rev))
    (hk : Keep W B T g key (ts.length + 1) asked rev kk) (ho : Out B T w4 W) (hs : ∀ t ∈ ts, t.length ≤ 150) (hl : TK.length ≤ 150) (hO : Own W' T 9 1 A' (ts.length + 1) c' (tvs (ts ++ [TK]))) (hg : (W.alloc tmp).grownBy W' (blk A)) :
    PlS w4 B T g gR key (ts ++ [TK]) A' c' asked rev kk W' := by
  have e : (ts ++ [TK]).length = ts.length + 1 := by simp
  refine ⟨by rw [e]; exact hO, Own.grown (hr.alloc tmp) hg (.inr (own_types (ht.alloc tmp) (hr.alloc tmp) (by decide))), by rw [e]; exact (hk.grew (grew_alloc W tmp)).other hg (fun r e => (Own.lt ht r e).1), (ho.grew (grew_alloc W tmp)).other hg (fun r e => by rw [hT]; exact (Own.lt ht r e).1), fun t h => ?_⟩
  rcases List.mem_append.1 h with h | h
  · exact hs t h
  · rw [List.mem_singleton.1 h]; exact hl
/-- a token was revoked -/
theorem PlS.revoke {w4 W : World} {B T g gR c asked kk j : Nat} {key : List UInt8} {ts : List (List UInt8)} {A : Option Addr} {rev : Nat → Bool} (hT : w4.heap.size = T) (hj : j < 40) (ht : Own W T 9 1 A ts.length c (tvs ts)) (hr : Own W T 4 1 (some ⟨gR, 0, none⟩) 40 40 (bvs rev))
    (hk : Keep W B T g key ts.length asked (fun i => if i = j then true else rev i) kk) (ho : Out B T w4 W) (hs : ∀ t ∈ ts, t.length ≤ 150) :
    PlS w4 B T g gR key ts A c asked (fun i => if i = j then true else rev i) kk (W.setCell ⟨gR, j, none⟩ (.bool true)) := by
  have hTg : T ≤ gR := (Own.lt hr gR rfl).1
  have hg : W.grownBy (W.setCell ⟨gR, j, none⟩ (.bool true)) (some gR) := grown_cell W ⟨gR, j, none⟩ _
  have h1 := Own.set hr (j := j) (by omega) (.bool true)
  rw [Nat.zero_add, bvs_set rev hj] at h1
  exact ⟨Own.grown ht hg (.inr (fun e => own_types ht hr (by decide) e.symm)), h1, hk.other hg (fun r e => by injection e with e; omega), ho.other hg (fun r e => by injection e with e; omega), hs⟩
theorem wrap_at {z : Int} (h : i64r z) : (0 ≤ z ∧ IntKind.u64.wrap z = z) ∨ (z < 0 ∧ IntKind.u64.wrap z = z + 18446744073709551616) := by
  unfold i64r at h
  by_cases h0 : 0 ≤ z
  · exact .inl ⟨h0, IntWalk.u64_in _ (by omega)⟩
  · refine .inr ⟨by omega, ?_⟩
    have e : IntKind.u64.wrap z = z % 18446744073709551616 := by simp [IntKind.wrap, IntKind.bits, IntKind.signed]
    rw [e]
    omega
theorem run_strTo (t : List UInt8) (p : Nat) (hp : p ≤ t.length) (W : World) : (Instr.slice 9 (.string ⟨t.toArray⟩) none (some (.int .i64 (p : Int))) none).run Try.prog W = .ok (.string ⟨(t.take p).toArray⟩) W := by
  have hsz : (⟨t.toArray⟩ : ByteArray).size = t.length := by show t.toArray.size = _; simp
  have hex : (⟨t.toArray⟩ : ByteArray).extract 0 p = ⟨(t.take p).toArray⟩ := by rw [ba_extract]; simp
  simp [go_sem, Try.underlying9, hsz, hex, hp]
theorem run_strFrom (t : List UInt8) (p : Nat) (hp : p ≤ t.length) (W : World) : (Instr.slice 9 (.string ⟨t.toArray⟩) (some (.int .i64 (p : Int))) none none).run Try.prog W = .ok (.string ⟨(t.drop p).toArray⟩) W := by
  have hsz : (⟨t.toArray⟩ : ByteArray).size = t.length := by show t.toArray.size = _; simp
  have hex : (⟨t.toArray⟩ : ByteArray).extract p t.length = ⟨(t.drop p).toArray⟩ := by rw [ba_extract, List.take_of_length_le (by simp)]
  simp [go_sem, Try.underlying9, hsz, hex, hp]
theorem exec_strTo {o : Oper} {ev : Operand → Value} (X Y : Operand) (ho : o.op = .slice 9 X none (some Y) none) {t : List UInt8} {p : Nat} (hX : ev X = .string ⟨t.toArray⟩) (hY : ev Y = .int .i64 (p : Int)) (hp : p ≤ t.length) (W : World) : (execOp ev o).run Try.prog W = .ok (.value (.string ⟨(t.take p).toArray⟩)) W := by
  unfold execOp
  simp only [ho, hX, hY, Option.map_some, Option.map_none, Instr.sliceAt, Sem.run_bind, run_underlying Try.underlying9, run_strTo t p hp W, Result.andThen_ok, Sem.run_pure]
theorem exec_strFrom {o : Oper} {ev : Operand → Value} (X Y : Operand) (ho : o.op = .slice 9 X (some Y) none none) {t : List UInt8} {p : Nat} (hX : ev X = .string ⟨t.toArray⟩) (hY : ev Y = .int .i64 (p : Int)) (hp : p ≤ t.length) (W : World) : (execOp ev o).run Try.prog W = .ok (.value (.string ⟨(t.drop p).toArray⟩)) W := by
  unfold execOp
  simp only [ho, hX, hY, Option.map_some, Option.map_none, Instr.sliceAt, Sem.run_bind, run_underlying Try.underlying9, run_strFrom t p hp W, Result.andThen_ok, Sem.run_pure]
theorem run_strAdd (a b : List UInt8) (hl : a.length + b.length ≤ 9223372036854775807) (W : World) : (binOp .add 9 (.string ⟨a.toArray⟩) (.string ⟨b.toArray⟩)).run Try.prog W = .ok (.string ⟨(a ++ b).toArray⟩) W := by
  have h := ba_append a b
  simp [go_sem, h, hl]
theorem exec_strAdd {o : Oper} {ev : Operand → Value} {rt : TypeId} (X Y : Operand) (ho : o.op = .binOp .add 9 X Y rt) {a b : List UInt8} (hX : ev X = .string ⟨a.toArray⟩) (hY : ev Y = .string ⟨b.toArray⟩) (hl : a.length + b.length ≤ 9223372036854775807) (W : World) : (execOp ev o).run Try.prog W = .ok (.value (.string ⟨(a ++ b).toArray⟩)) W := by
  unfold execOp
  simp [ho, hX, hY, run_strAdd a b hl W, eqGuard]
theorem xor_byte (a b : Int) : ∃ z : UInt8, bits .xor .u8 a b = (z.toNat : Int) := by
  obtain ⟨v, hv⟩ : ∃ v, v = (BitVec.ofInt 8 a ^^^ BitVec.ofInt 8 b).toNat := ⟨_, rfl⟩
  have h : v < 256 := by rw [hv]; exact (BitVec.ofInt 8 a ^^^ BitVec.ofInt 8 b).isLt
  refine ⟨UInt8.ofNat v, ?_⟩
  show IntKind.u8.wrap ((BitVec.ofInt 8 a ^^^ BitVec.ofInt 8 b).toNat : Int) = _
  rw [← hv, IntWalk.u8_in _ (by omega), UInt8.toNat_ofNat']
  omega
/-- a text of which a byte is another one -/
def spoilt (t : List UInt8) (p : Nat) (z : UInt8) : List UInt8 := t.take p ++ [z] ++ t.drop (p + 1)
theorem spoilt_len {t : List UInt8} {p : Nat} {z : UInt8} (h : p < t.length) : (spoilt t p z).length = t.length := by
  unfold spoilt
  simp
  omega
theorem revoked_cases {w : World} {base top g : Nat} {key : List UInt8} {issued asked k num : Nat} {rev : Nat → Bool} {e : Ending} {w' : World} (h : Revoked w base top g key issued asked rev k num e w') :
    (¬ (num < 1 ∨ issued < num) → e = .returned (.int .i64 0) ∧ Keep w' base top g key issued asked (fun j => if j = num then true else rev j) (k + 1) ∧ Out base top w w') ∧ ((num < 1 ∨ issued < num) → e = .returned (.int .i64 1) ∧ w = w') := by
  unfold Revoked at h
  exact ⟨fun hn => by rw [if_neg hn] at h; exact h, fun hn => by rw [if_pos hn] at h; exact h⟩
end Go.Proofs.Ytohgkadbajmphaa
namespace Go.Proofs.Ytohgkadbajmphaa
open Go.RowKit
set_option linter.unusedVariables false
/-- the cells of a claim that lies in a block -/
theorem claim_cells {W : World} {g : Nat} {c : AuthP.Cl} (h : ArrV W g (clv c)) : W.cell? ⟨g, 0, none⟩ = some (.int .i64 (c.dev : Int)) ∧ W.cell? ⟨g, 1, none⟩ = some (.int .u64 (c.epoch : Int)) ∧ W.cell? ⟨g, 2, none⟩ = some (.int .u64 (c.num : Int)) ∧ W.cell? ⟨g, 3, none⟩ = some (.int .i64 (c.over : Int)) :=
  ⟨h.atSome (i := 0) rfl, h.atSome (i := 1) rfl, h.atSome (i := 2) rfl, h.atSome (i := 3) rfl⟩
theorem zero_cells {W : World} {g : Nat} (h : ArrV W g (clv AuthP.none0)) : W.cell? ⟨g, 0, none⟩ = some (.int .i64 0) ∧ W.cell? ⟨g, 1, none⟩ = some (.int .u64 0) ∧ W.cell? ⟨g, 2, none⟩ = some (.int .u64 0) ∧ W.cell? ⟨g, 3, none⟩ = some (.int .i64 0) := claim_cells h
theorem claim_made (W : World) (c : AuthP.Cl) : ArrV (W.alloc (.cells #[.int .i64 (c.dev : Int), .int .u64 (c.epoch : Int), .int .u64 (c.num : Int), .int .i64 (c.over : Int)] 50)) W.heap.size (clv c) := ArrV.made W _ _
theorem verify_no {key t : List UInt8} {issued : Nat} {rev : Nat → Bool} {now : Int} (hp : AuthP.parse t = none) : AuthP.verifyC key issued rev t now = AuthP.none0 ∧ AuthP.verifyE key issued rev t now = 8 := by
  unfold AuthP.verifyC AuthP.verifyE
  rw [hp]
  exact ⟨rfl, rfl⟩
theorem verify_yes {key t b s : List UInt8} {c : AuthP.Cl} {issued : Nat} {rev : Nat → Bool} {now : Int} (hp : AuthP.parse t = some (c, b, s)) :
    AuthP.verifyC key issued rev t now = (if ShaP.hex (ShaP.mac key b) ≠ s ∨ issued < c.num then AuthP.none0 else if rev c.num = true then AuthP.none0 else if (c.over : Int) ≤ now then AuthP.none0 else c) ∧
    AuthP.verifyE key issued rev t now = (if ShaP.hex (ShaP.mac key b) ≠ s ∨ issued < c.num then 8 else if rev c.num = true then 10 else if (c.over : Int) ≤ now then 9 else 0) := by
  unfold AuthP.verifyC AuthP.verifyE
  rw [hp]
  exact ⟨rfl, rfl⟩
theorem body_short {t b s : List UInt8} {c : AuthP.Cl} (hp : AuthP.parse t = some (c, b, s)) : b.length ≤ t.length := by
  rw [parse_eq] at hp
  split at hp
  · obtain ⟨c', h1, h2⟩ := Option.map_eq_some_iff.1 hp
    simp only [Prod.mk.injEq] at h2
    rw [← h2.2.1, ShaP.unhex_len]
    have h3 : (behind t).length ≤ t.length := by unfold behind; split <;> simp
    have h4 : (dotA (behind t)).length ≤ (behind t).length := by
      unfold dotA
      cases hs : AuthP.split (behind t) with
      | none => simp
      | some p =>
        have := congrArg List.length (AuthP.split_eq (f := p.1) (s := p.2) (by rw [hs])).1
        simp at this ⊢
        omega
    omega
  · cases hp
set_option maxRecDepth 100000 in
set_option maxHeartbeats 4000000 in
theorem law_verified (t key : List UInt8) (A : Option Addr) (n cp gR : Nat) (rev : Nat → Bool) (issued : Nat) (now : Int) (C : AuthP.Cl) (E : Int) (w : World)
    (hC : AuthP.verifyC key issued rev t now = C) (hE : AuthP.verifyE key issued rev t now = E)
    (hS : Sl w w.heap.size A n cp key) (hkey : key.length ≤ 1000000) (hm : t.length ≤ 1000000)
    (hR : gR < w.heap.size ∧ ∀ j, j < 40 → w.cell? ⟨gR, j, none⟩ = some (.bool (rev j))) (hi : issued ≤ 30) :
    Calls Try.prog 36 #[.string ⟨t.toArray⟩, .slice A n cp, .slice (some ⟨gR, 0, none⟩) 40 40, .int .i64 (issued : Int), .int .i64 now, .agg #[.int .i64 (C.dev : Int), .int .u64 (C.epoch : Int), .int .u64 (C.num : Int), .int .i64 (C.over : Int)], .int .i64 E] w fun e w' => e = .returned (.bool true) ∧ Grew w w' := by
  have HCC := Lib.hid hC
  have HEE := Lib.hid hE
  have HS := Lib.hid hS
  have HR := Lib.hid hR
  have hnk : n ≤ 1000000 := by rw [← hS.1]; exact hkey
  have HRead : Hid (∀ W, Calls Try.prog 31 #[.string ⟨t.toArray⟩] W fun e w' => e = .returned (.tuple #[.agg #[.int .i64 ((readC t).dev : Int), .int .u64 ((readC t).epoch : Int), .int .u64 ((readC t).num : Int), .int .i64 ((readC t).over : Int)], .int .i64 (readE t)]) ∧ Grew W w') := Lib.hid fun W => auth_Read t W (by omega)
  have HLaw : Hid (∀ W, Calls Try.prog 38 #[.string ⟨t.toArray⟩] W (ReadL W t)) := Lib.hid fun W => law_read t W (by omega)
  clear hC hE hS hR
  obtain ⟨w1, hw1⟩ : ∃ w1, w1 = w.alloc (.cells #[.int .i64 (C.dev : Int), .int .u64 (C.epoch : Int), .int .u64 (C.num : Int), .int .i64 (C.over : Int)] 50) := ⟨_, rfl⟩
  obtain ⟨b12, hb12⟩ : ∃ b, b = w.heap.size := ⟨_, rfl⟩
  have HA12 := Lib.hid (show ArrV w1 b12 (clv C) by rw [hw1, hb12]; exact claim_made w C)
  have HG1 := Lib.hid (show Grew w w1 by rw [hw1]; exact (Below.refl _ _).alloc (Nat.le_refl _) _)
  have HW1 := Lib.hid (And.intro hw1 hb12)
  clear hw1 hb12
  go_enter Try.func36, Try.ntmps36
  go_upto_region 1 with fail
  rw [← HW1.out.1, ← HW1.out.2]
  rcases hp : AuthP.parse t with _ | ⟨c, b, s⟩
  · have hCE := verify_no (key := key) (issued := issued) (rev := rev) (now := now) hp
    obtain rfl : C = AuthP.none0 := HCC.out.symm.trans hCE.1
    obtain rfl : E = 8 := HEE.out.symm.trans hCE.2
    have hc0 : readC t = AuthP.none0 := by unfold readC; rw [hp]
    have he0 : readE t = 8 := by unfold readE; rw [hp]
    rw [hc0, he0] at HRead
    have HLaw' : Hid (∀ W, Calls Try.prog 38 #[.string ⟨t.toArray⟩] W fun e w' => e = .returned (.tuple #[.agg #[.int .i64 0, .int .u64 0, .int .u64 0, .int .i64 0], .slice none 0 0, .string ⟨#[]⟩, .bool false]) ∧ Grew W w') := Lib.hid fun W => by
      have := HLaw.out W
      unfold ReadL at this
      rw [hp] at this
      exact this
    clear hCE hc0 he0 HLaw hp HCC HEE
    have HRead' : Hid (∀ W, Calls Try.prog 31 #[.string ⟨t.toArray⟩] W fun e w' => e = .returned (.tuple #[.agg #[.int .i64 0, .int .u64 0, .int .u64 0, .int .i64 0], .int .i64 8]) ∧ Grew W w') := Lib.hid fun W => HRead.out W
    clear HRead
    go_upto_region 2 with (go_at_call 38; refine (HLaw'.out _).mono ?_; rintro e w2 ⟨rfl, hG⟩; have HG2 := Lib.hid hG; clear hG)
    obtain ⟨w3, hw3⟩ : ∃ W, W = w2.alloc (.cells #[.int .i64 0, .int .u64 0, .int .u64 0, .int .i64 0] 50) := ⟨_, rfl⟩
    obtain ⟨b15, hb15⟩ : ∃ b, b = w2.heap.size := ⟨_, rfl⟩
    have HA15 := Lib.hid (show ArrV w3 b15 (clv AuthP.none0) by rw [hw3, hb15]; exact claim_made w2 AuthP.none0)
    have HG3 := Lib.hid (show Grew w1 w3 by rw [hw3]; exact HG2.out.trans ((Below.refl _ _).alloc (Nat.le_refl _) _))
    rw [← hw3, ← hb15]
    clear hw3 hb15
    go_upto_region 3 with (go_at_call 31; refine (HRead'.out _).mono ?_; rintro e w4 ⟨rfl, hG⟩; have HG4 := Lib.hid hG; clear hG)
    obtain ⟨w5, hw5⟩ : ∃ W, W = w4.alloc (.cells #[.int .i64 0, .int .u64 0, .int .u64 0, .int .i64 0] 50) := ⟨_, rfl⟩
    obtain ⟨b19, hb19⟩ : ∃ b, b = w4.heap.size := ⟨_, rfl⟩
    have HA19 := Lib.hid (show ArrV w5 b19 (clv AuthP.none0) by rw [hw5, hb19]; exact claim_made w4 AuthP.none0)
    have HG35 := Lib.hid (show Grew w3 w5 by rw [hw5]; exact HG4.out.trans ((Below.refl _ _).alloc (Nat.le_refl _) _))
    rw [← hw5, ← hb19]
    clear hw5 hb19
    obtain ⟨p0, p1, p2, p3⟩ := zero_cells (HA12.out.grew (HG3.out.trans HG35.out))
    obtain ⟨q0, q1, q2, q3⟩ := zero_cells (HA15.out.grew HG35.out)
    obtain ⟨r0, r1, r2, r3⟩ := zero_cells HA19.out
    go_wp2_with fail
    go_ret
    exact ⟨rfl, HG1.out.trans (HG3.out.trans HG35.out)⟩
  · have hCE := verify_yes (key := key) (issued := issued) (rev := rev) (now := now) hp
    rw [HCC.out, HEE.out] at hCE
    have hc0 : readC t = c := by unfold readC; rw [hp]
    have he0 : readE t = 0 := by unfold readE; rw [hp]
    rw [hc0, he0] at HRead
    have hbs := body_short hp
    have HLaw' : Hid (∀ W, Calls Try.prog 38 #[.string ⟨t.toArray⟩] W fun e w' => ∃ A n cp, e = .returned (.tuple #[.agg #[.int .i64 (c.dev : Int), .int .u64 (c.epoch : Int), .int .u64 (c.num : Int), .int .i64 (c.over : Int)], .slice A n cp, .string ⟨s.toArray⟩, .bool true]) ∧ OwnB w' W.heap.size A n cp b ∧ Grew W w') := Lib.hid fun W => by
      have := HLaw.out W
      unfold ReadL at this
      rw [hp] at this
      exact this
    have HCE := Lib.hid hCE
    clear hCE hc0 he0 HLaw hp HCC HEE
    go_upto_region 2 with (go_at_call 38; refine (HLaw'.out _).mono ?_; rintro e w2 ⟨Ab, nb, cb, rfl, hO, hG⟩; have HG2 := Lib.hid hG; have HOb := Lib.hid hO; clear hG hO)
    obtain ⟨w3, hw3⟩ : ∃ W, W = w2.alloc (.cells #[.int .i64 (c.dev : Int), .int .u64 (c.epoch : Int), .int .u64 (c.num : Int), .int .i64 (c.over : Int)] 50) := ⟨_, rfl⟩
    obtain ⟨b15, hb15⟩ : ∃ b, b = w2.heap.size := ⟨_, rfl⟩
    have HA15 := Lib.hid (show ArrV w3 b15 (clv c) by rw [hw3, hb15]; exact claim_made w2 c)
    have HG23 := Lib.hid (show Grew w2 w3 by rw [hw3]; exact (Below.refl _ _).alloc (Nat.le_refl _) _)
    have HG3 := Lib.hid (HG2.out.trans HG23.out)
    rw [← hw3, ← hb15]
    clear hw3 hb15
    go_upto_region 3 with (go_at_call 31; refine (HRead.out _).mono ?_; rintro e w4 ⟨rfl, hG⟩; have HG4 := Lib.hid hG; clear hG)
    obtain ⟨w5, hw5⟩ : ∃ W, W = w4.alloc (.cells #[.int .i64 (c.dev : Int), .int .u64 (c.epoch : Int), .int .u64 (c.num : Int), .int .i64 (c.over : Int)] 50) := ⟨_, rfl⟩
    obtain ⟨b19, hb19⟩ : ∃ b, b = w4.heap.size := ⟨_, rfl⟩
    have HA19 := Lib.hid (show ArrV w5 b19 (clv c) by rw [hw5, hb19]; exact claim_made w4 c)
    have HG35 := Lib.hid (show Grew w3 w5 by rw [hw5]; exact HG4.out.trans ((Below.refl _ _).alloc (Nat.le_refl _) _))
    have HGw5 := Lib.hid (HG1.out.trans (HG3.out.trans HG35.out))
    rw [← hw5, ← hb19]
    clear hw5 hb19
    obtain ⟨q0, q1, q2, q3⟩ := claim_cells (HA15.out.grew HG35.out)
    obtain ⟨r0, r1, r2, r3⟩ := claim_cells HA19.out
    obtain ⟨M, hM⟩ : ∃ M, M = ShaP.mac key b := ⟨_, rfl⟩
    have hMl : M.length = 32 := by rw [hM]; exact ShaP.mac_len _ _
    obtain ⟨D, hD⟩ : ∃ C, C = M.map b8 := ⟨_, rfl⟩
    have HOb5 := Lib.hid (HOb.out.below_all (HG23.out.trans HG35.out))
    have hbl : nb ≤ 1000000 := by rw [← HOb.out.len]; omega
    have hMac := ref_mac A Ab n cp nb cb w5.heap.size key b w5 ((HS.out.below HGw5.out).more HGw5.out.size) HOb5.out.sl (Nat.le_refl _) (by omega) (by omega)
    rw [← hM, ← hD] at hMac
    rw [← hM] at HCE
    have HMac := Lib.hid hMac
    have HMl := Lib.hid hMl
    have HDM := Lib.hid hD
    clear hMac hM hMl hD
    have HMK := Lib.hid (show ∀ W : World, W.alloc (.cells #[.int .u8 0, .int .u8 0, .int .u8 0, .int .u8 0, .int .u8 0, .int .u8 0, .int .u8 0, .int .u8 0, .int .u8 0, .int .u8 0, .int .u8 0, .int .u8 0, .int .u8 0, .int .u8 0, .int .u8 0, .int .u8 0, .int .u8 0, .int .u8 0, .int .u8 0, .int .u8 0, .int .u8 0, .int .u8 0, .int .u8 0, .int .u8 0, .int .u8 0, .int .u8 0, .int .u8 0, .int .u8 0, .int .u8 0, .int .u8 0, .int .u8 0, .int .u8 0] 23) = W.alloc (.cells dzeros 23) from fun _ => by kernel_rfl)
    go_upto_region 8 with (first
      | (go_at_call 24; refine HMac.out.mono ?_; rintro e w6 ⟨rfl, hB6⟩; have HG6 := Lib.hid hB6; clear hB6; have HST := Lib.hid (boxed_store w6 D M HMl.out HDM.out))
      | (rw [HMK.out]; refine wpList_store_mid rfl 23 (.tmp 22) (.tmp 61) rfl w6.heap.size 0 D.toArray rfl rfl HST.out.1 HST.out.2.1 HST.out.2.2.1 ?_))
    obtain ⟨w7, hw7⟩ : ∃ W, W = boxed32 w6 D := ⟨_, rfl⟩
    obtain ⟨b22, hb22⟩ : ∃ b, b = w6.heap.size := ⟨_, rfl⟩
    have HG57 := Lib.hid (show Grew w5 w7 by rw [hw7]; exact Grew.trans HG6.out (boxed_grew w6 D))
    have HA22 := Lib.hid (show ArrV w7 b22 (M.map b8) by rw [hw7, hb22, ← HDM.out]; exact HST.out.2.2.2.1)
    rw [show (w6.alloc (.cells dzeros 23)).setCells w6.heap.size 0 D = w7 from by rw [hw7]; rfl, ← hb22]
    clear hw7 hb22 HST HG6 HMac HMK HOb5 HRead
    have HHx := Lib.hid (ref_hex (some ⟨b22, 0, none⟩) 32 32 w7.heap.size M w7 (HA22.out.sl (n := 32) (c := 32) HMl.out (Nat.le_refl _) (by unfold maxLen; omega)) (Nat.le_refl _) (by omega))
    obtain ⟨X, hX⟩ : ∃ X, X = ShaP.hex M := ⟨_, rfl⟩
    rw [← hX] at HHx HCE
    have hwi := wrap_u64i (a := (issued : Int)) (by omega) (by omega)
    have HHx := HHx
    clear hX q0 q1 q2 q3 r0 r1 r2 r3 HMl HDM
    have HA15' := Lib.hid (HA15.out.grew (HG35.out.trans HG57.out))
    have HG7 := Lib.hid (HGw5.out.trans HG57.out)
    have HA12' := Lib.hid (HA12.out.grew (HG3.out.trans (HG35.out.trans HG57.out)))
    have hq0 : w7.cell? ⟨b15, 2, none⟩ = some (.int .u64 (c.num : Int)) := (claim_cells HA15'.out).2.2.1
    clear hq0
    by_cases hbad : X ≠ s ∨ issued < c.num
    · have e1 := HCE.out.1.trans (if_pos hbad)
      have e2 := HCE.out.2.trans (if_pos hbad)
      subst e1 e2
      by_cases hxs : X = s
      · have hxb : (X == s) = true := by rw [hxs]; simp
        have hni : ¬ (c.num : Int) ≤ (issued : Int) := by rcases hbad with h | h; exact absurd hxs h; omega
        have hnd : decide (c.num ≤ issued) = false := by simp; omega
        clear hxs hbad
        go_upto_region 9 with (go_at_call 26; refine HHx.out.mono ?_; rintro e w8 ⟨rfl, hG⟩; have HG8 := Lib.hid hG; obtain ⟨q0, q1, q2, q3⟩ := claim_cells (HA15'.out.grew hG); clear hG)
        obtain ⟨p0, p1, p2, p3⟩ := zero_cells (HA12'.out.grew HG8.out)
        go_wp2_with fail
        go_ret
        exact ⟨rfl, HG7.out.trans HG8.out⟩
      · have hxb : (X == s) = false := beq_eq_false_iff_ne.2 hxs
        clear hxs hbad
        go_upto_region 9 with (go_at_call 26; refine HHx.out.mono ?_; rintro e w8 ⟨rfl, hG⟩; have HG8 := Lib.hid hG; obtain ⟨q0, q1, q2, q3⟩ := claim_cells (HA15'.out.grew hG); clear hG)
        obtain ⟨p0, p1, p2, p3⟩ := zero_cells (HA12'.out.grew HG8.out)
        go_wp2_with fail
        go_ret
        exact ⟨rfl, HG7.out.trans HG8.out⟩
    · have e1 := HCE.out.1.trans (if_neg hbad)
      have e2 := HCE.out.2.trans (if_neg hbad)
      have hxs : X = s := Classical.not_not.1 fun h => hbad (.inl h)
      have hxb : (X == s) = true := by rw [hxs]; simp
      have hnn : c.num ≤ issued := Nat.le_of_not_lt fun h => hbad (.inr h)
      have hni : (c.num : Int) ≤ (issued : Int) := by omega
      have hnd : decide (c.num ≤ issued) = true := by simp; omega
      clear hxs hbad
      by_cases hrv : rev c.num = true
      · have f1 := e1.trans (if_pos hrv)
        have f2 := e2.trans (if_pos hrv)
        clear e1 e2
        have e1 := f1
        have e2 := f2
        clear f1 f2
        subst e1 e2
        go_upto_region 9 with (go_at_call 26; refine HHx.out.mono ?_; rintro e w8 ⟨rfl, hG⟩; have HG8 := Lib.hid hG; obtain ⟨q0, q1, q2, q3⟩ := claim_cells (HA15'.out.grew hG); clear hG)
        obtain ⟨p0, p1, p2, p3⟩ := zero_cells (HA12'.out.grew HG8.out)
        have hrc : w8.cell? ⟨gR, c.num, none⟩ = some (.bool true) := by
          rw [Below.cell (show Grew w w8 from HG7.out.trans HG8.out) (p := ⟨gR, c.num, none⟩) (show gR < w.heap.size from HR.out.1), HR.out.2 c.num (by omega), hrv]
        have hn40 : (c.num : Int) < 40 := by omega
        have hn0 : (0 : Int) ≤ (c.num : Int) := by omega
        clear hrv
        go_wp2_with fail
        go_ret
        exact ⟨rfl, HG7.out.trans HG8.out⟩
      · have f1 := e1.trans (if_neg hrv)
        have f2 := e2.trans (if_neg hrv)
        clear e1 e2
        have e1 := f1
        have e2 := f2
        clear f1 f2
        have hrv : rev c.num = false := by simpa using hrv
        by_cases hov : (c.over : Int) ≤ now
        · have f1 := e1.trans (if_pos hov)
          have f2 := e2.trans (if_pos hov)
          clear e1 e2
          have e1 := f1
          have e2 := f2
          clear f1 f2
          subst e1 e2
          go_upto_region 9 with (go_at_call 26; refine HHx.out.mono ?_; rintro e w8 ⟨rfl, hG⟩; have HG8 := Lib.hid hG; obtain ⟨q0, q1, q2, q3⟩ := claim_cells (HA15'.out.grew hG); clear hG)
          obtain ⟨p0, p1, p2, p3⟩ := zero_cells (HA12'.out.grew HG8.out)
          have hrc : w8.cell? ⟨gR, c.num, none⟩ = some (.bool false) := by
            rw [Below.cell (show Grew w w8 from HG7.out.trans HG8.out) (p := ⟨gR, c.num, none⟩) (show gR < w.heap.size from HR.out.1), HR.out.2 c.num (by omega), hrv]
          have hn40 : (c.num : Int) < 40 := by omega
          have hn0 : (0 : Int) ≤ (c.num : Int) := by omega
          clear hrv
          go_wp2_with fail
          go_ret
          exact ⟨rfl, HG7.out.trans HG8.out⟩
        · have f1 := e1.trans (if_neg hov)
          have f2 := e2.trans (if_neg hov)
          clear e1 e2
          have e1 := f1
          have e2 := f2
          clear f1 f2
          subst e2
          obtain rfl := e1.symm
          go_upto_region 9 with (go_at_call 26; refine HHx.out.mono ?_; rintro e w8 ⟨rfl, hG⟩; have HG8 := Lib.hid hG; obtain ⟨q0, q1, q2, q3⟩ := claim_cells (HA15'.out.grew hG); clear hG)
          obtain ⟨p0, p1, p2, p3⟩ := claim_cells (HA12'.out.grew HG8.out)
          have hrc : w8.cell? ⟨gR, c.num, none⟩ = some (.bool false) := by
            rw [Below.cell (show Grew w w8 from HG7.out.trans HG8.out) (p := ⟨gR, c.num, none⟩) (show gR < w.heap.size from HR.out.1), HR.out.2 c.num (by omega), hrv]
          have hn40 : (c.num : Int) < 40 := by omega
          have hn0 : (0 : Int) ≤ (c.num : Int) := by omega
          clear hrv
          go_wp2_with fail
          go_ret
          exact ⟨rfl, HG7.out.trans HG8.out⟩
end Go.Proofs.Ytohgkadbajmphaa
