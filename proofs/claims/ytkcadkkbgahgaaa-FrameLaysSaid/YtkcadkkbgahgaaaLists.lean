/- slices.Grow of nothing, slices.Concat of slices of bytes; a slice of slices of bytes that the call itself owns. -/
import Derived.Test.YtkcadkkbgahgaaaClone
import Derived.Test.YtkcadkkbgahgaaaOpenL
import Derived.Test.YtkcadkkbgahgaaaExt
namespace Go.Proofs.Ytkcadkkbgahgaaa
open Go.RowKit
set_option linter.unusedVariables false
theorem Own.pre {w : World} {base : Nat} {e : TypeId} {size n cap : Nat} {A : Option Addr} {xs : List Value} (h : Own w base e size A n cap xs) {m : Nat} (hm : m ≤ n) : Own w base e size A m cap (xs.take (m * size)) := by
  obtain ⟨h1, h2, h3, h4⟩ := h
  have hle : m * size ≤ n * size := Nat.mul_le_mul_right _ hm
  refine ⟨by rw [List.length_take]; omega, by omega, h3, ?_⟩
  rcases h4 with h | ⟨g, off, cur, fr, ha, hg, hh, hs, hf, hc⟩
  · exact .inl h
  · refine .inr ⟨g, off, cur, fr, ha, hg, hh, hs, hf, fun j u hu => hc j u ?_⟩
    rw [List.getElem?_take] at hu
    split at hu
    · exact hu
    · cases hu
set_option maxHeartbeats 1000000 in
/-- append of so many zeros onto nothing -/
theorem run_append_zeros {P : Program} (w : World) (t xt ty e : TypeId) (i : TypeInfo) (z : Value) (kx : IntKind) (size bytes : Nat) (ht : P.underlying t = some (.slice e)) (hxt : P.underlying xt = some (.int kx)) (hi : P.info? e = some i) (hz : i.zero = some z)
    (hsize : i.size = size) (hby : i.bytes = bytes) (hzs : z.cells.size = size) (hs0 : 0 < size) (k : IntKind) (m : Nat) (hm : 0 < m) (h63 : m ≤ maxLen) (hbytes : m * bytes ≤ 281474976710656) (base : Nat) (hbase : base ≤ w.heap.size) :
    ∃ cap w', (Builtin.append_ #[t, xt] ty #[.slice none 0 0, .int k (m : Int)]).run P w = .ok (.slice (some ⟨w.heap.size, 0, none⟩) m cap) w' ∧ (∃ xs, Own w' base e size (some ⟨w.heap.size, 0, none⟩) m cap xs) ∧ Below w.heap.size w w' ∧ w.heap.size < w'.heap.size := by
  subst hsize
  subst hby
  have hx : m ≤ 9223372036854775807 := by simp only [maxLen] at h63; omega
  have hw : IntKind.i64.wrap (m : Int) = (m : Int) := IntWalk.i64_in _ (by omega)
  have h0 : ¬ ((m : Int) < 0) := by omega
  have h48 : ¬ (281474976710656 < (m : Int) * (i.bytes : Int)) := by
    have : ((m * i.bytes : Nat) : Int) = (m : Int) * (i.bytes : Int) := Int.natCast_mul _ _
    omega
  have hn0 : ¬ (m = 0) := by omega
  have hns : ¬ (m * i.size = 0) := by
    have := Nat.mul_pos hm hs0
    omega
  have hnx : Builtin.nextslicecap m 0 = m := by unfold Builtin.nextslicecap; rw [if_pos (by omega)]
  have h48' : ¬ (281474976710656 < m * i.bytes) := by omega
  have h63' : ¬ (9223372036854775807 < (m : Int)) := by omega
  have hge := grownCap_ge w m 0 e
  have hr : (Builtin.append_ #[t, xt] ty #[.slice none 0 0, .int k (m : Int)]).run P w =
      .ok (.slice (some ⟨w.heap.size, 0, none⟩) m (grownCap w m 0 e)) (w.drew.alloc (.cells (#[] ++ Builtin.zeroCells z.cells m ++ Builtin.zeroCells z.cells (grownCap w m 0 e - m)) e)) := by
    simp [Builtin.append_, run_underlying ht, run_underlying hxt, sizeOf, typeInfo, zeroValue, hi, hz, hw, h0, h48, h48', h63', hn0, hns, hnx, Builtin.firstCells, Question.forced, newRow, grownCap, asInt, asIntOf]
  refine ⟨_, _, hr, ⟨(Builtin.zeroCells z.cells m).toList, ?_⟩, ⟨rfl, rfl, rfl, by simp, fun k hk => Below.heap_alloc w.drew _ k hk⟩, by simp⟩
  refine Own.made w.drew _ e (0, 0) i.size m _ _ hbase (by simp [size_zeroCells, hzs]) hge (grownCap_le_maxLen w m 0 e h63) ?_ (.inr rfl) (fun j u hu => ?_)
  · simp only [Array.size_append, size_zeroCells, hzs]
    simp only [List.size_toArray, List.length_nil, Nat.zero_add]
    rw [← Nat.add_mul]
    exact Nat.mul_le_mul_right _ (by omega)
  · have hjl := (List.getElem?_eq_some_iff.1 hu).1
    rw [← Array.getElem?_toList]
    simp only [Array.toList_append]
    rw [List.getElem?_append_left (by simpa using hjl)]
    simpa using hu
theorem wpList_zeros8 {ops : Array Oper} {rest : List Oper} {o : Oper} {a : Act} {w : World} {Q : Exit → Act → World → Prop} (hw : Region.wanted o (yielded ops a.tmps) = true) (s x : Operand)
    (ho : o.op = .call { callee := .builtin .append, args := #[s, x], argTypes := #[25, 3] })
    (base m : Nat) (k : IntKind) (hs : a.eval s = .slice none 0 0) (hx : a.eval x = .int k (m : Int)) (hm : 0 < m) (h48 : m ≤ 281474976710656) (hbase : base ≤ w.heap.size)
    (h : ∀ A cap w', OwnB w' base A 0 cap [] → Below w.heap.size w w' → w.heap.size < w'.heap.size → A = some ⟨w.heap.size, 0, none⟩ → m ≤ cap → wpList Try.prog ops Q rest (a.put o.dst (.slice A m cap)) w') :
    wpList Try.prog ops Q (o :: rest) a w := by
  obtain ⟨i0, hi, hz0, hz1, hz2⟩ := info_parts info_u8
  obtain ⟨cap, w', hr, ⟨xs, hO⟩, hB, hlt⟩ := run_append_zeros (P := Try.prog) w 25 3 o.type 5 i0 (.int .u8 0) .i64 1 1 Try.underlying25 Try.underlying3 hi hz0 hz1 hz2 rfl (by decide) k m hm (by unfold maxLen; omega) (by omega) base hbase
  refine wpList_value hw (v := .slice (some ⟨w.heap.size, 0, none⟩) m cap) (w' := w') ?_ (h _ _ _ (hO.pre (Nat.zero_le _)) hB hlt rfl hO.le.1)
  unfold execOp
  simp only [ho, resolve, invoke, builtin, Sem.run_bind, Sem.run_pure, Result.andThen_ok, List.map_toArray, List.map_cons, List.map_nil, hs, hx, hr]
set_option maxHeartbeats 400000 in
theorem grow8 (n : Nat) (w : World) (hn : n ≤ 140737488355328) :
    Calls Try.prog 33 #[.slice none 0 0, .int .i64 (n : Int)] w fun e w' => ∃ A cap, e = .returned (.slice A 0 cap) ∧ OwnB w' w.heap.size A 0 cap [] ∧ Below w.heap.size w w' := by
  by_cases h0 : 0 < n
  · have h1 : (0 : Int) < (n : Int) := by omega
    have h2 : decide ((n : Int) < 0) = false := by simp
    go_enter Try.func33, Try.ntmps33
    go_wp2_with (at_builtin; refine wpList_zeros8 rfl (.tmp 20) (.tmp 21) rfl w.heap.size n .i64 rfl rfl h0 (by omega) (Nat.le_refl _) ?_; intro A cap w1 hO hB hlt hA hcap)
    go_ret
    subst hA
    exact ⟨_, _, rfl, hO, hB⟩
  · obtain rfl : n = 0 := by omega
    go_enter Try.func33, Try.ntmps33
    go_wp2_with fail
    go_ret
    exact ⟨none, 0, rfl, Own.nil _ _ _ _, Below.refl _ _⟩
theorem flat_take (ll : List (List UInt8)) (k : Nat) (hk : k < ll.length) : (ll.take (k + 1)).flatten = (ll.take k).flatten ++ ll[k] := by
  rw [List.take_succ_eq_append_getElem hk, List.flatten_append]
  simp
theorem flat_take_le (ll : List (List UInt8)) (k : Nat) : (ll.take k).flatten.length ≤ ll.flatten.length := by
  conv => rhs; rw [← List.take_append_drop k ll, List.flatten_append, List.length_append]
  omega
set_option maxRecDepth 4000 in
set_option maxHeartbeats 1000000 in
theorem concat8 (A : Option Addr) (n c B : Nat) (ll : List (List UInt8)) (w : World) (hn : ll.length = n) (hm : n ≤ maxLen) (hr : LRow w B A ll) (hB : B ≤ w.heap.size) (hz : ll.flatten.length ≤ 140737488355328) :
    Calls Try.prog 27 #[.slice A n c] w (GivesB w ll.flatten) := by
  unfold maxLen at hm
  subst hn
  go_enter Try.func27, Try.ntmps27
  go_wp2_with fail
  go_loop [3, 11] (fun s i => ∃ k : Nat, k ≤ ll.length ∧ i = .int .i64 (k : Int) ∧ s = .int .i64 ((ll.take k).flatten.length : Nat)) (fun _ i => ll.length - (intOf i).toNat)
  case atStart => exact ⟨0, Nat.zero_le _, rfl, rfl⟩
  case round =>
    obtain ⟨k, hk, rfl, rfl⟩ := hrel
    by_cases hlt : k < ll.length
    · obtain ⟨ad, A', c', hA, hab, hc, hc1, hc2, _⟩ := hr k ll[k] (List.getElem?_eq_getElem hlt)
      subst hA
      have h1 := flat_take ll k hlt
      have h2 := flat_take_le ll (k + 1)
      have h3 : (ll.take (k + 1)).flatten.length = (ll.take k).flatten.length + ll[k].length := by rw [h1, List.length_append]
      obtain ⟨m, hm'⟩ : ∃ m, m = ll[k].length := ⟨_, rfl⟩
      rw [← hm'] at hc h3 hc1
      obtain ⟨s, hs⟩ : ∃ s, s = (ll.take k).flatten.length := ⟨_, rfl⟩
      rw [← hs] at h3 ⊢
      have H3 := Lib.hid h3
      have hs2 : s + m ≤ 140737488355328 := by omega
      clear h1 h2 h3 hs hm'
      go_wp2_with fail
      go_round
      case rel => exact ⟨k + 1, by omega, by go_num, by rw [H3.out]; go_num⟩
      case measure => simp [intOf]; omega
    · obtain rfl : k = ll.length := by omega
      have h2 := flat_take_le ll ll.length
      obtain ⟨s, hs⟩ : ∃ s, s = (ll.take ll.length).flatten.length := ⟨_, rfl⟩
      rw [← hs] at h2 ⊢
      clear hs
      go_wp2_with fail
      refine (grow8 s w (by omega)).mono ?_
      rintro e w1 ⟨A1, cap1, rfl, hO1, hB1⟩
      have hs1 := hB1.size
      clear h2
      go_wp2_with fail
      go_loopw [6, 27] (fun s i wr => ∃ (k : Nat) (A2 : Option Addr) (n2 c2 : Nat), k ≤ ll.length ∧ i = .int .i64 (k : Int) ∧ s = .slice A2 n2 c2 ∧ OwnB wr w.heap.size A2 n2 c2 (ll.take k).flatten ∧ Below w.heap.size w wr) (fun _ i _ => ll.length - (intOf i).toNat)
      case atStart => exact ⟨0, A1, 0, cap1, Nat.zero_le _, rfl, rfl, hO1, hB1⟩
      case round =>
        obtain ⟨k, A2, n2, c2, hk, rfl, rfl, hO2, hB2⟩ := hrel
        by_cases hlt : k < ll.length
        · have hrr : LRow wr B A ll := hr.keep fun p hp => hB2.cell (by omega)
          obtain ⟨ad, A', c', hA, hab, hc, hc1, hc2, hrow⟩ := hrr k ll[k] (List.getElem?_eq_getElem hlt)
          subst hA
          have h1 := Lib.hid (flat_take ll k hlt)
          have h2 := flat_take_le ll (k + 1)
          rw [h1.out, List.length_append] at h2
          obtain ⟨x, hx⟩ : ∃ x, x = ll[k] := ⟨_, rfl⟩
          rw [← hx] at hc h2 hc1 hrow
          rw [← hx] at h1
          have hn2 := hO2.len
          have hsz := hB2.size
          have hle : n2 + x.length ≤ 140737488355328 := by omega
          clear hx hn2 h2
          go_wp2_with (at_builtin; refine wpList_app8 rfl (.tmp 31) (.tmp 32) 25 rfl (.inl ⟨_, Try.underlying25⟩) w.heap.size _ _ _ _ rfl hO2 x.length x (Src.slice (by simp) hrow) (.inl hle) hsz ?_; intro A3 cap3 w3 hO3 hg3 hB3 hb3)
          go_roundw
          case rel => exact ⟨k + 1, _, _, _, by omega, by go_num, rfl, by rw [h1.out]; exact hO3, hB2.trans hB3⟩
          case measure => simp [intOf]; omega
        · obtain rfl : k = ll.length := by omega
          go_wp2_with fail
          go_ret
          rw [List.take_length] at hO2
          exact ⟨_, _, _, rfl, hO2, hB2⟩
/-- the slice (A, n, cap) of slices of bytes is the call's own, from block base on, and holds the lists ll, each of them outside of A's block -/
def OwnLL (w : World) (base : Nat) (A : Option Addr) (n cap : Nat) (ll : List (List UInt8)) : Prop :=
  ∃ xs, Own w base 25 1 A n cap xs ∧ ll.length = n ∧ ∀ (i : Nat) (l : List UInt8), ll[i]? = some l →
    ∃ A' c', xs[i]? = some (.slice A' l.length c') ∧ l.length ≤ c' ∧ c' ≤ maxLen ∧ Row w w.heap.size A' (l.map b8) ∧ (∀ g, blk A' = some g → g < w.heap.size ∧ blk A ≠ some g)
theorem OwnLL.nil (w : World) (base : Nat) : OwnLL w base none 0 0 [] := ⟨[], Own.nil _ _ _ _, rfl, fun i l h => by simp at h⟩
theorem OwnLL.len {w : World} {base n cap : Nat} {A : Option Addr} {ll : List (List UInt8)} (h : OwnLL w base A n cap ll) : ll.length = n := by obtain ⟨_, _, h, _⟩ := h; exact h
theorem OwnLL.le {w : World} {base n cap : Nat} {A : Option Addr} {ll : List (List UInt8)} (h : OwnLL w base A n cap ll) : n ≤ cap ∧ cap ≤ maxLen := by obtain ⟨_, h, _⟩ := h; exact h.le
theorem OwnLL.lrow {w : World} {base n cap : Nat} {A : Option Addr} {ll : List (List UInt8)} (h : OwnLL w base A n cap ll) : LRow w w.heap.size A ll := by
  obtain ⟨xs, hO, hl, hx⟩ := h
  intro i l hil
  obtain ⟨A', c', h1, h2, h3, h4, _⟩ := hx i l hil
  obtain ⟨ad, hA, hb, hc⟩ := hO.row (Nat.le_refl _) i _ h1
  exact ⟨ad, A', c', hA, hb, hc, h2, h3, h4⟩
theorem LRow.more {w : World} {B B' : Nat} {A : Option Addr} {ll : List (List UInt8)} (h : LRow w B A ll) (hB : B ≤ B') : LRow w B' A ll := by
  intro i l hil
  obtain ⟨ad, A', c', e, hb, hc, h1, h2, h3⟩ := h i l hil
  exact ⟨ad, A', c', e, by omega, hc, h1, h2, h3.more hB⟩
theorem Row.blk_lt {w : World} {B : Nat} {A : Option Addr} {xs : List Value} (h : Row w B A xs) (hne : xs ≠ []) : ∀ g, blk A = some g → g < B := by
  intro g hg
  rcases xs with _ | ⟨x, r⟩
  · exact absurd rfl hne
  · obtain ⟨ad, e, hb, _⟩ := h 0 x rfl
    subst e
    simp [blk] at hg
    omega
theorem OwnLL.below {w w' : World} {base n cap : Nat} {A : Option Addr} {ll : List (List UInt8)} (h : OwnLL w base A n cap ll) (hb : Below w.heap.size w w') : OwnLL w' base A n cap ll := by
  obtain ⟨xs, hO, hl, hx⟩ := h
  refine ⟨xs, hO.below_all hb, hl, fun i l hil => ?_⟩
  obtain ⟨A', c', h1, h2, h3, h4, h5⟩ := hx i l hil
  exact ⟨A', c', h1, h2, h3, (h4.below hb).more hb.size, fun g hg => ⟨Nat.lt_of_lt_of_le (h5 g hg).1 hb.size, (h5 g hg).2⟩⟩
theorem OwnLL.alloc {w : World} {base n cap : Nat} {A : Option Addr} {ll : List (List UInt8)} (h : OwnLL w base A n cap ll) (o : Obj) : OwnLL (w.alloc o) base A n cap ll := h.below ((Below.refl _ _).alloc (Nat.le_refl _) _)
theorem info_bytes : (Try.prog.info? 25).map (fun i => (i.zero, i.size, i.bytes)) = some (some (.slice none 0 0), 1, 24) := by kernel_rfl
/-- append of one slice of bytes, whose block is not that of the list -/
theorem wpList_appL {ops : Array Oper} {rest : List Oper} {o : Oper} {a : Act} {w : World} {Q : Exit → Act → World → Prop} (hw : Region.wanted o (yielded ops a.tmps) = true) (s x : Operand)
    (ho : o.op = .call { callee := .builtin .append, args := #[s, x], argTypes := #[32, 32] })
    (base : Nat) (A : Option Addr) (n cap : Nat) (ll : List (List UInt8)) (hs : a.eval s = .slice A n cap) (hown : OwnLL w base A n cap ll)
    (A1 : Option Addr) (c1 : Nat) (A' : Option Addr) (c' : Nat) (l : List UInt8) (hx : a.eval x = .slice A1 1 c1) (hxr : Row w w.heap.size A1 [.slice A' l.length c'])
    (hl1 : l.length ≤ c') (hl2 : c' ≤ maxLen) (hl3 : Row w w.heap.size A' (l.map b8)) (hne : ∀ g, blk A' = some g → blk A ≠ some g) (hlt : ∀ g, blk A' = some g → g < w.heap.size)
    (hfit : n ≤ 2932031007403) (hbase : base ≤ w.heap.size)
    (h : ∀ A2 cap2 w', OwnLL w' base A2 (n + 1) cap2 (ll ++ [l]) → Below base w w' → wpList Try.prog ops Q rest (a.put o.dst (.slice A2 (n + 1) cap2)) w') :
    wpList Try.prog ops Q (o :: rest) a w := by
  obtain ⟨xs, hO, hll, hxs⟩ := hown
  obtain ⟨i0, hi, hz0, hz1, hz2⟩ := info_parts info_bytes
  have hle := hO.le
  have hxl : xs.length = n := by have := hO.len; omega
  refine wpList_append_gen w hw s x 32 32 ho base 25 i0 (.slice none 0 0) 1 24 Try.underlying32 (.inl ⟨_, Try.underlying32⟩) hi hz0 hz1 hz2 rfl A n cap xs hs hO 1 [.slice A' l.length c'] (by rw [hx]; exact Src.slice rfl hxr) (by intro u hu; simp at hu; subst hu; rfl) ?_ ?_ hbase ?_
  · unfold maxLen; omega
  · by_cases hroom : n + 1 ≤ cap
    · exact .inl hroom
    · right
      obtain rfl : cap = n := by omega
      exact growslice_fits_succ (by omega) (by omega)
  · intro A2 cap2 w' hO2 hg hor
    refine h A2 cap2 w' ⟨_, hO2, by simp [hll], fun i l' hil => ?_⟩ (below_grown hg hbase fun g e => (hO.lt g e).1)
    have hA2 : blk A2 = blk A ∨ blk A2 = some w.heap.size := by
      rcases hor with ⟨_, rfl, _⟩ | ⟨rfl, _⟩
      · exact .inl rfl
      · exact .inr rfl
    have keep : ∀ (A' : Option Addr) (l : List UInt8), Row w w.heap.size A' (l.map b8) → (∀ g, blk A' = some g → blk A ≠ some g) → Row w' w'.heap.size A' (l.map b8) := by
      intro A' l hr hne
      intro j u hu
      obtain ⟨ad, e, hb, hc⟩ := hr j u hu
      refine ⟨ad, e, Nat.lt_of_lt_of_le hb hg.size, ?_⟩
      rw [← hc]
      exact World.cell?_of_block (hg.block _ (by rw [add_block]; exact hb) (by rw [add_block]; intro e2; exact hne ad.block (by rw [e]; rfl) e2.symm))
    rw [List.getElem?_append] at hil
    split at hil
    · rename_i hi'
      obtain ⟨A3, c3, h1, h2, h3, h4, h5⟩ := hxs i l' hil
      refine ⟨A3, c3, by rw [List.getElem?_append_left (by omega)]; exact h1, h2, h3, keep _ _ h4 (fun g hg => (h5 g hg).2), fun g hg3 => ⟨Nat.lt_of_lt_of_le (h5 g hg3).1 hg.size, ?_⟩⟩
      rcases hA2 with e | e
      · rw [e]; exact (h5 g hg3).2
      · rw [e]
        intro e2
        injection e2 with e2
        have := (h5 g hg3).1
        omega
    · rename_i hi'
      have : i = ll.length := by
        have := (List.getElem?_eq_some_iff.1 hil).1
        simp at this
        omega
      subst this
      simp at hil
      subst hil
      refine ⟨A', c', by rw [List.getElem?_append_right (by omega)]; simp [hll, hxl], hl1, hl2, keep _ _ hl3 hne, fun g hg3 => ⟨Nat.lt_of_lt_of_le (hlt g hg3) hg.size, ?_⟩⟩
      rcases hA2 with e | e
      · rw [e]; exact hne g hg3
      · rw [e]
        intro e2
        injection e2 with e2
        have := hlt g hg3
        omega
theorem Sl.mid {w : World} {B : Nat} {ad : Addr} {n c : Nat} {l : List UInt8} (h : Sl w B (some ad) n c l) (lo hi : Nat) (h1 : lo ≤ hi) (h2 : hi ≤ n) : Sl w B (some (ad.add lo)) (hi - lo) (c - lo) ((l.drop lo).take (hi - lo)) := by
  obtain ⟨hl, hc, hm, hr⟩ := h
  refine ⟨by simp; omega, by omega, by omega, ?_⟩
  have := (hr.drop lo).take (hi - lo)
  rwa [← List.map_drop, ← List.map_take] at this
theorem Sl.zero {w : World} {B : Nat} {A : Option Addr} {c : Nat} (hc : c ≤ maxLen) : Sl w B A 0 c [] := ⟨rfl, Nat.zero_le _, hc, Row.nil⟩
/-- a row of slices that was just laid -/
theorem LRow.build (w : World) (e : TypeId) (fr : Nat × Nat) (C : Array Value) (ll : List (List UInt8)) (hC : ∀ (i : Nat) (l : List UInt8), ll[i]? = some l → ∃ A n c, C[i]? = some (.slice A n c) ∧ Sl w w.heap.size A n c l) :
    LRow (w.alloc (.cells C e fr)) (w.heap.size + 1) (some ⟨w.heap.size, 0, none⟩) ll := by
  intro i l hil
  obtain ⟨A, n, c, h1, hn, hc, hm, hr⟩ := hC i l hil
  subst hn
  refine ⟨_, A, c, rfl, by show w.heap.size < _; omega, ?_, hc, hm, (hr.alloc (Nat.le_refl _) _).more (by omega)⟩
  rw [add_off, cell_blk (heap_alloc_new w _), Nat.zero_add]
  exact h1
theorem GivesB.sl' {w0 : World} {l : List UInt8} {e : Ending} {w' : World} (h : GivesB w0 l e w') : ∃ A n c, e = .returned (.slice A n c) ∧ Sl w' w'.heap.size A n c l ∧ Grew w0 w' := by
  obtain ⟨A, n, c, rfl, hO, hB⟩ := h
  exact ⟨A, n, c, rfl, ⟨hO.len, hO.le.1, hO.le.2, hO.row⟩, hB⟩
theorem OwnB.sl {w : World} {base : Nat} {A : Option Addr} {n c : Nat} {l : List UInt8} (h : OwnB w base A n c l) : Sl w w.heap.size A n c l := ⟨h.len, h.le.1, h.le.2, h.row⟩
theorem Sl.alloc {w : World} {B : Nat} {A : Option Addr} {n c : Nat} {l : List UInt8} (h : Sl w B A n c l) (hB : B ≤ w.heap.size) (o : Obj) : Sl (w.alloc o) B A n c l := ⟨h.1, h.2.1, h.2.2.1, h.2.2.2.alloc hB o⟩
theorem Sl.more {w : World} {B B' : Nat} {A : Option Addr} {n c : Nat} {l : List UInt8} (h : Sl w B A n c l) (hB : B ≤ B') : Sl w B' A n c l := ⟨h.1, h.2.1, h.2.2.1, h.2.2.2.more hB⟩
theorem Sl.drewN {w : World} {B : Nat} {A : Option Addr} {n c : Nat} {l : List UInt8} (h : Sl w B A n c l) (k : Nat) : Sl (w.drewN k) B A n c l := h
end Go.Proofs.Ytkcadkkbgahgaaa
