/- slices.Grow of nothing, slices.Concat of slices of items. -/
import Derived.Test.YtemckkcbakccnaaItemSl
import Derived.Deep.Slices
namespace Go.Proofs.Ytemckkcbakccnaa
open Go.RowKit
set_option linter.unusedVariables false
theorem Own.pre {w : World} {base : Nat} {e : TypeId} {size n cap : Nat} {A : Option Addr} {xs : List Value} (h : Own w base e size A n cap xs) {m : Nat} (hm : m ≤ n) : Own w base e size A m cap (xs.take (m * size)) := by
  obtain ⟨h1, h2, h3, h4⟩ := h
  have hle : m * size ≤ n * size := Nat.mul_le_mul_right _ hm
  refine ⟨by rw [List.length_take]; omega, by omega, h3, ?_⟩
  rcases h4 with h | ⟨g, off, cur, fr, ha, hg, hh, hs, hf, hc⟩
  · exact .inl h
  · refine .inr ⟨g, off, cur, fr, ha, hg, hh, hs, hf, fun j u hu => hc j u ?_⟩
    rw [List.getElem?_take] at hu
    split at hu
    · exact hu
    · cases hu
set_option maxHeartbeats 1000000 in
/-- append of so many zeros onto nothing -/
theorem run_append_zeros {P : Program} (w : World) (t xt ty e : TypeId) (i : TypeInfo) (z : Value) (kx : IntKind) (size bytes : Nat) (ht : P.underlying t = some (.slice e)) (hxt : P.underlying xt = some (.int kx)) (hi : P.info? e = some i) (hz : i.zero = some z)
    (hsize : i.size = size) (hby : i.bytes = bytes) (hzs : z.cells.size = size) (hs0 : 0 < size) (k : IntKind) (m : Nat) (hm : 0 < m) (h63 : m ≤ maxLen) (hbytes : m * bytes ≤ 281474976710656) (base : Nat) (hbase : base ≤ w.heap.size) :
    ∃ cap w', (Builtin.append_ #[t, xt] ty #[.slice none 0 0, .int k (m : Int)]).run P w = .ok (.slice (some ⟨w.heap.size, 0, none⟩) m cap) w' ∧ (∃ xs, Own w' base e size (some ⟨w.heap.size, 0, none⟩) m cap xs) ∧ Below w.heap.size w w' ∧ w.heap.size < w'.heap.size := by
  subst hsize
  subst hby
  have hx : m ≤ 9223372036854775807 := by simp only [maxLen] at h63; omega
  have hw : IntKind.i64.wrap (m : Int) = (m : Int) := IntWalk.i64_in _ (by omega)
  have h0 : ¬ ((m : Int) < 0) := by omega
  have h48 : ¬ (281474976710656 < (m : Int) * (i.bytes : Int)) := by
    have : ((m * i.bytes : Nat) : Int) = (m : Int) * (i.bytes : Int) := Int.natCast_mul _ _
    omega
  have hn0 : ¬ (m = 0) := by omega
  have hns : ¬ (m * i.size = 0) := by
    have := Nat.mul_pos hm hs0
    omega
  have hnx : Builtin.nextslicecap m 0 = m := by unfold Builtin.nextslicecap; rw [if_pos (by omega)]
  have h48' : ¬ (281474976710656 < m * i.bytes) := by omega
  have h63' : ¬ (9223372036854775807 < (m : Int)) := by omega
  have hge := grownCap_ge w m 0 e
  have hr : (Builtin.append_ #[t, xt] ty #[.slice none 0 0, .int k (m : Int)]).run P w =
      .ok (.slice (some ⟨w.heap.size, 0, none⟩) m (grownCap w m 0 e)) (w.drew.alloc (.cells (#[] ++ Builtin.zeroCells z.cells m ++ Builtin.zeroCells z.cells (grownCap w m 0 e - m)) e)) := by
    simp [Builtin.append_, run_underlying ht, run_underlying hxt, sizeOf, typeInfo, zeroValue, hi, hz, hw, h0, h48, h48', h63', hn0, hns, hnx, Builtin.firstCells, Question.forced, newRow, grownCap, asInt, asIntOf]
  refine ⟨_, _, hr, ⟨(Builtin.zeroCells z.cells m).toList, ?_⟩, ⟨rfl, rfl, rfl, by simp, fun k hk => Below.heap_alloc w.drew _ k hk⟩, by simp⟩
  refine Own.made w.drew _ e (0, 0) i.size m _ _ hbase (by simp [size_zeroCells, hzs]) hge (grownCap_le_maxLen w m 0 e h63) ?_ (.inr rfl) (fun j u hu => ?_)
  · simp only [Array.size_append, size_zeroCells, hzs]
    simp only [List.size_toArray, List.length_nil, Nat.zero_add]
    rw [← Nat.add_mul]
    exact Nat.mul_le_mul_right _ (by omega)
  · have hjl := (List.getElem?_eq_some_iff.1 hu).1
    rw [← Array.getElem?_toList]
    simp only [Array.toList_append]
    rw [List.getElem?_append_left (by simpa using hjl)]
    simpa using hu
theorem wpList_zerosI {ops : Array Oper} {rest : List Oper} {o : Oper} {a : Act} {w : World} {Q : Exit → Act → World → Prop} (hw : Region.wanted o (yielded ops a.tmps) = true) (s x : Operand)
    (ho : o.op = .call { callee := .builtin .append, args := #[s, x], argTypes := #[23, 3] })
    (base m : Nat) (k : IntKind) (hs : a.eval s = .slice none 0 0) (hx : a.eval x = .int k (m : Int)) (hm : 0 < m) (h48 : m ≤ 1000000000000) (hbase : base ≤ w.heap.size)
    (h : ∀ A cap w', OwnI w' base A 0 cap [] → Below w.heap.size w w' → w.heap.size < w'.heap.size → A = some ⟨w.heap.size, 0, none⟩ → m ≤ cap → wpList Try.prog ops Q rest (a.put o.dst (.slice A m cap)) w') :
    wpList Try.prog ops Q (o :: rest) a w := by
  obtain ⟨i0, hi, hz0, hz1, hz2⟩ := info_parts info_item
  obtain ⟨cap, w', hr, ⟨xs, hO⟩, hB, hlt⟩ := run_append_zeros (P := Try.prog) w 23 3 o.type 29 i0 (.agg #[.string ⟨#[]⟩, .int .u64 0, .bool false, .string ⟨#[]⟩]) .i64 4 48 Try.underlying23 Try.underlying3 hi hz0 hz1 hz2 rfl (by decide) k m hm (by unfold maxLen; omega) (by omega) base hbase
  refine wpList_value hw (v := .slice (some ⟨w.heap.size, 0, none⟩) m cap) (w' := w') ?_ (h _ _ _ (by have := hO.pre (Nat.zero_le _); unfold OwnI; simpa [itvs] using this) hB hlt rfl hO.le.1)
  unfold execOp
  simp only [ho, resolve, invoke, builtin, Sem.run_bind, Sem.run_pure, Result.andThen_ok, List.map_toArray, List.map_cons, List.map_nil, hs, hx, hr]
set_option maxHeartbeats 400000 in
theorem growI (n : Nat) (w : World) (hn : n ≤ 1000000000000) :
    Calls Try.prog 35 #[.slice none 0 0, .int .i64 (n : Int)] w fun e w' => ∃ A cap, e = .returned (.slice A 0 cap) ∧ OwnI w' w.heap.size A 0 cap [] ∧ Below w.heap.size w w' := by
  by_cases h0 : 0 < n
  · have h1 : (0 : Int) < (n : Int) := by omega
    have h2 : decide ((n : Int) < 0) = false := by simp
    go_enter Try.func35, Try.ntmps35
    go_wp2_with (at_builtin; refine wpList_zerosI rfl (.tmp 20) (.tmp 21) rfl w.heap.size n .i64 rfl rfl h0 (by omega) (Nat.le_refl _) ?_; intro A cap w1 hO hB hlt hA hcap)
    go_ret
    subst hA
    exact ⟨_, _, rfl, hO, hB⟩
  · obtain rfl : n = 0 := by omega
    go_enter Try.func35, Try.ntmps35
    go_wp2_with fail
    go_ret
    exact ⟨none, 0, rfl, OwnI.nil _ _, Below.refl _ _⟩
theorem flat_take (ll : List (List It)) (k : Nat) (hk : k < ll.length) : (ll.take (k + 1)).flatten = (ll.take k).flatten ++ ll[k] := by
  rw [List.take_succ_eq_append_getElem hk, List.flatten_append]
  simp
theorem flat_take_le (ll : List (List It)) (k : Nat) : (ll.take k).flatten.length ≤ ll.flatten.length := by
  conv => rhs; rw [← List.take_append_drop k ll, List.flatten_append, List.length_append]
  omega
/-- a row of slices of items -/
def LRowI (w : World) (B : Nat) (A : Option Addr) (ll : List (List It)) : Prop :=
  ∀ (i : Nat) (l : List It), ll[i]? = some l → ∃ ad A' c', A = some ad ∧ ad.block < B ∧ w.cell? (ad.add i) = some (.slice A' l.length c') ∧ Is w B A' l.length c' l
theorem LRowI.keep {w w' : World} {B : Nat} {A : Option Addr} {ll : List (List It)} (h : LRowI w B A ll) (hk : ∀ p : Addr, p.block < B → w'.cell? p = w.cell? p) : LRowI w' B A ll := by
  intro i l hl
  obtain ⟨ad, A', c', e, hb, hc, h1⟩ := h i l hl
  exact ⟨ad, A', c', e, hb, by rw [← hc]; exact hk _ (by unfold Addr.add; split <;> exact hb), h1.keep hk⟩
theorem LRowI.below {w w' : World} {B : Nat} {A : Option Addr} {ll : List (List It)} (h : LRowI w B A ll) (hb : Below B w w') : LRowI w' B A ll := h.keep fun _ hp => hb.cell hp
theorem LRowI.more {w : World} {B B' : Nat} {A : Option Addr} {ll : List (List It)} (h : LRowI w B A ll) (hB : B ≤ B') : LRowI w B' A ll := by
  intro i l hl
  obtain ⟨ad, A', c', e, hb, hc, h1⟩ := h i l hl
  exact ⟨ad, A', c', e, Nat.lt_of_lt_of_le hb hB, hc, h1.more hB⟩
theorem LRowI.nil (w : World) (B : Nat) (A : Option Addr) : LRowI w B A [] := fun i l h => by simp at h
set_option maxRecDepth 4000 in
set_option maxHeartbeats 1000000 in
theorem concatI (A : Option Addr) (n c B : Nat) (ll : List (List It)) (w : World) (hn : ll.length = n) (hm : n ≤ maxLen) (hr : LRowI w B A ll) (hB : B ≤ w.heap.size) (hz : ll.flatten.length ≤ 1000000) :
    Calls Try.prog 21 #[.slice A n c] w fun e w' => ∃ A' n' c', e = .returned (.slice A' n' c') ∧ OwnI w' w.heap.size A' n' c' ll.flatten ∧ Below w.heap.size w w' := by
  unfold maxLen at hm
  subst hn
  go_enter Try.func21, Try.ntmps21
  go_wp2_with fail
  go_loop [3, 11] (fun s i => ∃ k : Nat, k ≤ ll.length ∧ i = .int .i64 (k : Int) ∧ s = .int .i64 ((ll.take k).flatten.length : Nat)) (fun _ i => ll.length - (intOf i).toNat)
  case atStart => exact ⟨0, Nat.zero_le _, rfl, rfl⟩
  case round =>
    obtain ⟨k, hk, rfl, rfl⟩ := hrel
    by_cases hlt : k < ll.length
    · obtain ⟨ad, A', c', hA, hab, hc, hIs⟩ := hr k ll[k] (List.getElem?_eq_getElem hlt)
      have hc1 := hIs.le
      subst hA
      have h1 := flat_take ll k hlt
      have h2 := flat_take_le ll (k + 1)
      have h3 : (ll.take (k + 1)).flatten.length = (ll.take k).flatten.length + ll[k].length := by rw [h1, List.length_append]
      obtain ⟨m, hm'⟩ : ∃ m, m = ll[k].length := ⟨_, rfl⟩
      rw [← hm'] at hc h3 hc1
      obtain ⟨s, hs⟩ : ∃ s, s = (ll.take k).flatten.length := ⟨_, rfl⟩
      rw [← hs] at h3 ⊢
      have H3 := Lib.hid h3
      have hs2 : s + m ≤ 1000000 := by omega
      clear h1 h2 h3 hs hm' hIs
      go_wp2_with fail
      go_round
      case rel => exact ⟨k + 1, by omega, by go_num, by rw [H3.out]; go_num⟩
      case measure => simp [intOf]; omega
    · obtain rfl : k = ll.length := by omega
      have h2 := flat_take_le ll ll.length
      obtain ⟨s, hs⟩ : ∃ s, s = (ll.take ll.length).flatten.length := ⟨_, rfl⟩
      rw [← hs] at h2 ⊢
      clear hs
      go_wp2_with fail
      refine (growI s w (by omega)).mono ?_
      rintro e w1 ⟨A1, cap1, rfl, hO1, hB1⟩
      have hs1 := hB1.size
      clear h2
      go_wp2_with fail
      go_loopw [6, 27] (fun s i wr => ∃ (k : Nat) (A2 : Option Addr) (n2 c2 : Nat), k ≤ ll.length ∧ i = .int .i64 (k : Int) ∧ s = .slice A2 n2 c2 ∧ OwnI wr w.heap.size A2 n2 c2 (ll.take k).flatten ∧ Below w.heap.size w wr) (fun _ i _ => ll.length - (intOf i).toNat)
      case atStart => exact ⟨0, A1, 0, cap1, Nat.zero_le _, rfl, rfl, hO1, hB1⟩
      case round =>
        obtain ⟨k, A2, n2, c2, hk, rfl, rfl, hO2, hB2⟩ := hrel
        by_cases hlt : k < ll.length
        · have hrr : LRowI wr B A ll := hr.keep fun p hp => hB2.cell (by omega)
          obtain ⟨ad, A', c', hA, hab, hc, hIs⟩ := hrr k ll[k] (List.getElem?_eq_getElem hlt)
          have hc1 := hIs.le
          have HR := Lib.hid hIs.row
          subst hA
          have h1 := Lib.hid (flat_take ll k hlt)
          have h2 := flat_take_le ll (k + 1)
          rw [h1.out, List.length_append] at h2
          obtain ⟨x, hx⟩ : ∃ x, x = ll[k] := ⟨_, rfl⟩
          rw [← hx] at hc h2 hc1 HR
          rw [← hx] at h1
          have hn2 := hO2.len
          have hsz := hB2.size
          have hle : n2 + x.length ≤ 100000000000 := by omega
          clear hx hn2 h2 hIs
          go_wp2_with (at_builtin; refine wpList_appI rfl (.tmp 31) (.tmp 32) rfl w.heap.size _ _ _ _ rfl hO2 A' x.length c' B x rfl rfl HR.out hle hsz ?_; intro A3 cap3 w3 hO3 hg3 hB3 hb3)
          go_roundw
          case rel => exact ⟨k + 1, _, _, _, by omega, by go_num, rfl, by rw [h1.out]; exact hO3, hB2.trans hB3⟩
          case measure => simp [intOf]; omega
        · obtain rfl : k = ll.length := by omega
          go_wp2_with fail
          go_ret
          rw [List.take_length] at hO2
          exact ⟨_, _, _, rfl, hO2, hB2⟩
end Go.Proofs.Ytemckkcbakccnaa
