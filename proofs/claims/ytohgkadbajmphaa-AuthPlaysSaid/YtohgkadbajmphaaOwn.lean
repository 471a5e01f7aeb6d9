/- A slice that the call itself owns (whatever its block's mark, whatever its offset), and append onto it: in place or into a new block. -/
import Derived.Test.YtohgkadbajmphaaMem
import Derived.Laws.IdiomCopy
namespace Go.Proofs.Ytohgkadbajmphaa
open Go.RowKit

/-- The slice (A, n, cap) of elements of type e (size cells each) lies in a block from base on, holds the cells xs; none of its cells up to the capacity is frozen. -/
def Own (w : World) (base : Nat) (e : TypeId) (size : Nat) (A : Option Addr) (n cap : Nat) (xs : List Value) : Prop :=
  xs.length = n * size ∧ n ≤ cap ∧ cap ≤ maxLen ∧
  ((A = none ∧ cap = 0) ∨ ∃ g off cur fr, A = some ⟨g, off, none⟩ ∧ base ≤ g ∧ w.heap[g]? = some (.cells cur e fr) ∧
    off + cap * size ≤ cur.size ∧ (∀ j, j < cap * size → w.frozen? ⟨g, off + j, none⟩ = false) ∧ ∀ j u, xs[j]? = some u → cur[off + j]? = some u)

theorem cell_blk {w : World} {g : Nat} {cur : Array Value} {e : TypeId} {fr : Nat × Nat} (h : w.heap[g]? = some (.cells cur e fr)) (j : Nat) : w.cell? ⟨g, j, none⟩ = cur[j]? := by
  simp [World.cell?, h]
theorem lt_of_blk {w : World} {g : Nat} {o : Obj} (h : w.heap[g]? = some o) : g < w.heap.size := (Array.getElem?_eq_some_iff.1 h).1
theorem add_off (g off n : Nat) : (⟨g, off, none⟩ : Addr).add n = ⟨g, off + n, none⟩ := by unfold Addr.add; split <;> simp_all
theorem heap_setCell_at (w : World) (g i : Nat) (cur : Array Value) (e : TypeId) (fr : Nat × Nat) (u : Value) (h : w.heap[g]? = some (.cells cur e fr)) :
    (w.setCell ⟨g, i, none⟩ u).heap[g]? = some (.cells (cur.setIfInBounds i u) e fr) := by
  simp [World.setCell, Array.getElem?_modify, h]
/-- cells stored one behind the other -/
def putAt (cur : Array Value) (o : Nat) : List Value → Array Value
  | [] => cur
  | v :: r => putAt (cur.setIfInBounds o v) (o + 1) r
theorem putAt_size : ∀ (vs : List Value) (o : Nat) (cur : Array Value), (putAt cur o vs).size = cur.size
  | [], _, _ => rfl
  | v :: r, o, cur => by rw [putAt, putAt_size r]; simp
theorem putAt_low : ∀ (vs : List Value) (o : Nat) (cur : Array Value) (j : Nat), j < o → (putAt cur o vs)[j]? = cur[j]?
  | [], _, _, _, _ => rfl
  | v :: r, o, cur, j, h => by
    rw [putAt, putAt_low r (o + 1) _ j (by omega), Array.getElem?_setIfInBounds]
    rw [if_neg (by omega)]
theorem putAt_in : ∀ (vs : List Value) (o : Nat) (cur : Array Value) (j : Nat) (u : Value), vs[j]? = some u → o + vs.length ≤ cur.size → (putAt cur o vs)[o + j]? = some u
  | v :: r, o, cur, 0, u, h, hs => by
    simp at h hs
    subst h
    rw [putAt, putAt_low r (o + 1) _ (o + 0) (by omega), Array.getElem?_setIfInBounds]
    simp; omega
  | v :: r, o, cur, j + 1, u, h, hs => by
    simp at h hs
    rw [putAt, show o + (j + 1) = o + 1 + j from by omega]
    exact putAt_in r (o + 1) _ j u h (by simp; omega)
theorem heap_setCells (g : Nat) (e : TypeId) (fr : Nat × Nat) : ∀ (vs : List Value) (o : Nat) (w : World) (cur : Array Value), w.heap[g]? = some (.cells cur e fr) →
    (w.setCells g o vs).heap[g]? = some (.cells (putAt cur o vs) e fr)
  | [], _, _, _, h => h
  | v :: r, o, w, cur, h => by
    rw [World.setCells, putAt]
    exact heap_setCells g e fr r (o + 1) _ _ (heap_setCell_at w g o cur e fr v h)
theorem grown_setCells (g : Nat) : ∀ (vs : List Value) (o : Nat) (w : World), w.grownBy (w.setCells g o vs) (some g)
  | [], _, w => ⟨rfl, rfl, rfl, Nat.le_refl _, fun _ _ _ => rfl⟩
  | v :: r, o, w => by
    have h1 := grown_setCells g r (o + 1) (w.setCell ⟨g, o, none⟩ v)
    rw [World.setCells]
    refine ⟨h1.os, h1.tape, h1.output, ?_, fun k hk hne => ?_⟩
    · have := h1.size; simpa [World.setCell] using this
    · rw [h1.block k (by simpa [World.setCell] using hk) hne]
      exact Below.heap_setCell w ⟨g, o, none⟩ v k (fun e => hne (by rw [e]))

theorem size_setCells (g : Nat) : ∀ (vs : List Value) (o : Nat) (w : World), (w.setCells g o vs).heap.size = w.heap.size
  | [], _, _ => rfl
  | v :: r, o, w => by rw [World.setCells, size_setCells g r]; simp [World.setCell]

theorem Row.new (w : World) (C : Array Value) (e : TypeId) (fr : Nat × Nat) (B g : Nat) (hg : g = w.heap.size) (hB : g < B) (xs : List Value) (h : C.toList = xs) : Row (w.alloc (.cells C e fr)) B (some ⟨g, 0, none⟩) xs := by
  subst hg
  intro j u hu
  refine ⟨_, rfl, hB, ?_⟩
  rw [add_off, cell_blk (heap_alloc_new w _), Nat.zero_add, ← Array.getElem?_toList, h]
  exact hu
def blk (A : Option Addr) : Option Nat := A.map (·.block)

section
variable {w w' : World} {base base' : Nat} {e : TypeId} {size n cap : Nat} {A : Option Addr} {xs : List Value}
theorem Own.nil (w : World) (base : Nat) (e : TypeId) (size : Nat) : Own w base e size none 0 0 [] := ⟨by simp, Nat.le_refl _, Nat.zero_le _, .inl ⟨rfl, rfl⟩⟩
theorem Own.len (h : Own w base e size A n cap xs) : xs.length = n * size := h.1
theorem Own.le (h : Own w base e size A n cap xs) : n ≤ cap ∧ cap ≤ maxLen := ⟨h.2.1, h.2.2.1⟩
theorem Own.lower (h : Own w base e size A n cap xs) (hb : base' ≤ base) : Own w base' e size A n cap xs := by
  obtain ⟨h1, h2, h3, h4⟩ := h
  refine ⟨h1, h2, h3, ?_⟩
  rcases h4 with h | ⟨g, off, cur, fr, ha, hg, rest⟩
  · exact .inl h
  · exact .inr ⟨g, off, cur, fr, ha, by omega, rest⟩
theorem Own.lt (h : Own w base e size A n cap xs) : ∀ g, blk A = some g → base ≤ g ∧ g < w.heap.size := by
  intro g hg
  rcases h.2.2.2 with ⟨rfl, _⟩ | ⟨g', off, cur, fr, rfl, hb, hh, _⟩
  · simp [blk] at hg
  · simp [blk] at hg
    subst hg
    exact ⟨hb, lt_of_blk hh⟩
theorem Own.keep (h : Own w base e size A n cap xs) (hk : ∀ g, blk A = some g → w'.heap[g]? = w.heap[g]?) : Own w' base e size A n cap xs := by
  obtain ⟨h1, h2, h3, h4⟩ := h
  refine ⟨h1, h2, h3, ?_⟩
  rcases h4 with h | ⟨g, off, cur, fr, rfl, hg, hh, hs, hf, hc⟩
  · exact .inl h
  · have hk' := hk g rfl
    refine .inr ⟨g, off, cur, fr, rfl, hg, hk'.trans hh, hs, fun j hj => ?_, hc⟩
    rw [World.frozen?_of_block (w := w) (a := ⟨g, off + j, none⟩) hk']
    exact hf j hj
theorem Own.grown (h : Own w base e size A n cap xs) {row : Option Nat} (hg : w.grownBy w' row) (hne : blk A = none ∨ blk A ≠ row) : Own w' base e size A n cap xs :=
  h.keep fun g e => hg.block g (h.lt g e).2 (by
    rcases hne with h | h
    · rw [e] at h; cases h
    · rw [e] at h; exact h)
theorem Own.below {B : Nat} (h : Own w base e size A n cap xs) (hb : Below B w w') (hB : ∀ g, blk A = some g → g < B) : Own w' base e size A n cap xs :=
  h.keep fun g e => hb.block g (hB g e)
theorem Own.below_all (h : Own w base e size A n cap xs) (hb : Below w.heap.size w w') : Own w' base e size A n cap xs :=
  h.below hb fun g e => (h.lt g e).2
theorem Own.alloc (h : Own w base e size A n cap xs) (o : Obj) : Own (w.alloc o) base e size A n cap xs := h.keep fun g e => Below.heap_alloc w o g (h.lt g e).2
theorem Own.drewN (h : Own w base e size A n cap xs) (k : Nat) : Own (w.drewN k) base e size A n cap xs := h
theorem Own.drew (h : Own w base e size A n cap xs) : Own w.drew base e size A n cap xs := h
theorem Own.setCell (h : Own w base e size A n cap xs) {p : Addr} (hp : blk A ≠ some p.block) (u : Value) : Own (w.setCell p u) base e size A n cap xs :=
  h.keep fun g hg => Below.heap_setCell w p u g (fun e => hp (by rw [hg, e]))
theorem Own.row (h : Own w base e size A n cap xs) {B : Nat} (hB : w.heap.size ≤ B) : Row w B A xs := by
  intro j u hu
  rcases h.2.2.2 with ⟨rfl, h0⟩ | ⟨g, off, cur, fr, rfl, hb, hh, _, _, hc⟩
  · have hl := h.1
    have hn : n = 0 := by have := h.2.1; omega
    subst hn
    simp at hl
    subst hl
    simp at hu
  · exact ⟨_, rfl, Nat.lt_of_lt_of_le (lt_of_blk hh) hB, by rw [add_off, cell_blk hh]; exact hc j u hu⟩
/-- a block that was just made -/
theorem Own.made (w : World) (cur : Array Value) (e : TypeId) (fr : Nat × Nat) (size n cap : Nat) (xs : List Value) (hb : base ≤ w.heap.size) (hl : xs.length = n * size) (hn : n ≤ cap) (hm : cap ≤ maxLen)
    (hs : cap * size ≤ cur.size) (hf : cur.size ≤ fr.1 ∨ fr.2 = 0) (hc : ∀ (j : Nat) (u : Value), xs[j]? = some u → cur[j]? = some u) :
    Own (w.alloc (.cells cur e fr)) base e size (some ⟨w.heap.size, 0, none⟩) n cap xs := by
  have hh := heap_alloc_new w (.cells cur e fr)
  refine ⟨hl, hn, hm, .inr ⟨w.heap.size, 0, cur, fr, rfl, hb, hh, by simpa using hs, fun j hj => ?_, fun j u hu => by rw [Nat.zero_add]; exact hc j u hu⟩⟩
  obtain ⟨lo, hi⟩ := fr
  simp only [World.frozen?, hh]
  simp only at hf
  rcases hf with h | h
  · simp; omega
  · simp; omega
/-- a store into it -/
theorem Own.set {g off : Nat} (h : Own w base e size (some ⟨g, off, none⟩) n cap xs) {j : Nat} (hj : j < n * size) (u : Value) : Own (w.setCell ⟨g, off + j, none⟩ u) base e size (some ⟨g, off, none⟩) n cap (xs.set j u) := by
  obtain ⟨h1, h2, h3, h4⟩ := h
  refine ⟨by simpa using h1, h2, h3, ?_⟩
  rcases h4 with ⟨h, _⟩ | ⟨g', off', cur, fr, ha, hb, hh, hs, hf, hc⟩
  · cases h
  · simp only [Option.some.injEq, Addr.mk.injEq] at ha
    obtain ⟨rfl, rfl, _⟩ := ha
    have hle : n * size ≤ cap * size := Nat.mul_le_mul_right _ h2
    refine .inr ⟨g, off, _, fr, rfl, hb, heap_setCell_at w g (off + j) cur e fr u hh, by simpa using hs, fun i hi => by rw [World.frozen?_setCell]; exact hf i hi, fun i v hv => ?_⟩
    rw [Array.getElem?_setIfInBounds]
    rw [List.getElem?_set] at hv
    by_cases hij : j = i
    · subst hij
      rw [if_pos rfl] at hv ⊢
      rw [if_pos (by omega)] at hv
      rw [if_pos (by omega)]
      exact hv
    · rw [if_neg hij] at hv
      rw [if_neg (by omega)]
      exact hc i v hv
end

/-- What append's second argument gives: m elements, the cells news. -/
def Src (P : Program) (w : World) (size : Nat) (x : Value) (m : Nat) (news : List Value) : Prop :=
  news.length = m * size ∧ (∀ W : World, (Builtin.lenOf x).run P W = .ok m W) ∧ ∀ W : World, W.heap = w.heap → (Builtin.firstCells size m x).run P W = .ok news.toArray W
theorem cell_of_heap {W w : World} (h : W.heap = w.heap) (p : Addr) : W.cell? p = w.cell? p := by simp [World.cell?, h]
theorem Src.slice {P : Program} {w : World} {B size m c : Nat} {A : Option Addr} {news : List Value} (hl : news.length = m * size) (hr : Row w B A news) : Src P w size (.slice A m c) m news := by
  refine ⟨hl, fun W => by simp [Builtin.lenOf], fun W hW => ?_⟩
  rcases A with _ | ad
  · have : news = [] := by
      rcases news with _ | ⟨v, r⟩
      · rfl
      · obtain ⟨_, h, _⟩ := hr 0 v rfl; cases h
    subst this
    simp [Builtin.firstCells]
  · exact run_firstCells_some W size m ad m c news hl (fun j v hv => by
      obtain ⟨ad', h, _, hc⟩ := hr j v hv
      injection h with h
      subst h
      rw [cell_of_heap hW]
      exact hc)
theorem Src.string {P : Program} {w : World} (s : ByteArray) : Src P w 1 (.string s) s.size (s.data.toList.map fun b => Value.int .u8 b.toNat) := by
  refine ⟨by rw [List.length_map, Array.length_toList, Nat.mul_one]; rfl, fun W => by simp [Builtin.lenOf], fun W _ => ?_⟩
  have h : (s.extract 0 s.size).data = s.data := by rw [ByteArray.extract_zero_size]
  show Result.ok ((s.extract 0 s.size).data.map fun b => Value.int .u8 (b.toNat : Int)) W = _
  rw [h]
  congr 1
  apply Array.ext'
  simp

section
variable {P : Program} (w : World)
set_option maxHeartbeats 1000000 in
/-- append onto a slice of the call's own: in place, or a new block. -/
theorem run_append_gen (base : Nat) (t xt ty e : TypeId) (i : TypeInfo) (z : Value) (size bytes : Nat) (ht : P.underlying t = some (.slice e)) (hxt : (∃ e', P.underlying xt = some (.slice e')) ∨ P.underlying xt = some .string) (hi : P.info? e = some i) (hz : i.zero = some z)
    (hsize : i.size = size) (hby : i.bytes = bytes) (hzs : z.cells.size = size)
    (A : Option Addr) (n cap : Nat) (xs : List Value) (hown : Own w base e size A n cap xs)
    (x : Value) (m : Nat) (news : List Value) (hsrc : Src P w size x m news) (h1 : ∀ u ∈ news, u.oneCell' = true)
    (h63 : n + m ≤ maxLen) (hbytes : n + m ≤ cap ∨ Builtin.nextslicecap (n + m) cap * bytes ≤ 281474976710656) (hbase : base ≤ w.heap.size) :
    ∃ A' cap' w', (Builtin.append_ #[t, xt] ty #[.slice A n cap, x]).run P w = .ok (.slice A' (n + m) cap') w' ∧ Own w' base e size A' (n + m) cap' (xs ++ news) ∧ w.grownBy w' (blk A) ∧
      (n + m ≤ cap ∧ A' = A ∧ cap' = cap ∧ (∀ p : Addr, (∀ a, A = some a → p.block = a.block → p.off < a.off + n * size) → w'.cell? p = w.cell? p) ∨ A' = some ⟨w.heap.size, 0, none⟩ ∧ Below w.heap.size w w') := by
  subst hsize
  subst hby
  obtain ⟨hl, hlen, hcells⟩ := hsrc
  have hll : (xs ++ news).length = (n + m) * i.size := by rw [List.length_append, hown.1, hl, Nat.add_mul]
  by_cases hroom : n + m ≤ cap
  · rcases hown.2.2.2 with ⟨rfl, rfl⟩ | ⟨g, off, cur, fr, rfl, hb, hh, hs, hf, hc⟩
    · have hn0 : n = 0 := by omega
      have hm0 : m = 0 := by omega
      subst hn0; subst hm0
      have hnn : news = [] := List.eq_nil_of_length_eq_zero (by simpa using hl)
      subst hnn
      have hr : (Builtin.append_ #[t, xt] ty #[.slice none 0 0, x]).run P w = .ok (.slice none 0 0) w := by
        rcases hxt with ⟨e', hxd⟩ | hxd <;> simp [Builtin.append_, run_underlying ht, run_underlying hxd, sizeOf, typeInfo, hi, hlen, hcells w rfl]
      refine ⟨none, 0, w, hr, ?_, ⟨rfl, rfl, rfl, Nat.le_refl _, fun _ _ _ => rfl⟩, .inl ⟨by omega, rfl, rfl, fun _ _ => rfl⟩⟩
      simpa using hown
    · have hle : (n + m) * i.size ≤ cap * i.size := Nat.mul_le_mul_right _ hroom
      have hst := run_storeCells_cells (P := P) g (off + n * i.size) news 0 w
        (fun j hj => by rw [cell_blk hh]; rw [Nat.add_mul] at hle; rw [Array.getElem?_eq_getElem (by omega)]; rfl)
        (fun j hj => by rw [Nat.add_mul] at hle; have := hf (n * i.size + j) (by omega); simpa [Nat.add_assoc] using this) h1
      simp only [Nat.add_zero] at hst
      have hr : (Builtin.append_ #[t, xt] ty #[.slice (some ⟨g, off, none⟩) n cap, x]).run P w = .ok (.slice (some ⟨g, off, none⟩) (n + m) cap) (w.setCells g (off + n * i.size) news) := by
        rcases hxt with ⟨e', hxd⟩ | hxd <;> simp [Builtin.append_, run_underlying ht, run_underlying hxd, sizeOf, typeInfo, hi, hlen, hcells w rfl, hroom, add_off, hst]
      refine ⟨_, _, _, hr, ⟨hll, hroom, hown.2.2.1, .inr ⟨g, off, putAt cur (off + n * i.size) news, fr, rfl, hb, heap_setCells g e fr news _ w cur hh, by rw [putAt_size]; exact hs, fun j hj => by rw [World.frozen?_setCells]; exact hf j hj, fun j u hu => ?_⟩⟩, grown_setCells g news _ w, .inl ⟨hroom, rfl, rfl, fun p hp => ?_⟩⟩
      · rw [List.getElem?_append] at hu
        split at hu
        · rename_i hlt
          rw [hown.1] at hlt
          rw [putAt_low _ _ _ _ (by omega)]
          exact hc j u hu
        · rename_i hge
          rw [hown.1] at hu hge
          have := putAt_in news (off + n * i.size) cur (j - n * i.size) u hu (by rw [Nat.add_mul] at hle; omega)
          rwa [show off + n * i.size + (j - n * i.size) = off + j from by omega] at this
      · by_cases hpb : p.block = g
        · have hlt := hp _ rfl hpb
          simp only at hlt
          have e1 : (w.setCells g (off + n * i.size) news).heap[p.block]? = some (.cells (putAt cur (off + n * i.size) news) e fr) := by rw [hpb]; exact heap_setCells g e fr news _ w cur hh
          have e2 : w.heap[p.block]? = some (.cells cur e fr) := by rw [hpb]; exact hh
          simp only [World.cell?, e1, e2, putAt_low news _ cur p.off hlt]
        · rcases Nat.lt_or_ge p.block w.heap.size with hlt | hge
          · exact World.cell?_of_block ((grown_setCells g news _ w).block p.block hlt (by simpa using hpb))
          · have hz : (w.setCells g (off + n * i.size) news).heap.size = w.heap.size := size_setCells g news _ w
            simp only [World.cell?, Array.getElem?_eq_none hge, Array.getElem?_eq_none (show (w.setCells g (off + n * i.size) news).heap.size ≤ p.block by omega)]
  · have hb : Builtin.nextslicecap (n + m) cap * i.bytes ≤ 281474976710656 := by
      rcases hbytes with h | h
      · omega
      · exact h
    have hold : ∀ W : World, W.heap = w.heap → (Builtin.firstCells i.size n (.slice A n cap)).run P W = .ok xs.toArray W := (Src.slice (P := P) (c := cap) hown.1 (hown.row (Nat.le_refl _))).2.2
    have h63' : ¬ (9223372036854775807 < ((n : Int) + (m : Int))) := by simp only [maxLen] at h63; omega
    have h48' : ¬ (281474976710656 < Builtin.nextslicecap (n + m) cap * i.bytes) := by omega
    have hge := grownCap_ge w (n + m) cap e
    have hr : (Builtin.append_ #[t, xt] ty #[.slice A n cap, x]).run P w =
        .ok (.slice (some ⟨w.heap.size, 0, none⟩) (n + m) (grownCap w (n + m) cap e)) (w.drew.alloc (.cells (xs.toArray ++ news.toArray ++ Builtin.zeroCells z.cells (grownCap w (n + m) cap e - (n + m))) e)) := by
      rcases hxt with ⟨e', hxd⟩ | hxd
      all_goals
        simp [Builtin.append_, run_underlying ht, run_underlying hxd, sizeOf, typeInfo, zeroValue, hi, hz, hlen, hroom, h63', h48', Question.forced, hcells w.drew rfl, hold w.drew rfl, newRow, grownCap]
        congr 2
        apply Array.ext'
        simp [List.append_assoc]
    refine ⟨_, _, _, hr, ?_, ⟨rfl, rfl, rfl, by simp, fun k hk _ => Below.heap_alloc w.drew _ k hk⟩, .inr ⟨rfl, ⟨rfl, rfl, rfl, by simp, fun k hk => Below.heap_alloc w.drew _ k hk⟩⟩⟩
    refine Own.made w.drew _ e (0, 0) i.size (n + m) _ (xs ++ news) hbase hll hge (grownCap_le_maxLen w (n + m) cap e h63) ?_ (.inr rfl) (fun j u hu => ?_)
    · simp only [Array.size_append, List.size_toArray, size_zeroCells, hzs, hown.1, hl, ← Nat.add_mul]
      exact Nat.mul_le_mul_right _ (by omega)
    · have hjl := (List.getElem?_eq_some_iff.1 hu).1
      rw [← Array.getElem?_toList]
      simp only [Array.toList_append]
      rw [List.getElem?_append_left (by simpa using hjl)]
      simpa using hu

/-- append, inside a walk -/
theorem wp_append_gen {o : Oper} {a : Act} {K : Act → World → Prop} {Q : Exit → Act → World → Prop} (s x : Operand) (t xt : TypeId)
    (ho : o.op = .call { callee := .builtin .append, args := #[s, x], argTypes := #[t, xt] })
    (base : Nat) (e : TypeId) (i : TypeInfo) (z : Value) (size bytes : Nat) (ht : P.underlying t = some (.slice e)) (hxt : (∃ e', P.underlying xt = some (.slice e')) ∨ P.underlying xt = some .string) (hi : P.info? e = some i) (hz : i.zero = some z)
    (hsize : i.size = size) (hby : i.bytes = bytes) (hzs : z.cells.size = size)
    (A : Option Addr) (n cap : Nat) (xs : List Value) (hs : a.eval s = .slice A n cap) (hown : Own w base e size A n cap xs)
    (m : Nat) (news : List Value) (hsrc : Src P w size (a.eval x) m news) (h1 : ∀ u ∈ news, u.oneCell' = true)
    (h63 : n + m ≤ maxLen) (hbytes : n + m ≤ cap ∨ Builtin.nextslicecap (n + m) cap * bytes ≤ 281474976710656) (hbase : base ≤ w.heap.size)
    (h : ∀ A' cap' w', Own w' base e size A' (n + m) cap' (xs ++ news) → w.grownBy w' (blk A) →
      (n + m ≤ cap ∧ A' = A ∧ cap' = cap ∧ (∀ p : Addr, (∀ a, A = some a → p.block = a.block → p.off < a.off + n * size) → w'.cell? p = w.cell? p) ∨ A' = some ⟨w.heap.size, 0, none⟩ ∧ Below w.heap.size w w') →
      K (a.put o.dst (.slice A' (n + m) cap')) w') : o.wp P a w K Q := by
  obtain ⟨A', cap', w', hr, h2, h3, h4⟩ := run_append_gen (P := P) w base t xt o.type e i z size bytes ht hxt hi hz hsize hby hzs A n cap xs hown (a.eval x) m news hsrc h1 h63 hbytes hbase
  unfold Oper.wp execOp
  simp only [ho, resolve, invoke, builtin, Sem.run_bind, Sem.run_pure, Result.andThen_ok, List.map_toArray, List.map_cons, List.map_nil, hs, hr]
  exact h A' cap' w' h2 h3 h4

theorem wpList_append_gen {ops : Array Oper} {rest : List Oper} {o : Oper} {a : Act} {Q : Exit → Act → World → Prop} (hw : Region.wanted o (yielded ops a.tmps) = true) (s x : Operand) (t xt : TypeId)
    (ho : o.op = .call { callee := .builtin .append, args := #[s, x], argTypes := #[t, xt] })
    (base : Nat) (e : TypeId) (i : TypeInfo) (z : Value) (size bytes : Nat) (ht : P.underlying t = some (.slice e)) (hxt : (∃ e', P.underlying xt = some (.slice e')) ∨ P.underlying xt = some .string) (hi : P.info? e = some i) (hz : i.zero = some z)
    (hsize : i.size = size) (hby : i.bytes = bytes) (hzs : z.cells.size = size)
    (A : Option Addr) (n cap : Nat) (xs : List Value) (hs : a.eval s = .slice A n cap) (hown : Own w base e size A n cap xs)
    (m : Nat) (news : List Value) (hsrc : Src P w size (a.eval x) m news) (h1 : ∀ u ∈ news, u.oneCell' = true)
    (h63 : n + m ≤ maxLen) (hbytes : n + m ≤ cap ∨ Builtin.nextslicecap (n + m) cap * bytes ≤ 281474976710656) (hbase : base ≤ w.heap.size)
    (h : ∀ A' cap' w', Own w' base e size A' (n + m) cap' (xs ++ news) → w.grownBy w' (blk A) →
      (n + m ≤ cap ∧ A' = A ∧ cap' = cap ∧ (∀ p : Addr, (∀ a, A = some a → p.block = a.block → p.off < a.off + n * size) → w'.cell? p = w.cell? p) ∨ A' = some ⟨w.heap.size, 0, none⟩ ∧ Below w.heap.size w w') →
      wpList P ops Q rest (a.put o.dst (.slice A' (n + m) cap')) w') : wpList P ops Q (o :: rest) a w :=
  wpList_step fun _ hK => by rw [if_pos hw]; exact wp_append_gen w s x t xt ho base e i z size bytes ht hxt hi hz hsize hby hzs A n cap xs hs hown m news hsrc h1 h63 hbytes hbase fun A' cap' w' h2 h3 h4 => hK _ _ (h A' cap' w' h2 h3 h4)
end
end Go.Proofs.Ytohgkadbajmphaa
