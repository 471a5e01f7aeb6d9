/- A slice's items one by one, each with what is known of it; a range over them. -/
import Derived.Test.YtkkeodfoiffofaaValIter
import Derived.Test.YtkkeodfoiffofaaRangeI
namespace Go.Proofs.Ytkkeodfoiffofaa
open Go.RowKit
set_option linter.unusedVariables false
attribute [local go_sem] Oper.semAt_some
set_option maxRecDepth 100000 in
set_option maxHeartbeats 4000000 in
theorem values2_in {β : Type} (f : β → It) (l Bs n c : Nat) (A : Option Addr) (xs : List β) (K : Nat → Prop) (J Jx : List β → World → Prop) (hJ : ∀ s W W', J s W → Grew W W' → J s W')
    (hY : ∀ pre x W, J pre W → pre.length < n → YieldAt Fence.wide 7 Try.prog l #[iv (f x)] W fun e W' => (e = .returned (.bool true) ∧ J (pre ++ [x]) W' ∧ KeepSet K W W') ∨ (e = .returned (.bool false) ∧ Jx (pre ++ [x]) W'))
    (W : World) (hBs : W.cell? ⟨Bs, 0, none⟩ = some (.slice A n c)) (hI : Is W W.heap.size A n c (xs.map f)) (hK : ∀ g, xs ≠ [] → blk A = some g → K g) (hKlt : ∀ g, K g → g < W.heap.size) (h0 : J [] W) :
    CallsIn Fence.wide 8 Try.prog 71 #[.func (.yield l) #[] #[], .pointer (some ⟨Bs, 0, none⟩)] W fun e W' => (∃ v, e = .returned v) ∧ (J xs W' ∨ ∃ pre, pre <+: xs ∧ Jx pre W') := by
  have hl : xs.length = n := by have := hI.len; simpa using this
  have hm := hI.le
  have hx := hI.max
  unfold maxLen at hx
  have HI := Lib.hid hI
  have HKA := Lib.hid hK
  have HKL := Lib.hid hKlt
  have HJ := Lib.hid hJ
  have HY := Lib.hid hY
  clear hI hK hKlt hJ hY
  refine callsIn_of_wp Try.func71 rfl trivial ?_ rfl
  simp only [Try.ntmps71, List.size_toArray, List.length_cons, List.length_nil, Nat.reduceAdd, Nat.reduceSub, Array.replicate_succ, Array.replicate_zero, List.push_toArray, List.append_toArray, List.nil_append, List.cons_append]
  gi_wp2
  gi_loopw [7] (fun i wr => ∃ k : Nat, k ≤ n ∧ i = .int .i64 k ∧ J (xs.take k) wr ∧ KeepSet K W wr) (fun i _ => n - (intOf i).toNat)
  case atStart => exact ⟨0, Nat.zero_le _, rfl, h0, KeepSet.refl _ _⟩
  case round =>
    obtain ⟨k, hk, rfl, hJs, hKp⟩ := hrel
    have HJS := Lib.hid hJs
    have HKP := Lib.hid hKp
    clear hJs hKp
    have i0 : (0 : Int) ≤ (k : Int) := by omega
    by_cases hlt : k < n
    · obtain ⟨xb, hxi⟩ : ∃ y, xs[k]? = some y := ⟨_, List.getElem?_eq_getElem (by omega)⟩
      have hxf : (xs.map f)[k]? = some (f xb) := by rw [List.getElem?_map, hxi]; rfl
      obtain ⟨g1, o1, rfl, hb1, hr1⟩ := HI.out.at hxf
      clear hxf
      have hk1 : wr.heap[g1]? = W.heap[g1]? := HKP.out g1 (HKA.out g1 (fun e => by rw [e] at hxi; cases hxi) rfl)
      obtain ⟨q0, q1, q2, q3⟩ := range_cells (range_keep hr1 hk1)
      obtain ⟨xi, hxe⟩ : ∃ y, y = f xb := ⟨_, rfl⟩
      rw [← hxe] at q0 q1 q2 q3
      have HT := Lib.hid (show xs.take (k + 1) = xs.take k ++ [xb] by rw [List.take_add_one, hxi]; rfl)
      have hgr : Grew wr (wr.alloc (.cells #[.string ⟨xi.key.toArray⟩, .int .u64 (xi.seq : Int), .bool xi.gone, .string ⟨xi.val.toArray⟩] 29)) := grew_new wr _
      have HGR := Lib.hid hgr
      have HPL := Lib.hid (show (xs.take k).length < n by simp; omega)
      obtain ⟨fn, tmps, assign, body, hy, hR⟩ := HY.out (xs.take k) xb (wr.alloc (.cells #[.string ⟨xi.key.toArray⟩, .int .u64 (xi.seq : Int), .bool xi.gone, .string ⟨xi.val.toArray⟩] 29)) (HJ.out _ _ _ HJS.out hgr) HPL.out
      rw [← hxe] at hy
      clear hr1 hxi hk1 hgr hxe
      have i1 : (k : Int) < (n : Int) := by omega
      gi_wp2
      refine hR.mono ?_
      rintro e W3 (⟨rfl, hJ3, hk3⟩ | ⟨rfl, hJx3⟩)
      · have HJ3 := Lib.hid (show J (xs.take (k + 1)) W3 by rw [HT.out]; exact hJ3)
        have HK3 := Lib.hid (show KeepSet K W W3 from HKP.out.trans (KeepSet.trans (fun g hg => HGR.out.block g (keep_ltvalues1 HKP.out hg (HKL.out g hg))) hk3))
        gi_wp2
        go_roundw
        case rel => exact ⟨k + 1, hlt, by go_num, HJ3.out, HK3.out⟩
        case measure => simp [intOf]; omega
      · have HJX := Lib.hid (show Jx (xs.take (k + 1)) W3 by rw [HT.out]; exact hJx3)
        gi_wp2
        refine bodyPost_ret (results_none rfl _ _ _) rfl ?_
        exact ⟨⟨_, rfl⟩, .inr ⟨_, List.take_prefix _ _, HJX.out⟩⟩
    · obtain rfl : k = n := by omega
      have HT := Lib.hid (show xs.take k = xs from List.take_of_length_le (by omega))
      have i1 : ¬ (k : Int) < (k : Int) := by omega
      gi_wp2
      go_end0
      exact ⟨⟨_, rfl⟩, .inl (by have := HJS.out; rwa [HT.out] at this)⟩
/-- the blocks that the function value reads -/
def keepsvalues2 {β : Type} (Bs : Nat) (A : Option Addr) (xs : List β) (g : Nat) : Prop := g = Bs ∨ (xs ≠ [] ∧ blk A = some g)
theorem values2_gives {β : Type} (f : β → It) (Bs n c : Nat) (A : Option Addr) (xs : List β) (w : World) (hBs : w.cell? ⟨Bs, 0, none⟩ = some (.slice A n c)) (hI : Is w w.heap.size A n c (xs.map f)) :
    (∀ g, keepsvalues2 Bs A xs g → g < w.heap.size) ∧ Gives Try.prog 71 #[.pointer (some ⟨Bs, 0, none⟩)] (fun x : β => #[iv (f x)]) (keepsvalues2 Bs A xs) xs w := by
  have hlt : ∀ g, keepsvalues2 Bs A xs g → g < w.heap.size := by
    rintro g (rfl | ⟨hne, hg⟩)
    · exact World.block_lt_of_cell? w _ hBs
    · cases xs with
      | nil => exact absurd rfl hne
      | cons x r =>
        obtain ⟨g', o, e, hb, _⟩ := hI.at (i := 0) (x := f x) rfl
        rw [e] at hg
        simp [blk] at hg
        omega
  refine ⟨hlt, fun l J Jx W hW hJ hJx hY h0 => ?_⟩
  have hlen : xs.length = n := by have := hI.len; simpa using this
  refine (values2_in f l Bs n c A xs (keepsvalues2 Bs A xs) J Jx (fun s X Y hs hg => hJ s X Y none hs ⟨hg.os, hg.tape, hg.output, hg.size, fun k hk _ => hg.block k hk⟩ (fun r e => by cases e)) (fun pre x X hx hp => hY pre x X hx (by omega)) W ((hW.cell (p := ⟨Bs, 0, none⟩) (World.block_lt_of_cell? w _ hBs)).trans hBs)
    ((hI.below hW).more hW.size) (fun g hne hg => .inr ⟨hne, hg⟩) (fun g hg => Nat.lt_of_lt_of_le (hlt g hg) hW.size) h0).mono ?_
  rintro e W' ⟨h1, h2 | ⟨pre, h2, h3⟩⟩
  · exact ⟨h1, .inl ⟨xs, rfl, h2⟩⟩
  · exact ⟨h1, .inr ⟨pre, h2, h3⟩⟩
/-- the statement 'for x := range seq', x an item -/
theorem wp_rangeF {β : Type} (f : β → It) {g : Operand} {ps : Array Tmp} {assign body : Code} {Q : Exit → Act → World → Prop} {a : Act} {w : World} {gf : Nat} {lb : Array Value} {K : Nat → Prop} {xs : List β}
    (hg : a.eval g = .func (.func gf) #[] lb) (eg : ∀ args w, (callFunc gf args).run Try.prog w = .ok (.enter gf args) w) (hK : ∀ g, K g → g < w.heap.size) (hseq : Gives Try.prog gf lb (fun x : β => #[iv (f x)]) K xs w) (hps : ps.size = 1)
    (I : List β → World → Prop) (Ix : Code → List β → World → Prop) (hI : ∀ s W W', I s W → w.heap.size ≤ W.heap.size → Apart w.heap.size W W' → I s W') (hIx : ∀ c s W W', Ix c s W → w.heap.size ≤ W.heap.size → Apart w.heap.size W W' → Ix c s W')
    (h0 : I [] w) (act : β → Nat → Act)
    (hassign : ∀ (l : Nat) (x : β) (W : World) (K' : Act → World → Prop), K' (act x W.heap.size) (W.alloc (.cells #[.string ⟨(f x).key.toArray⟩, .int .u64 ((f x).seq : Int), .bool (f x).gone, .string ⟨(f x).val.toArray⟩] 29)) →
      assign.wpIn (Fence.wide.inRound l) 7 Try.prog (Exit.then K' (fun _ _ _ => False)) { tmps := (ps.zip #[iv (f x)]).foldl (fun t (p, v) => t.setIfInBounds p v) a.tmps, defers := [] } W)
    (hbody : ∀ (l : Nat) (pre : List β) (x : β) (b : Nat) (W : World), I pre W → w.heap.size ≤ W.heap.size → IBox W b (f x) → w.heap.size ≤ b → pre.length < xs.length → body.wpIn (Fence.wide.inRound l) 7 Try.prog (roundPost K I Ix (pre ++ [x]) W) (act x b) W)
    (hdone : ∀ (D : Nat) (W : World), w.heap.size ≤ D → w.heap.size ≤ W.heap.size → I xs W → W.heap[D]? = some (.deferred (some [])) → Q .normal { a with defers := { target := .collected D, args := #[] } :: a.defers } W)
    (hstop : ∀ (D : Nat) (c : Code) (pre : List β) (W : World), w.heap.size ≤ D → w.heap.size ≤ W.heap.size → pre <+: xs → Ix c pre W → W.heap[D]? = some (.deferred (some [])) → c.wp Try.prog Q { a with defers := { target := .collected D, args := #[] } :: a.defers } W) :
    (Code.rangeFunc g ps assign body).wp Try.prog Q a w := by
  refine (wpIn_wide (n := 9)).1 (wpIn_rangeFunc_ownH (F := Fence.wide) rfl (by omega) hg trivial eg hseq (fun h k => h.trans k) (fun W l o o' hl h _ _ => KeepSet.putObj W l o' fun hk => by have := hK l hk; omega) (Below.refl _ _) (fun _ => hps.symm)
    (fun s W => w.heap.size ≤ W.heap.size ∧ I s W) (fun c s W => w.heap.size ≤ W.heap.size ∧ Ix c s W) (fun s W W' row hs hgr hr => ⟨Nat.le_trans hs.1 hgr.size, hI s W W' hs.2 hs.1 (apart_of hgr hr hs.1)⟩) (fun c s W W' row hs hgr hr => ⟨Nat.le_trans hs.1 hgr.size, hIx c s W W' hs.2 hs.1 (apart_of hgr hr hs.1)⟩)
    ⟨Nat.le_refl _, h0⟩ (fun x a' W => ∃ b, w.heap.size ≤ b ∧ IBox W b (f x) ∧ a' = act x b) (fun x a' s W W' row hs hgr hr => ?_) (fun l pre x W K' hi hk => ?_) (fun l pre x a' W hl hr hi hx hlt => ?_) (fun D ys W hD hS hi hd => by subst hS; exact hdone D W hD hi.1 hi.2 hd) (fun D c pre W hD hS hi hd => wpIn_wide.2 (hstop D c pre W hD hi.1 hS hi.2 hd)))
  · obtain ⟨b, h1, h2, h3⟩ := hs
    refine ⟨b, h1, h2.keep (hgr.block b h2.lt fun e => ?_), h3⟩
    obtain ⟨_, o, ho, hc⟩ := hr b e.symm
    rw [show W.heap[b]? = _ from h2] at ho
    cases ho
    cases hc
  · refine hassign l x W K' (hk _ _ ((KeepsOthers.alloc W _).from _) (KeepSet.alloc W _ fun g hg => Nat.lt_of_lt_of_le (hK g hg) hi.1) ⟨by simp; omega, hI _ _ _ hi.2 hi.1 ⟨(Below.refl _ W).alloc hi.1 _, fun g cs e fr h => (Below.heap_alloc W _ g (lt_of_blk h)).trans h⟩⟩ ⟨W.heap.size, hi.1, IBox.new W (f x), rfl⟩)
  · obtain ⟨b, h1, h2, rfl⟩ := hx
    refine wpIn_mono (hbody l pre x b W hi.2 hi.1 h2 h1 hlt) fun e a3 W3 hp => ownPostG_of_ownPostK e a3 W3 ?_
    cases e with
    | normal => exact ⟨hp.1, hp.2.1, Nat.le_trans hi.1 hp.1.size, hp.2.2⟩
    | ret => exact ⟨hp.1, Nat.le_trans hi.1 hp.1.size, hp.2⟩
    | exit id => exact ⟨hp.1, Nat.le_trans hi.1 hp.1.size, hp.2⟩
    | goto t => exact ⟨hp.1, Nat.le_trans hi.1 hp.1.size, hp.2⟩
    | panic _ => exact hp.elim
    | outgrown => exact hp.elim
/-- the same law, with the slots as they stand -/
theorem wp_rangeFz {β : Type} (f : β → It) (p tz : Nat) {T : Array Value} {ds : List Deferred} {g : Operand} {assign body : Code} {Q : Exit → Act → World → Prop} {w : World} {gf : Nat} {lb : Array Value} {K : Nat → Prop} {xs : List β}
    (hg : ({ tmps := T, defers := ds } : Act).eval g = .func (.func gf) #[] lb) (eg : ∀ args w, (callFunc gf args).run Try.prog w = .ok (.enter gf args) w) (hK : ∀ g, K g → g < w.heap.size) (hseq : Gives Try.prog gf lb (fun x : β => #[iv (f x)]) K xs w)
    (I : List β → World → Prop) (Ix : Code → List β → World → Prop) (hI : ∀ s W W', I s W → w.heap.size ≤ W.heap.size → Apart w.heap.size W W' → I s W') (hIx : ∀ c s W W', Ix c s W → w.heap.size ≤ W.heap.size → Apart w.heap.size W W' → Ix c s W')
    (h0 : I [] w)
    (hassign : ∀ (l : Nat) (x : β) (W : World) (K' : Act → World → Prop), K' (actI T p tz (f x) W.heap.size) (W.alloc (.cells #[.string ⟨(f x).key.toArray⟩, .int .u64 ((f x).seq : Int), .bool (f x).gone, .string ⟨(f x).val.toArray⟩] 29)) →
      assign.wpIn (Fence.wide.inRound l) 7 Try.prog (Exit.then K' (fun _ _ _ => False)) { tmps := T.setIfInBounds p (iv (f x)), defers := [] } W)
    (hbody : ∀ (l : Nat) (pre : List β) (x : β) (b : Nat) (W : World), I pre W → w.heap.size ≤ W.heap.size → IBox W b (f x) → w.heap.size ≤ b → pre.length < xs.length → body.wpIn (Fence.wide.inRound l) 7 Try.prog (roundPost K I Ix (pre ++ [x]) W) (actI T p tz (f x) b) W)
    (hdone : ∀ (D : Nat) (W : World), w.heap.size ≤ D → w.heap.size ≤ W.heap.size → I xs W → W.heap[D]? = some (.deferred (some [])) → Q .normal { tmps := T, defers := { target := .collected D, args := #[] } :: ds } W)
    (hstop : ∀ (D : Nat) (c : Code) (pre : List β) (W : World), w.heap.size ≤ D → w.heap.size ≤ W.heap.size → pre <+: xs → Ix c pre W → W.heap[D]? = some (.deferred (some [])) → c.wp Try.prog Q { tmps := T, defers := { target := .collected D, args := #[] } :: ds } W) :
    (Code.rangeFunc g #[p] assign body).wp Try.prog Q { tmps := T, defers := ds } w :=
  wp_rangeF f hg eg hK hseq rfl I Ix hI hIx h0 (fun x => actI T p tz (f x)) (fun l x W K' h => by simpa using hassign l x W K' h) hbody hdone hstop
end Go.Proofs.Ytkkeodfoiffofaa
