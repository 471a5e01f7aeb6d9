/- A range over a function value that gives places and items. -/
import Derived.Test.YtemckkcbakccnaaItemBack
namespace Go.Proofs.Ytemckkcbakccnaa
open Go.RowKit
set_option linter.unusedVariables false
/-- the statement 'for i, x := range seq', x an item -/
theorem wp_range2 {g : Operand} {ps : Array Tmp} {assign body : Code} {Q : Exit → Act → World → Prop} {a : Act} {w : World} {gf : Nat} {lb : Array Value} {K : Nat → Prop} {xs : List (It × Nat)}
    (hg : a.eval g = .func (.func gf) #[] lb) (eg : ∀ args w, (callFunc gf args).run Try.prog w = .ok (.enter gf args) w) (hK : ∀ g, K g → g < w.heap.size) (hseq : Gives Try.prog gf lb encB K xs w) (hps : ps.size = 2)
    (I : List (It × Nat) → World → Prop) (Ix : Code → List (It × Nat) → World → Prop) (hI : ∀ s W W', I s W → w.heap.size ≤ W.heap.size → Apart w.heap.size W W' → I s W') (hIx : ∀ c s W W', Ix c s W → w.heap.size ≤ W.heap.size → Apart w.heap.size W W' → Ix c s W')
    (h0 : I [] w) (act : It × Nat → Nat → Act)
    (hassign : ∀ (l : Nat) (x : It × Nat) (W : World) (K' : Act → World → Prop), K' (act x W.heap.size) (W.alloc (.cells #[.string ⟨x.1.key.toArray⟩, .int .u64 (x.1.seq : Int), .bool x.1.gone, .string ⟨x.1.val.toArray⟩] 29)) →
      assign.wpIn (Fence.wide.inRound l) 7 Try.prog (Exit.then K' (fun _ _ _ => False)) { tmps := (ps.zip (encB x)).foldl (fun t (p, v) => t.setIfInBounds p v) a.tmps, defers := [] } W)
    (hbody : ∀ (l : Nat) (pre : List (It × Nat)) (x : It × Nat) (b : Nat) (W : World), I pre W → w.heap.size ≤ W.heap.size → IBox W b x.1 → w.heap.size ≤ b → pre.length < xs.length → body.wpIn (Fence.wide.inRound l) 7 Try.prog (roundPost K I Ix (pre ++ [x]) W) (act x b) W)
    (hdone : ∀ (D : Nat) (W : World), w.heap.size ≤ D → w.heap.size ≤ W.heap.size → I xs W → W.heap[D]? = some (.deferred (some [])) → Q .normal { a with defers := { target := .collected D, args := #[] } :: a.defers } W)
    (hstop : ∀ (D : Nat) (c : Code) (pre : List (It × Nat)) (W : World), w.heap.size ≤ D → w.heap.size ≤ W.heap.size → pre <+: xs → Ix c pre W → W.heap[D]? = some (.deferred (some [])) → c.wp Try.prog Q { a with defers := { target := .collected D, args := #[] } :: a.defers } W) :
    (Code.rangeFunc g ps assign body).wp Try.prog Q a w := by
  refine (wpIn_wide (n := 9)).1 (wpIn_rangeFunc_ownH (F := Fence.wide) rfl (by omega) hg trivial eg hseq (fun h k => h.trans k) (fun W l o o' hl h _ _ => KeepSet.putObj W l o' fun hk => by have := hK l hk; omega) (Below.refl _ _) (fun _ => hps.symm)
    (fun s W => w.heap.size ≤ W.heap.size ∧ I s W) (fun c s W => w.heap.size ≤ W.heap.size ∧ Ix c s W) (fun s W W' row hs hgr hr => ⟨Nat.le_trans hs.1 hgr.size, hI s W W' hs.2 hs.1 (apart_of hgr hr hs.1)⟩) (fun c s W W' row hs hgr hr => ⟨Nat.le_trans hs.1 hgr.size, hIx c s W W' hs.2 hs.1 (apart_of hgr hr hs.1)⟩)
    ⟨Nat.le_refl _, h0⟩ (fun x a' W => ∃ b, w.heap.size ≤ b ∧ IBox W b x.1 ∧ a' = act x b) (fun x a' s W W' row hs hgr hr => ?_) (fun l pre x W K' hi hk => ?_) (fun l pre x a' W hl hr hi hx hlt => ?_) (fun D ys W hD hS hi hd => by subst hS; exact hdone D W hD hi.1 hi.2 hd) (fun D c pre W hD hS hi hd => wpIn_wide.2 (hstop D c pre W hD hi.1 hS hi.2 hd)))
  · obtain ⟨b, h1, h2, h3⟩ := hs
    refine ⟨b, h1, h2.keep (hgr.block b h2.lt fun e => ?_), h3⟩
    obtain ⟨_, o, ho, hc⟩ := hr b e.symm
    rw [show W.heap[b]? = _ from h2] at ho
    cases ho
    cases hc
  · refine hassign l x W K' (hk _ _ ((KeepsOthers.alloc W _).from _) (KeepSet.alloc W _ fun g hg => Nat.lt_of_lt_of_le (hK g hg) hi.1) ⟨by simp; omega, hI _ _ _ hi.2 hi.1 ⟨(Below.refl _ W).alloc hi.1 _, fun g cs e fr h => (Below.heap_alloc W _ g (lt_of_blk h)).trans h⟩⟩ ⟨W.heap.size, hi.1, IBox.new W x.1, rfl⟩)
  · obtain ⟨b, h1, h2, rfl⟩ := hx
    refine wpIn_mono (hbody l pre x b W hi.2 hi.1 h2 h1 hlt) fun e a3 W3 hp => ownPostG_of_ownPostK e a3 W3 ?_
    cases e with
    | normal => exact ⟨hp.1, hp.2.1, Nat.le_trans hi.1 hp.1.size, hp.2.2⟩
    | ret => exact ⟨hp.1, Nat.le_trans hi.1 hp.1.size, hp.2⟩
    | exit id => exact ⟨hp.1, Nat.le_trans hi.1 hp.1.size, hp.2⟩
    | goto t => exact ⟨hp.1, Nat.le_trans hi.1 hp.1.size, hp.2⟩
    | panic _ => exact hp.elim
    | outgrown => exact hp.elim
/-- the slots at a round's start -/
def actB (T : Array Value) (p0 p1 tz : Nat) (x : It × Nat) (b : Nat) : Act := { tmps := ((T.setIfInBounds p0 (.int .i64 (x.2 : Int))).setIfInBounds p1 (iv x.1)).setIfInBounds tz (.pointer (some ⟨b, 0, none⟩)), defers := [] }
/-- the same law, with the slots as they stand -/
theorem wp_range2z (p0 p1 tz : Nat) {T : Array Value} {ds : List Deferred} {g : Operand} {assign body : Code} {Q : Exit → Act → World → Prop} {w : World} {gf : Nat} {lb : Array Value} {K : Nat → Prop} {xs : List (It × Nat)}
    (hg : ({ tmps := T, defers := ds } : Act).eval g = .func (.func gf) #[] lb) (eg : ∀ args w, (callFunc gf args).run Try.prog w = .ok (.enter gf args) w) (hK : ∀ g, K g → g < w.heap.size) (hseq : Gives Try.prog gf lb encB K xs w)
    (I : List (It × Nat) → World → Prop) (Ix : Code → List (It × Nat) → World → Prop) (hI : ∀ s W W', I s W → w.heap.size ≤ W.heap.size → Apart w.heap.size W W' → I s W') (hIx : ∀ c s W W', Ix c s W → w.heap.size ≤ W.heap.size → Apart w.heap.size W W' → Ix c s W')
    (h0 : I [] w)
    (hassign : ∀ (l : Nat) (x : It × Nat) (W : World) (K' : Act → World → Prop), K' (actB T p0 p1 tz x W.heap.size) (W.alloc (.cells #[.string ⟨x.1.key.toArray⟩, .int .u64 (x.1.seq : Int), .bool x.1.gone, .string ⟨x.1.val.toArray⟩] 29)) →
      assign.wpIn (Fence.wide.inRound l) 7 Try.prog (Exit.then K' (fun _ _ _ => False)) { tmps := (T.setIfInBounds p0 (.int .i64 (x.2 : Int))).setIfInBounds p1 (iv x.1), defers := [] } W)
    (hbody : ∀ (l : Nat) (pre : List (It × Nat)) (x : It × Nat) (b : Nat) (W : World), I pre W → w.heap.size ≤ W.heap.size → IBox W b x.1 → w.heap.size ≤ b → pre.length < xs.length → body.wpIn (Fence.wide.inRound l) 7 Try.prog (roundPost K I Ix (pre ++ [x]) W) (actB T p0 p1 tz x b) W)
    (hdone : ∀ (D : Nat) (W : World), w.heap.size ≤ D → w.heap.size ≤ W.heap.size → I xs W → W.heap[D]? = some (.deferred (some [])) → Q .normal { tmps := T, defers := { target := .collected D, args := #[] } :: ds } W)
    (hstop : ∀ (D : Nat) (c : Code) (pre : List (It × Nat)) (W : World), w.heap.size ≤ D → w.heap.size ≤ W.heap.size → pre <+: xs → Ix c pre W → W.heap[D]? = some (.deferred (some [])) → c.wp Try.prog Q { tmps := T, defers := { target := .collected D, args := #[] } :: ds } W) :
    (Code.rangeFunc g #[p0, p1] assign body).wp Try.prog Q { tmps := T, defers := ds } w :=
  wp_range2 hg eg hK hseq rfl I Ix hI hIx h0 (actB T p0 p1 tz) (fun l x W K' h => by simpa using hassign l x W K' h) hbody hdone hstop
end Go.Proofs.Ytemckkcbakccnaa
