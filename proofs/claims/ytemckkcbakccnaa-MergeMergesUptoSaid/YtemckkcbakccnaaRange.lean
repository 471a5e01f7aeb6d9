/- A range over a function, walked in the plain calculus: the function that holds it, the statement, the return. -/
import Derived.RangeFuncNested
import Derived.RangeFuncBound
import Derived.RangeFuncCalls
import Derived.RangeFuncLeaves
import Derived.OwnWalkIn
import Derived.TacticsInMore
import Derived.LoopNIn
import Derived.LoopIn
import Derived.Test.YtemckkcbakccnaaOwn
namespace Go.Proofs.Ytemckkcbakccnaa
open Go.RowKit
set_option linter.unusedVariables false
section
variable {P : Program}
/-- a function that holds a range over a function: its contract from its body -/
theorem calls_marks {f : FuncId} {fn : Func} {c : Code} {args : Array Value} {w : World} {R : Ending → World → Prop} (hf : P.funcs[f]? = some fn) (hb : fn.body = some c)
    (h : c.wp P (bodyPostM Fence.wide 9 P fn R) { tmps := args ++ Array.replicate (fn.ntmps - args.size) undef, defers := [] } w) : Calls P f args w R :=
  callsIn_wide.1 (callsIn_of_wp_marks hf hb trivial (wpIn_wide.2 h))
/-- the blocks of these numbers lie as they lay -/
def KeepSet (K : Nat → Prop) (W W' : World) : Prop := ∀ g, K g → W'.heap[g]? = W.heap[g]?
theorem KeepSet.trans {K : Nat → Prop} {A B C : World} (h : KeepSet K A B) (k : KeepSet K B C) : KeepSet K A C := fun g hg => (k g hg).trans (h g hg)
theorem KeepSet.refl (K : Nat → Prop) (W : World) : KeepSet K W W := fun _ _ => rfl
theorem KeepSet.cell {K : Nat → Prop} {A B : World} (h : KeepSet K A B) {p : Addr} (hp : K p.block) : B.cell? p = A.cell? p := World.cell?_of_block (h p.block hp)
theorem KeepSet.below {K : Nat → Prop} {A B : World} {n : Nat} (h : Below n A B) (hK : ∀ g, K g → g < n) : KeepSet K A B := fun g hg => h.block g (hK g hg)
theorem KeepSet.putObj {K : Nat → Prop} (W : World) (l : Nat) (o : Obj) (h : ¬ K l) : KeepSet K W (W.putObj l o) := fun g hg => World.putObj_heap_other (fun e => h (e ▸ hg))
theorem KeepSet.setCell {K : Nat → Prop} (W : World) (p : Addr) (v : Value) (h : ¬ K p.block) : KeepSet K W (W.setCell p v) := fun g hg => Below.heap_setCell W p v g (fun e => h (e ▸ hg))
theorem KeepSet.alloc {K : Nat → Prop} (W : World) (o : Obj) (h : ∀ g, K g → g < W.heap.size) : KeepSet K W (W.alloc o) := fun g hg => Below.heap_alloc W o g (h g hg)
/-- what a function value gives, one by one: all of xs; or a part of it, if a round says 'no more' -/
def Gives {α : Type} (P : Program) (gf : Nat) (lb : Array Value) (encs : α → Array Value) (K : Nat → Prop) (xs : List α) (w : World) : Prop :=
  SeqStopsK Fence.wide 8 P gf lb encs (KeepSet K) (fun ys => ys = xs) (fun pre => pre <+: xs) xs.length w
/-- W' is W but for blocks from D on that hold no cells, and new ones -/
structure Apart (D : Nat) (W W' : World) : Prop where
  below : Below D W W'
  cells : ∀ (g : Nat) (cs : Array Value) (e : TypeId) (fr : Nat × Nat), W.heap[g]? = some (Obj.cells cs e fr) → W'.heap[g]? = some (Obj.cells cs e fr)
theorem apart_of {D : Nat} {W W' : World} {row : Option Nat} (hg : W.grownBy W' row) (hr : ∀ r, row = some r → D ≤ r ∧ ∃ o : Obj, W.heap[r]? = some o ∧ o.isCells = false) (hD : D ≤ W.heap.size) : Apart D W W' :=
  ⟨(Below.refl D W).grown hg hD fun k e => (hr k e).1, fun g cs e fr h => by
    refine (hg.block g (Array.getElem?_eq_some_iff.1 h).1 fun e2 => ?_).trans h
    obtain ⟨_, o, ho, hc⟩ := hr g e2.symm
    rw [h] at ho
    cases ho
    cases hc⟩
theorem Apart.cell {D : Nat} {W W' : World} (h : Apart D W W') {p : Addr} {v : Value} (hc : W.cell? p = some v) : W'.cell? p = some v := by
  unfold World.cell? at hc ⊢
  cases ho : W.heap[p.block]? with
  | none => rw [ho] at hc; cases hc
  | some o =>
    cases o with
    | cells cs e fr => rw [h.cells _ _ _ _ ho]; rw [ho] at hc; exact hc
    | _ => rw [ho] at hc; cases hc
theorem Apart.boxed {D B : Nat} {W W' : World} {t : TypeId} {v : Value} (h : Apart D W W') (hb : Boxed W B t v) : Boxed W' B t v := h.cells _ _ _ _ hb
theorem Apart.own {D base n cap : Nat} {e : TypeId} {size : Nat} {A : Option Addr} {xs : List Value} {W W' : World} (h : Apart D W W') (ho : Own W base e size A n cap xs) : Own W' base e size A n cap xs := by
  rcases ho.2.2.2 with h0 | ⟨g, off, cur, fr, rfl, hb, hh, _⟩
  · exact ⟨ho.1, ho.2.1, ho.2.2.1, .inl h0⟩
  · refine ho.keep fun g' hg' => ?_
    simp [blk] at hg'
    subst hg'
    rw [hh]
    exact h.cells _ _ _ _ hh
theorem Apart.row {D B : Nat} {A : Option Addr} {xs : List Value} {W W' : World} (h : Apart D W W') (hr : Row W B A xs) : Row W' B A xs := fun j u hu => by
  obtain ⟨ad, e, hb, hc⟩ := hr j u hu
  exact ⟨ad, e, hb, h.cell hc⟩
theorem Apart.kept {D B : Nat} {w W W' : World} (h : Apart D W W') (hb : Below B w W) (hB : B ≤ D) : Below B w W' := hb.trans (h.below.mono hB)
/-- what the body of a round leaves -/
def roundPost {α : Type} (K : Nat → Prop) (I : List α → World → Prop) (Ix : Code → List α → World → Prop) (xs : List α) (W : World) : Exit → Act → World → Prop := ownPostK (KeepSet K) I Ix xs W
/-- the statement 'for x := range seq' -/
theorem wp_range {α : Type} {g : Operand} {ps : Array Tmp} {assign body : Code} {Q : Exit → Act → World → Prop} {a : Act} {w : World} {gf : Nat} {lb : Array Value} {encs : α → Array Value} {K : Nat → Prop} {xs : List α}
    (hg : a.eval g = .func (.func gf) #[] lb) (eg : ∀ args w, (callFunc gf args).run P w = .ok (.enter gf args) w) (hseq : Gives P gf lb encs K xs w) (hK : ∀ g, K g → g < w.heap.size) (hps : ∀ x, (encs x).size = ps.size)
    (I : List α → World → Prop) (Ix : Code → List α → World → Prop) (hI : ∀ s W W', I s W → w.heap.size ≤ W.heap.size → Apart w.heap.size W W' → I s W') (hIx : ∀ c s W W', Ix c s W → w.heap.size ≤ W.heap.size → Apart w.heap.size W W' → Ix c s W')
    (h0 : I [] w) (a₁ : α → Act)
    (hassign : ∀ (l : Nat) (x : α) (W : World) (K : Act → World → Prop), K (a₁ x) W →
      assign.wpIn (Fence.wide.inRound l) 7 P (Exit.then K (fun _ _ _ => False)) { tmps := (ps.zip (encs x)).foldl (fun t (p, v) => t.setIfInBounds p v) a.tmps, defers := [] } W)
    (hbody : ∀ (l : Nat) (pre : List α) (x : α) (W : World), I pre W → w.heap.size ≤ W.heap.size → pre.length < xs.length → body.wpIn (Fence.wide.inRound l) 7 P (roundPost K I Ix (pre ++ [x]) W) (a₁ x) W)
    (hdone : ∀ (D : Nat) (W : World), w.heap.size ≤ D → I xs W → W.heap[D]? = some (.deferred (some [])) → Q .normal { a with defers := { target := .collected D, args := #[] } :: a.defers } W)
    (hstop : ∀ (D : Nat) (c : Code) (pre : List α) (W : World), w.heap.size ≤ D → pre <+: xs → Ix c pre W → W.heap[D]? = some (.deferred (some [])) → c.wp P Q { a with defers := { target := .collected D, args := #[] } :: a.defers } W) :
    (Code.rangeFunc g ps assign body).wp P Q a w := by
  refine (wpIn_wide (n := 9)).1 (wpIn_rangeFunc_ownF (F := Fence.wide) rfl (by omega) hg trivial eg hseq (fun h k => h.trans k) (fun W l o o' hl h _ _ => KeepSet.putObj W l o' fun hk => by have := hK l hk; omega) (Below.refl _ _) hps
    (fun s W => w.heap.size ≤ W.heap.size ∧ I s W) (fun c s W => w.heap.size ≤ W.heap.size ∧ Ix c s W) (fun s W W' row hs hgr hr => ⟨Nat.le_trans hs.1 hgr.size, hI s W W' hs.2 hs.1 (apart_of hgr hr hs.1)⟩) (fun c s W W' row hs hgr hr => ⟨Nat.le_trans hs.1 hgr.size, hIx c s W W' hs.2 hs.1 (apart_of hgr hr hs.1)⟩)
    ⟨Nat.le_refl _, h0⟩ a₁ hassign (fun l pre x W hi hl => wpIn_mono (hbody l pre x W hi.2 hi.1 hl) fun e a3 W3 hp => ?_) (fun D ys W hD hS hi hd => by subst hS; exact hdone D W hD hi.2 hd) (fun D c pre W hD hS hi hd => wpIn_wide.2 (hstop D c pre W hD hS hi.2 hd)))
  cases e with
  | normal => exact ⟨hp.1, hp.2.1, Nat.le_trans hi.1 hp.1.size, hp.2.2⟩
  | ret => exact ⟨hp.1, Nat.le_trans hi.1 hp.1.size, hp.2⟩
  | exit id => exact ⟨hp.1, Nat.le_trans hi.1 hp.1.size, hp.2⟩
  | goto t => exact ⟨hp.1, Nat.le_trans hi.1 hp.1.size, hp.2⟩
  | panic _ => exact hp.elim
  | outgrown => exact hp.elim
/-- the blocks that the ranges of a function have laid, one behind the other -/
def Marks (D : Nat) (W : World) (ds : List Deferred) : Prop := ∃ ms : List Nat, ds = ms.map (fun m => ({ target := .collected m, args := #[] } : Deferred)) ∧ (∀ m ∈ ms, D ≤ m ∧ ∃ r, W.heap[m]? = some (.deferred (some r)) ∧ r = []) ∧ ms.Nodup
theorem Marks.nil (D : Nat) (W : World) : Marks D W [] := ⟨[], rfl, (fun m h => by cases h), List.nodup_nil⟩
theorem Marks.apart {D E : Nat} {W W' : World} {ds : List Deferred} (h : Marks D W ds) (hk : KeepsOthers W W') : Marks D W' ds := by
  obtain ⟨ms, e, h1, h2⟩ := h
  refine ⟨ms, e, fun m hm => ?_, h2⟩
  obtain ⟨a, r, b, c⟩ := h1 m hm
  exact ⟨a, r, hk.same _ _ b rfl, c⟩
theorem Marks.lt {D : Nat} {W : World} {ds : List Deferred} (h : Marks D W ds) : ∀ m, ({ target := .collected m, args := #[] } : Deferred) ∈ ds → m < W.heap.size := by
  obtain ⟨ms, e, h1, h2⟩ := h
  subst e
  intro m hm
  simp only [List.mem_map] at hm
  obtain ⟨m', hm', e⟩ := hm
  simp only [Deferred.mk.injEq, and_true] at e
  cases e
  obtain ⟨_, r, b, _⟩ := h1 _ hm'
  exact (Array.getElem?_eq_some_iff.1 b).1
/-- one more range -/
theorem Marks.cons {D m : Nat} {W : World} {ds : List Deferred} (h : Marks D W ds) (hD : D ≤ m) (hm : W.heap[m]? = some (.deferred (some []))) (hn : ∀ m', ({ target := .collected m', args := #[] } : Deferred) ∈ ds → m' ≠ m) :
    Marks D W ({ target := .collected m, args := #[] } :: ds) := by
  obtain ⟨ms, e, h1, h2⟩ := h
  refine ⟨m :: ms, by rw [e]; rfl, fun k hk => ?_, List.nodup_cons.2 ⟨fun hmem => ?_, h2⟩⟩
  · rcases List.mem_cons.1 hk with rfl | hk
    · exact ⟨hD, [], hm, rfl⟩
    · exact h1 k hk
  · exact hn m (by rw [e]; exact List.mem_map.2 ⟨m, hmem, rfl⟩) rfl
/-- at the return -/
theorem leaves_marks {fn : Func} {tmps : Array Value} {R : Ending → World → Prop} {D : Nat} {v : Value} (hr : ∀ W, (results fn tmps).run P W = .ok v W) : ∀ (ms : List Nat) (W : World), (∀ m ∈ ms, D ≤ m ∧ ∃ r, W.heap[m]? = some (.deferred (some r)) ∧ r = []) → ms.Nodup →
    (∀ W', Apart D W W' → R (.returned v) W') → D ≤ W.heap.size → LeavesInM Fence.wide 9 P fn tmps R (ms.map (fun m => ({ target := .collected m, args := #[] } : Deferred))) .returning W
  | [], W, _, _, hR, _ => ⟨v, hr W, hR W ⟨Below.refl _ _, fun _ _ _ _ h => h⟩⟩
  | m :: ms, W, hm, hn, hR, hD => by
    obtain ⟨h1, r, h2, rfl⟩ := hm m (by simp)
    refine ⟨by simp, .inl ⟨m, _, rfl, run_takeDeferred h2, ?_⟩⟩
    have hap : Apart D W (W.putObj m (.deferred none)) := apart_of (grownBy_putObj' W m (.deferred none)) (fun r e => by cases e; exact ⟨h1, _, h2, rfl⟩) hD
    refine leaves_marks hr ms _ (fun k hk => ?_) (List.nodup_cons.1 hn).2 (fun W' h => hR W' ⟨hap.below.trans h.below, fun g cs e fr hc => h.cells _ _ _ _ (hap.cells _ _ _ _ hc)⟩) (by simpa using hD)
    obtain ⟨a, r, b, c⟩ := hm k (by simp [hk])
    exact ⟨a, r, (World.putObj_heap_other (fun e : k = m => (List.nodup_cons.1 hn).1 (by rw [← e]; exact hk))).trans b, c⟩
theorem postM_ret {fn : Func} {R : Ending → World → Prop} {a : Act} {W : World} {D : Nat} {v : Value} (hr : ∀ W, (results fn a.tmps).run P W = .ok v W) (hm : Marks D W a.defers) (hD : D ≤ W.heap.size) (hR : ∀ W', Apart D W W' → R (.returned v) W') :
    bodyPostM Fence.wide 9 P fn R .ret a W := by
  obtain ⟨ms, e, h1, h2⟩ := hm
  show LeavesInM _ _ _ _ _ _ a.defers _ _
  rw [e]
  exact leaves_marks hr ms W h1 h2 hR hD
theorem postM_ret0 {fn : Func} {R : Ending → World → Prop} {a : Act} {W : World} {v : Value} (hd : a.defers = []) (hr : (results fn a.tmps).run P W = .ok v W) (hR : R (.returned v) W) :
    bodyPostM Fence.wide 9 P fn R .ret a W := by
  show LeavesInM _ _ _ _ _ _ a.defers _ _
  rw [hd]
  exact ⟨v, hr, hR⟩
end
end Go.Proofs.Ytemckkcbakccnaa
