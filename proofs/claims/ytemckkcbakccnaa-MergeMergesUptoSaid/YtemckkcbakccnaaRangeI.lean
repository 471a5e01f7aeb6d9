/- A range over a function value that gives items: the loop's variable in a block of its own. -/
import Derived.Test.YtemckkcbakccnaaRange
import Derived.Test.YtemckkcbakccnaaItemBox
import Derived.Shelf.Abstract
namespace Go.Proofs.Ytemckkcbakccnaa
open Go.RowKit
set_option linter.unusedVariables false
/-- the statement 'for x := range seq', x an item -/
theorem wp_rangeI {g : Operand} {ps : Array Tmp} {assign body : Code} {Q : Exit → Act → World → Prop} {a : Act} {w : World} {gf : Nat} {lb : Array Value} {K : Nat → Prop} {xs : List It}
    (hg : a.eval g = .func (.func gf) #[] lb) (eg : ∀ args w, (callFunc gf args).run Try.prog w = .ok (.enter gf args) w) (hK : ∀ g, K g → g < w.heap.size) (hseq : Gives Try.prog gf lb (fun x : It => #[iv x]) K xs w) (hps : ps.size = 1)
    (I : List It → World → Prop) (Ix : Code → List It → World → Prop) (hI : ∀ s W W', I s W → w.heap.size ≤ W.heap.size → Apart w.heap.size W W' → I s W') (hIx : ∀ c s W W', Ix c s W → w.heap.size ≤ W.heap.size → Apart w.heap.size W W' → Ix c s W')
    (h0 : I [] w) (act : It → Nat → Act)
    (hassign : ∀ (l : Nat) (x : It) (W : World) (K' : Act → World → Prop), K' (act x W.heap.size) (W.alloc (.cells #[.string ⟨x.key.toArray⟩, .int .u64 (x.seq : Int), .bool x.gone, .string ⟨x.val.toArray⟩] 29)) →
      assign.wpIn (Fence.wide.inRound l) 7 Try.prog (Exit.then K' (fun _ _ _ => False)) { tmps := (ps.zip #[iv x]).foldl (fun t (p, v) => t.setIfInBounds p v) a.tmps, defers := [] } W)
    (hbody : ∀ (l : Nat) (pre : List It) (x : It) (b : Nat) (W : World), I pre W → w.heap.size ≤ W.heap.size → IBox W b x → w.heap.size ≤ b → pre.length < xs.length → body.wpIn (Fence.wide.inRound l) 7 Try.prog (roundPost K I Ix (pre ++ [x]) W) (act x b) W)
    (hdone : ∀ (D : Nat) (W : World), w.heap.size ≤ D → w.heap.size ≤ W.heap.size → I xs W → W.heap[D]? = some (.deferred (some [])) → Q .normal { a with defers := { target := .collected D, args := #[] } :: a.defers } W)
    (hstop : ∀ (D : Nat) (c : Code) (pre : List It) (W : World), w.heap.size ≤ D → w.heap.size ≤ W.heap.size → pre <+: xs → Ix c pre W → W.heap[D]? = some (.deferred (some [])) → c.wp Try.prog Q { a with defers := { target := .collected D, args := #[] } :: a.defers } W) :
    (Code.rangeFunc g ps assign body).wp Try.prog Q a w := by
  refine (wpIn_wide (n := 9)).1 (wpIn_rangeFunc_ownH (F := Fence.wide) rfl (by omega) hg trivial eg hseq (fun h k => h.trans k) (fun W l o o' hl h _ _ => KeepSet.putObj W l o' fun hk => by have := hK l hk; omega) (Below.refl _ _) (fun _ => hps.symm)
    (fun s W => w.heap.size ≤ W.heap.size ∧ I s W) (fun c s W => w.heap.size ≤ W.heap.size ∧ Ix c s W) (fun s W W' row hs hgr hr => ⟨Nat.le_trans hs.1 hgr.size, hI s W W' hs.2 hs.1 (apart_of hgr hr hs.1)⟩) (fun c s W W' row hs hgr hr => ⟨Nat.le_trans hs.1 hgr.size, hIx c s W W' hs.2 hs.1 (apart_of hgr hr hs.1)⟩)
    ⟨Nat.le_refl _, h0⟩ (fun x a' W => ∃ b, w.heap.size ≤ b ∧ IBox W b x ∧ a' = act x b) (fun x a' s W W' row hs hgr hr => ?_) (fun l pre x W K' hi hk => ?_) (fun l pre x a' W hl hr hi hx hlt => ?_) (fun D ys W hD hS hi hd => by subst hS; exact hdone D W hD hi.1 hi.2 hd) (fun D c pre W hD hS hi hd => wpIn_wide.2 (hstop D c pre W hD hi.1 hS hi.2 hd)))
  · obtain ⟨b, h1, h2, h3⟩ := hs
    refine ⟨b, h1, h2.keep (hgr.block b h2.lt fun e => ?_), h3⟩
    obtain ⟨_, o, ho, hc⟩ := hr b e.symm
    rw [show W.heap[b]? = _ from h2] at ho
    cases ho
    cases hc
  · refine hassign l x W K' (hk _ _ ((KeepsOthers.alloc W _).from _) (KeepSet.alloc W _ fun g hg => Nat.lt_of_lt_of_le (hK g hg) hi.1) ⟨by simp; omega, hI _ _ _ hi.2 hi.1 ⟨(Below.refl _ W).alloc hi.1 _, fun g cs e fr h => (Below.heap_alloc W _ g (lt_of_blk h)).trans h⟩⟩ ⟨W.heap.size, hi.1, IBox.new W x, rfl⟩)
  · obtain ⟨b, h1, h2, rfl⟩ := hx
    refine wpIn_mono (hbody l pre x b W hi.2 hi.1 h2 h1 hlt) fun e a3 W3 hp => ownPostG_of_ownPostK e a3 W3 ?_
    cases e with
    | normal => exact ⟨hp.1, hp.2.1, Nat.le_trans hi.1 hp.1.size, hp.2.2⟩
    | ret => exact ⟨hp.1, Nat.le_trans hi.1 hp.1.size, hp.2⟩
    | exit id => exact ⟨hp.1, Nat.le_trans hi.1 hp.1.size, hp.2⟩
    | goto t => exact ⟨hp.1, Nat.le_trans hi.1 hp.1.size, hp.2⟩
    | panic _ => exact hp.elim
    | outgrown => exact hp.elim
/-- the slots at a round's start: the item in ps's slot, its box's address in tz -/
def actI (T : Array Value) (p tz : Nat) (x : It) (b : Nat) : Act := { tmps := (T.setIfInBounds p (iv x)).setIfInBounds tz (.pointer (some ⟨b, 0, none⟩)), defers := [] }
/-- the same law, with the slots as they stand -/
theorem wp_rangeIz (p tz : Nat) {T : Array Value} {ds : List Deferred} {g : Operand} {assign body : Code} {Q : Exit → Act → World → Prop} {w : World} {gf : Nat} {lb : Array Value} {K : Nat → Prop} {xs : List It}
    (hg : ({ tmps := T, defers := ds } : Act).eval g = .func (.func gf) #[] lb) (eg : ∀ args w, (callFunc gf args).run Try.prog w = .ok (.enter gf args) w) (hK : ∀ g, K g → g < w.heap.size) (hseq : Gives Try.prog gf lb (fun x : It => #[iv x]) K xs w)
    (I : List It → World → Prop) (Ix : Code → List It → World → Prop) (hI : ∀ s W W', I s W → w.heap.size ≤ W.heap.size → Apart w.heap.size W W' → I s W') (hIx : ∀ c s W W', Ix c s W → w.heap.size ≤ W.heap.size → Apart w.heap.size W W' → Ix c s W')
    (h0 : I [] w)
    (hassign : ∀ (l : Nat) (x : It) (W : World) (K' : Act → World → Prop), K' (actI T p tz x W.heap.size) (W.alloc (.cells #[.string ⟨x.key.toArray⟩, .int .u64 (x.seq : Int), .bool x.gone, .string ⟨x.val.toArray⟩] 29)) →
      assign.wpIn (Fence.wide.inRound l) 7 Try.prog (Exit.then K' (fun _ _ _ => False)) { tmps := T.setIfInBounds p (iv x), defers := [] } W)
    (hbody : ∀ (l : Nat) (pre : List It) (x : It) (b : Nat) (W : World), I pre W → w.heap.size ≤ W.heap.size → IBox W b x → w.heap.size ≤ b → pre.length < xs.length → body.wpIn (Fence.wide.inRound l) 7 Try.prog (roundPost K I Ix (pre ++ [x]) W) (actI T p tz x b) W)
    (hdone : ∀ (D : Nat) (W : World), w.heap.size ≤ D → w.heap.size ≤ W.heap.size → I xs W → W.heap[D]? = some (.deferred (some [])) → Q .normal { tmps := T, defers := { target := .collected D, args := #[] } :: ds } W)
    (hstop : ∀ (D : Nat) (c : Code) (pre : List It) (W : World), w.heap.size ≤ D → w.heap.size ≤ W.heap.size → pre <+: xs → Ix c pre W → W.heap[D]? = some (.deferred (some [])) → c.wp Try.prog Q { tmps := T, defers := { target := .collected D, args := #[] } :: ds } W) :
    (Code.rangeFunc g #[p] assign body).wp Try.prog Q { tmps := T, defers := ds } w :=
  wp_rangeI hg eg hK hseq rfl I Ix hI hIx h0 (actI T p tz) (fun l x W K' h => by simpa using hassign l x W K' h) hbody hdone hstop
/-- at the return, where what is handed back is read from memory -/
theorem leaves_marksC {fn : Func} {tmps : Array Value} {R : Ending → World → Prop} {D : Nat} {v : Value} : ∀ (ms : List Nat) (W : World), (∀ m ∈ ms, D ≤ m ∧ ∃ r, W.heap[m]? = some (.deferred (some r)) ∧ r = []) → ms.Nodup →
    (∀ W', Apart D W W' → (results fn tmps).run Try.prog W' = .ok v W' ∧ R (.returned v) W') → D ≤ W.heap.size → LeavesInM Fence.wide 9 Try.prog fn tmps R (ms.map (fun m => ({ target := .collected m, args := #[] } : Deferred))) .returning W
  | [], W, _, _, hR, _ => ⟨v, hR W ⟨Below.refl _ _, fun _ _ _ _ h => h⟩⟩
  | m :: ms, W, hm, hn, hR, hD => by
    obtain ⟨h1, r, h2, rfl⟩ := hm m (by simp)
    refine ⟨by simp, .inl ⟨m, _, rfl, run_takeDeferred h2, ?_⟩⟩
    have hap : Apart D W (W.putObj m (.deferred none)) := apart_of (grownBy_putObj' W m (.deferred none)) (fun r e => by cases e; exact ⟨h1, _, h2, rfl⟩) hD
    refine leaves_marksC ms _ (fun k hk => ?_) (List.nodup_cons.1 hn).2 (fun W' h => hR W' ⟨hap.below.trans h.below, fun g cs e fr hc => h.cells _ _ _ _ (hap.cells _ _ _ _ hc)⟩) (by simpa using hD)
    obtain ⟨a, r, b, c⟩ := hm k (by simp [hk])
    exact ⟨a, r, (World.putObj_heap_other (fun e : k = m => (List.nodup_cons.1 hn).1 (by rw [← e]; exact hk))).trans b, c⟩
theorem postM_retC {fn : Func} {R : Ending → World → Prop} {a : Act} {W : World} {D : Nat} (v : Value) (hm : Marks D W a.defers) (hD : D ≤ W.heap.size) (hR : ∀ W', Apart D W W' → (results fn a.tmps).run Try.prog W' = .ok v W' ∧ R (.returned v) W') :
    bodyPostM Fence.wide 9 Try.prog fn R .ret a W := by
  obtain ⟨ms, e, h1, h2⟩ := hm
  show LeavesInM _ _ _ _ _ _ a.defers _ _
  rw [e]
  exact leaves_marksC ms W h1 h2 hR hD
theorem postM_ret1 {fn : Func} {R : Ending → World → Prop} {a : Act} {W : World} {D : Nat} {t : Tmp} (h : fn.results = #[.tmp t]) (hm : Marks D W a.defers) (hD : D ≤ W.heap.size) (hR : ∀ W', Apart D W W' → R (.returned (a.tmps.getD t undef)) W') :
    bodyPostM Fence.wide 9 Try.prog fn R .ret a W := postM_ret (fun W' => results_tmp h _ _ _) hm hD hR
theorem postM_ret01 {fn : Func} {R : Ending → World → Prop} {a : Act} {W : World} {t : Tmp} (h : fn.results = #[.tmp t]) (hd : a.defers = []) (hR : R (.returned (a.tmps.getD t undef)) W) :
    bodyPostM Fence.wide 9 Try.prog fn R .ret a W := postM_ret0 hd (results_tmp h _ _ _) hR
theorem Apart.ibox {D b : Nat} {W W' : World} {x : It} (h : Apart D W W') (hb : IBox W b x) : IBox W' b x := h.cells _ _ _ _ hb
theorem Apart.ownI {D base n cap : Nat} {A : Option Addr} {l : List It} {W W' : World} (h : Apart D W W') (ho : OwnI W base A n cap l) : OwnI W' base A n cap l := h.own ho
theorem Apart.is {D B n c : Nat} {A : Option Addr} {l : List It} {W W' : World} (h : Apart D W W') (hi : Is W B A n c l) : Is W' B A n c l := ⟨hi.len, hi.le, hi.max, h.row hi.row⟩
theorem KeepsOthers.grew {W W' : World} (h : Grew W W') : KeepsOthers W W' := ⟨h.size, fun k o hk _ => (h.block k (Array.getElem?_eq_some_iff.1 hk).1).trans hk⟩
/-- an append to items of one's own keeps what is no cells -/
theorem KeepsOthers.appI {W W' : World} {base n cap : Nat} {A : Option Addr} {l : List It} (ho : OwnI W base A n cap l) (hg : W.grownBy W' (blk A)) : KeepsOthers W W' :=
  KeepsOthers.of_grownBy hg fun j o ej hj => by
    rcases ho.2.2.2 with ⟨rfl, _⟩ | ⟨g', off, cur, fr, rfl, _, hh, _⟩
    · cases ej
    · simp [blk] at ej
      subst ej
      rw [hh] at hj
      cases hj
      rfl
theorem KeepSet.grown {K : Nat → Prop} {W W' : World} {row : Option Nat} {D : Nat} (hg : W.grownBy W' row) (hK : ∀ g, K g → g < D) (hD : D ≤ W.heap.size) (hr : ∀ r, row = some r → D ≤ r) : KeepSet K W W' :=
  fun g h => hg.block g (Nat.lt_of_lt_of_le (hK g h) hD) fun e => by have := hr g e.symm; have := hK g h; omega
/-- a box of slices of items is no row of items -/
theorem boxed_not_own {W : World} {bl base n cap : Nat} {v : Value} {A : Option Addr} {l : List It} (hb : Boxed W bl 23 v) (ho : OwnI W base A n cap l) : blk A ≠ some bl := by
  rcases ho.2.2.2 with ⟨rfl, _⟩ | ⟨g', off, cur, fr, rfl, _, hh, _⟩
  · simp [blk]
  · intro e
    simp [blk] at e
    subst e
    rw [show W.heap[g']? = _ from hb] at hh
    injection hh with hh
    injection hh with _ hh _
    exact absurd hh (by decide)
/-- 'out = append(out, x)' within a round: all that it leaves -/
theorem collectI {W w3 w0 : World} {D B0 bl n c n' c' : Nat} {A A' : Option Addr} {l l' : List It} {K : Nat → Prop} {tmp : Obj} (hBx : Boxed W bl 23 (.slice A n c)) (hO : OwnI W D A n c l) (hG : Below B0 w0 W)
    (hO3 : OwnI w3 D A' n' c' l') (hg3 : (W.alloc tmp).grownBy w3 (blk A)) (hK : ∀ g, K g → g < D ∧ g ≠ bl) (hD : D ≤ W.heap.size) (hB0 : B0 ≤ D) (hbl : B0 ≤ bl) :
    w3.cell? ⟨bl, 0, none⟩ = some (.slice A n c) ∧ w3.frozen? ⟨bl, 0, none⟩ = false ∧ KeepsOthers W (w3.setCell ⟨bl, 0, none⟩ (.slice A' n' c')) ∧ KeepSet K W (w3.setCell ⟨bl, 0, none⟩ (.slice A' n' c')) ∧
    Boxed (w3.setCell ⟨bl, 0, none⟩ (.slice A' n' c')) bl 23 (.slice A' n' c') ∧ OwnI (w3.setCell ⟨bl, 0, none⟩ (.slice A' n' c')) D A' n' c' l' ∧ Below B0 w0 (w3.setCell ⟨bl, 0, none⟩ (.slice A' n' c')) := by
  have hO1 := hO.alloc tmp
  have hBx1 := hBx.alloc tmp
  have hBx3 : Boxed w3 bl 23 (.slice A n c) := hBx1.kept hg3 (fun e => boxed_not_own hBx1 hO1 e.symm)
  have hrow : ∀ r, blk A = some r → D ≤ r := fun r e => (hO.lt r e).1
  refine ⟨hBx3.cell, hBx3.frozen, ?_, ?_, hBx3.set _, Own.setCell hO3 (fun e => boxed_not_own hBx3 hO3 e) _, ?_⟩
  · exact ((KeepsOthers.alloc W tmp).trans (KeepsOthers.appI hO1 hg3)).trans (KeepsOthers.setCell _ _ _)
  · exact ((KeepSet.alloc W tmp fun g hg => Nat.lt_of_lt_of_le (hK g hg).1 hD).trans (KeepSet.grown hg3 (fun g hg => (hK g hg).1) (by simp; omega) hrow)).trans (KeepSet.setCell _ _ _ fun hk => (hK _ hk).2 rfl)
  · exact ((hG.alloc (by omega) tmp).grown hg3 (by simp; omega) (fun k e => by have := hrow k e; omega)).setCell hbl _
/-- append of items within a round -/
theorem wpListIn_appI {F : Fence} {nf : Nat} {ops : Array Oper} {rest : List Oper} {o : Oper} {a : Act} {w : World} {Q : Exit → Act → World → Prop} (hgd : o.guard = none) (s x : Operand)
    (ho : o.op = .call { callee := .builtin .append, args := #[s, x], argTypes := #[23, 23] })
    (base : Nat) (A : Option Addr) (n cap : Nat) (l : List It) (hs : a.eval s = .slice A n cap) (hown : OwnI w base A n cap l)
    (A1 : Option Addr) (m c1 B1 : Nat) (r : List It) (hx : a.eval x = .slice A1 m c1) (hr : r.length = m) (hsrc : IRow w B1 A1 r) (hfit : n + m ≤ 100000000000) (hbase : base ≤ w.heap.size)
    (h : ∀ A' cap' w', OwnI w' base A' (n + m) cap' (l ++ r) → w.grownBy w' (blk A) → Below base w w' → wpListIn F nf Try.prog ops Q rest (a.put o.dst (.slice A' (n + m) cap')) w') :
    wpListIn F nf Try.prog ops Q (o :: rest) a w := by
  obtain ⟨i0, hi, hz0, hz1, hz2⟩ := info_parts info_item
  have hle := hown.le
  refine wpListIn_plain hgd fun K hK' => ?_
  obtain ⟨A', cap', w', hrun, hO, hg, hor⟩ := run_append_gen (P := Try.prog) w base 23 23 o.type 29 i0 (.agg #[.string ⟨#[]⟩, .int .u64 0, .bool false, .string ⟨#[]⟩]) 4 48 Try.underlying23 (.inl ⟨_, Try.underlying23⟩) hi hz0 hz1 hz2 rfl A n cap (itvs l) hown (a.eval x) m (itvs r) (by rw [hx]; exact Src.slice (by rw [itvs_len, hr]) hsrc) (one_itvs r) (by unfold maxLen; omega) (by
    by_cases hroom : n + m ≤ cap
    · exact .inl hroom
    · exact .inr (growslice_fits (by omega) (by omega))) hbase
  unfold Oper.wpIn
  refine ⟨?_, ?_⟩
  · simp [Oper.about, ho, resolve, Target.leads, Sem.run_pure]
  · rw [Oper.semAt_plain F _ _ (by rw [ho]; intro c hc'; cases hc')]
    simp [execOp, ho, resolve, invoke, builtin, hs, hrun, Result.andThen]
    exact hK' _ _ (h A' cap' w' (by unfold OwnI; rw [itvs_append]; exact hO) hg (below_grown hg hbase fun g e => (hown.lt g e).1))
end Go.Proofs.Ytemckkcbakccnaa
