/- A keeper of items in memory as a list of items with their heights; its methods' contracts over that list. -/
import Derived.Test.YtkkeodfoiffofaaMemAll
namespace Go.Proofs.Ytkkeodfoiffofaa
open Go.RowKit
set_option linter.unusedVariables false
open MemP
/-- the items from x's place on -/
def tailI (l : List It) (x : It) : List It := l.drop (ItP.at_ x l)
def getI (l : List It) (key : List UInt8) (q : Nat) : Option It := ((tailI l ⟨key, q, false, []⟩).head?).filter fun x => x.key == key
theorem tailN_map (ns : List Nd) (x : It) : (tailN ns x).map (·.x) = tailI (ns.map (·.x)) x := by unfold tailN tailI; rw [List.map_drop]
theorem memGet_items (ns : List Nd) (key : List UInt8) (q : Nat) : memGet ns key q = getI (ns.map (·.x)) key q := by
  unfold memGet getI
  rw [← tailN_map, List.head?_map]
/-- a keeper that holds these items, each with its height -/
def MemL (w : World) (B : Nat) (hd : Nd) (l : List (It × Nat)) : Prop := ∃ ns, MemI w B hd ns ∧ ns.map (fun q => (q.x, q.h)) = l
/-- what Put answers, and what it leaves -/
def putR (l : List (It × Nat)) (x : It) : Int × List (It × Nat) :=
  if ItP.may x = false then (1, l) else if (ItP.put (l.map (·.1)) x).2 = false then (12, l)
  else (0, l.take (ItP.at_ x (l.map (·.1))) ++ (x, hgt (l.length + 1)) :: l.drop (ItP.at_ x (l.map (·.1))))
/-- w' is w but for the keeper's own blocks and new ones -/
structure Kept (B : Nat) (w w' : World) : Prop where
  below : Below B w w'
  other : ∀ (g : Nat) (o : Obj), w.heap[g]? = some o → (∀ cs e fr, o = .cells cs e fr → e ≠ 70 ∧ e ≠ 72 ∧ e ≠ 73) → w'.heap[g]? = some o
section
variable {w w' w'' : World} {B : Nat} {hd : Nd} {l : List (It × Nat)}
theorem Kept.trans (h : Kept B w w') (k : Kept B w' w'') : Kept B w w'' := ⟨h.below.trans k.below, fun g o ho hc => k.other g o (h.other g o ho hc) hc⟩
theorem Kept.of_grew (h : Grew w w') (hB : B ≤ w.heap.size) : Kept B w w' := ⟨h.mono hB, fun g o ho _ => (h.block g (Array.getElem?_eq_some_iff.1 ho).1).trans ho⟩
theorem Kept.ownI (h : Kept B w w') {base n cap : Nat} {A : Option Addr} {l : List It} (ho : OwnI w base A n cap l) : OwnI w' base A n cap l := by
  refine Own.keep ho fun g hg => ?_
  rcases ho.2.2.2 with ⟨rfl, _⟩ | ⟨g', off, cur, fr, rfl, _, hh, _⟩
  · cases hg
  · simp [blk] at hg
    subst hg
    rw [hh]
    exact h.other _ _ hh fun cs e fr e1 => by cases e1; exact MemI.item_ne
theorem Kept.ibox (h : Kept B w w') {g : Nat} {x : It} (hb : IBox w g x) : IBox w' g x := h.other _ _ hb fun cs e fr e1 => by cases e1; exact MemI.item_ne
theorem Kept.boxed (h : Kept B w w') {g : Nat} {t : TypeId} {v : Value} (hb : Boxed w g t v) (ht : t ≠ 70 ∧ t ≠ 72 ∧ t ≠ 73) : Boxed w' g t v := h.other _ _ hb fun cs e fr e1 => by cases e1; exact ht
theorem Kept.others (h : Kept B w w') : KeepsOthers w w' := ⟨h.below.size, fun k o hk ho => h.other k o hk fun cs e fr e1 => by subst e1; cases ho⟩
theorem Kept.ownN (h : Kept B w w') {base n cap : Nat} {A : Option Addr} {xs : List Value} (ho : Own w base 3 1 A n cap xs) : Own w' base 3 1 A n cap xs := by
  refine Own.keep ho fun g hg => ?_
  rcases ho.2.2.2 with ⟨rfl, _⟩ | ⟨g', off, cur, fr, rfl, _, hh, _⟩
  · cases hg
  · simp [blk] at hg
    subst hg
    rw [hh]
    exact h.other _ _ hh fun cs e fr e1 => by cases e1; decide
theorem MemL.grew (h : MemL w B hd l) (hg : Grew w w') : MemL w' B hd l := by obtain ⟨ns, h1, h2⟩ := h; exact ⟨ns, h1.grew hg, h2⟩
theorem MemL.apart {D : Nat} (h : MemL w B hd l) (ha : Apart D w w') : MemL w' B hd l := by obtain ⟨ns, h1, h2⟩ := h; exact ⟨ns, h1.apart ha.cells, h2⟩
theorem MemL.other (h : MemL w B hd l) {row : Option Nat} (hg : w.grownBy w' row) (hr : ∀ r, row = some r → ∃ cs e fr, w.heap[r]? = some (.cells cs e fr) ∧ e ≠ 70 ∧ e ≠ 72 ∧ e ≠ 73) : MemL w' B hd l := by
  obtain ⟨ns, h1, h2⟩ := h
  exact ⟨ns, h1.other hg hr, h2⟩
theorem MemL.appI (h : MemL w B hd l) {base n cap : Nat} {A : Option Addr} {l' : List It} (ho : OwnI w base A n cap l') (hg : w.grownBy w' (blk A)) : MemL w' B hd l := by
  obtain ⟨ns, h1, h2⟩ := h
  exact ⟨ns, h1.appI ho hg, h2⟩
theorem items_of {ns : List Nd} (h : ns.map (fun q => (q.x, q.h)) = l) : ns.map (·.x) = l.map (·.1) := by rw [← h]; simp
theorem len_of {ns : List Nd} (h : ns.map (fun q => (q.x, q.h)) = l) : ns.length = l.length := by rw [← h]; simp
end
theorem memL_new (w : World) : Calls Try.prog 14 #[] w fun e w' => ∃ hd : Nd, e = .returned (.pointer (some ⟨hd.b, 0, none⟩)) ∧ MemL w' w.heap.size hd [] ∧ Grew w w' :=
  (mem_new w).mono fun e w' ⟨hd, h1, h2, h3⟩ => ⟨hd, h1, ⟨[], h2, rfl⟩, h3⟩
theorem memL_put (B : Nat) (hd : Nd) (l : List (It × Nat)) (x : It) (w : World) (h : MemL w B hd l) (hB : B ≤ w.heap.size) (hn : l.length ≤ 1000000) (hc : costs (l.map (·.1)) ≤ 1000000000000) :
    Calls Try.prog 15 #[.pointer (some ⟨hd.b, 0, none⟩), iv x] w fun e w' => e = .returned (.int .i64 (putR l x).1) ∧ MemL w' B hd (putR l x).2 ∧ Kept B w w' := by
  obtain ⟨ns, hM, hl⟩ := h
  have hi := items_of hl
  have hln := len_of hl
  refine (mem_put B hd ns x w hM hB (by omega) (by rw [hi]; exact hc)).mono ?_
  rintro e w' ⟨c, ns', rfl, hM', hS, hR⟩
  have hK : Kept B w w' := ⟨hS.below (fun g hg => (hM.lt g hg).1) hB, fun g o ho hc => (hS.block g (Array.getElem?_eq_some_iff.1 ho).1 fun hb => by
    cases o with
    | cells cs e fr =>
      obtain ⟨h1, h2, h3⟩ := hc cs e fr rfl
      rcases hM.lst.type hb ho with e | e | e
      · exact h1 e
      · exact h2 e
      · exact h3 e
    | _ =>
      obtain ⟨nd, hm, rfl | rfl⟩ := hb
      · obtain ⟨cs, e, h1, _⟩ := hM.lst.node nd hm
        rw [h1] at ho; cases ho
      · obtain ⟨A, R, e⟩ := List.append_of_mem hm
        obtain ⟨cs, h1, _⟩ := hM.lst.row A nd R e
        rw [h1] at ho; cases ho).trans ho⟩
  rcases hR with ⟨h1, h2, h3⟩ | ⟨h1, h2, h3, h4⟩ | ⟨h1, h2, h3, h4, P, nu, S, h5, hpl, h6, h7, h8, _, _⟩
  · have e : putR l x = (1, l) := by unfold putR; rw [if_pos h1]
    rw [e]
    exact ⟨by rw [h2], ⟨ns', hM', by rw [h3]; exact hl⟩, hK⟩
  · have e : putR l x = (12, l) := by unfold putR; rw [if_neg (by rw [h1]; decide), ← hi, if_pos h3]
    rw [e]
    exact ⟨by rw [h2], ⟨ns', hM', by rw [h4]; exact hl⟩, hK⟩
  · have e : putR l x = (0, l.take (ItP.at_ x (l.map (·.1))) ++ (x, hgt (l.length + 1)) :: l.drop (ItP.at_ x (l.map (·.1)))) := by unfold putR; rw [if_neg (by rw [h1]; decide), if_neg (by rw [← hi, h3]; decide)]
    rw [e]
    refine ⟨by rw [h2], ⟨ns', hM', ?_⟩, hK⟩
    have hat : P.length = ItP.at_ x (l.map (·.1)) := by rw [← hi]; exact hpl
    rw [h6, ← hat, ← hl, h5]
    simp [h7, h8, h5]
end Go.Proofs.Ytkkeodfoiffofaa
