/- A keeper of items in memory, as a whole: what holds of it; the heights; where a new node goes. -/
import Derived.Test.YtkkeodfoiffofaaMemIns
import Derived.Test.YtkkeodfoiffofaaMemAhead
import Derived.Test.YtkkeodfoiffofaaMemGood
namespace Go.Proofs.Ytkkeodfoiffofaa
open Go.RowKit
set_option linter.unusedVariables false
open MemP
namespace MemP
def hgtF : Nat → Nat → Nat → Nat
  | 0, n, _ => n
  | f + 1, n, h => if h % 4 = 0 ∧ n < 12 then hgtF f (n + 1) (h / 4) else n
/-- on how many levels the item stands that was put as number h -/
def hgt (h : Nat) : Nat := hgtF 12 1 h
theorem hgtF_le : ∀ (f n h : Nat), n ≤ 12 → n ≤ hgtF f n h ∧ hgtF f n h ≤ 12
  | 0, n, h, hn => ⟨Nat.le_refl _, hn⟩
  | f + 1, n, h, hn => by
    unfold hgtF
    split
    · have := hgtF_le f (n + 1) (h / 4) (by omega)
      omega
    · exact ⟨Nat.le_refl _, hn⟩
theorem hgt_le (h : Nat) : 1 ≤ hgt h ∧ hgt h ≤ 12 := hgtF_le 12 1 h (by omega)
/-- how many bytes an item counts -/
def cost (x : It) : Nat := 16 + x.key.length + x.val.length
def costs (l : List It) : Nat := (l.map cost).sum
theorem costs_append (a b : List It) : costs (a ++ b) = costs a + costs b := by simp [costs]
theorem costs_cons (x : It) (l : List It) : costs (x :: l) = cost x + costs l := by simp [costs]
theorem srt_take {x : It} : ∀ {l : List It}, ItP.Srt l → (∀ y ∈ l.take (ItP.at_ x l), ItP.ahead y x = true) ∧ (∀ y ∈ l.drop (ItP.at_ x l), ItP.ahead y x = false)
  | [], _ => ⟨fun y h => by simp at h, fun y h => by simp at h⟩
  | y :: r, h => by
    unfold ItP.Srt at h
    rw [List.pairwise_cons] at h
    unfold ItP.at_
    rw [List.takeWhile_cons]
    cases hy : ItP.ahead y x with
    | true =>
      have ih := srt_take (x := x) (l := r) h.2
      unfold ItP.at_ at ih
      simp only [if_true, List.length_cons, List.take_succ_cons, List.drop_succ_cons]
      refine ⟨fun z hz => ?_, ih.2⟩
      rcases List.mem_cons.1 hz with rfl | hz
      · exact hy
      · exact ih.1 z hz
    | false =>
      simp only [Bool.false_eq_true, if_false, List.length_nil, List.take_zero, List.drop_zero]
      refine ⟨(fun z hz => by cases hz), fun z hz => ?_⟩
      rcases List.mem_cons.1 hz with rfl | hz
      · exact hy
      · cases hz2 : ItP.ahead z x with
        | false => rfl
        | true =>
          rw [ItP.ahead_trans (h.1 z hz) hz2] at hy
          cases hy
/-- the nodes ahead of x, and those behind -/
theorem parts {ns : List Nd} (hs : SrtN ns) (x : It) : ∃ P S, ns = P ++ S ∧ P.length = ItP.at_ x (ns.map (·.x)) ∧ (∀ q ∈ P, ItP.ahead q.x x = true) ∧ ∀ q ∈ S, ItP.ahead q.x x = false := by
  have h := srt_take (x := x) hs
  rw [← List.map_take, ← List.map_drop] at h
  refine ⟨ns.take (ItP.at_ x (ns.map (·.x))), ns.drop (ItP.at_ x (ns.map (·.x))), (List.take_append_drop _ _).symm, ?_, fun q hq => h.1 q.x (List.mem_map.2 ⟨q, hq, rfl⟩), fun q hq => h.2 q.x (List.mem_map.2 ⟨q, hq, rfl⟩)⟩
  rw [List.length_take]
  have := ItP.at_le x (ns.map (·.x))
  simp at this
  omega
theorem last_in {hd : Nd} {P S : List Nd} {x : It} {j : Nat} {nd : Nd} (hP : ∀ q ∈ P, ItP.ahead q.x x = true) (hS : ∀ q ∈ S, ItP.ahead q.x x = false) (h : LastAt (hd :: (P ++ S)) x j nd) :
    ∃ A A2, hd :: P = A ++ nd :: A2 ∧ j < nd.h ∧ (∀ a ∈ A2, a.h ≤ j) ∧ hd :: (P ++ S) = A ++ nd :: (A2 ++ S) := by
  obtain ⟨A, R, e, h1, h2, h3⟩ := h
  have e' : (hd :: P) ++ S = A ++ nd :: R := by rw [← e]; rfl
  have key : ∃ X, hd :: P = A ++ nd :: X ∧ R = X ++ S := by
    rw [List.append_eq_append_iff] at e'
    rcases e' with ⟨X, e1, e2⟩ | ⟨X, e1, e2⟩
    · exfalso
      rcases h1 with h1 | h1
      · subst h1
        cases e1
      · have : nd ∈ S := by rw [e2]; simp
        rw [hS nd this] at h1
        cases h1
    · cases X with
      | nil =>
        exfalso
        simp only [List.nil_append, List.append_nil] at e1 e2
        rcases h1 with h1 | h1
        · subst h1; cases e1
        · have : nd ∈ S := by rw [← e2]; simp
          rw [hS nd this] at h1
          cases h1
      | cons y X =>
        simp only [List.cons_append, List.cons.injEq] at e2
        obtain ⟨rfl, e2⟩ := e2
        exact ⟨X, e1, e2⟩
  obtain ⟨X, k1, k2⟩ := key
  refine ⟨A, X, k1, h2, fun a ha => ?_, by rw [e, k2]⟩
  rcases Nat.lt_or_ge j a.h with hlt | hge
  · exfalso
    have h4 := h3 a (by rw [k2]; simp [ha]) hlt
    have : a ∈ P := by
      cases A with
      | nil =>
        simp only [List.nil_append, List.cons.injEq] at k1
        rw [k1.2]; exact ha
      | cons z A =>
        simp only [List.cons_append, List.cons.injEq] at k1
        rw [k1.2]
        simp [ha]
    rw [hP a this] at h4
    cases h4
  · exact hge
end MemP
/-- a keeper: its head's node, the nodes behind it -/
structure MemI (w : World) (B : Nat) (hd : Nd) (ns : List Nd) : Prop where
  lst : Lst w B (hd :: ns)
  hh : hd.h = 12
  hs : hd.s = 12
  srt : SrtN ns
  hts : ∀ q ∈ ns, 1 ≤ q.h ∧ q.h = q.s ∧ q.s ≤ 12
  len : w.cell? ⟨hd.b, 5, none⟩ = some (.int .i64 (ns.length : Int)) ∧ w.frozen? ⟨hd.b, 5, none⟩ = false
  bytes : w.cell? ⟨hd.b, 6, none⟩ = some (.int .i64 (costs (ns.map (·.x)) : Int)) ∧ w.frozen? ⟨hd.b, 6, none⟩ = false
/-- w' is w, but for blocks of K and new ones -/
structure Stay (K : Nat → Prop) (w w' : World) : Prop where
  os : w'.os = w.os
  tape : w'.tape = w.tape
  output : w'.output = w.output
  size : w.heap.size ≤ w'.heap.size
  block : ∀ g, g < w.heap.size → ¬ K g → w'.heap[g]? = w.heap[g]?
section
variable {w w' w'' : World} {B : Nat} {hd : Nd} {ns : List Nd} {K K' : Nat → Prop}
theorem Stay.refl (K : Nat → Prop) (w : World) : Stay K w w := ⟨rfl, rfl, rfl, Nat.le_refl _, fun _ _ _ => rfl⟩
theorem Stay.trans (h : Stay K w w') (k : Stay K w' w'') : Stay K w w'' := ⟨k.os.trans h.os, k.tape.trans h.tape, k.output.trans h.output, Nat.le_trans h.size k.size, fun g hg hn => (k.block g (Nat.lt_of_lt_of_le hg h.size) hn).trans (h.block g hg hn)⟩
theorem Stay.grew (h : Stay K w w') (k : Grew w' w'') : Stay K w w'' := ⟨k.os.trans h.os, k.tape.trans h.tape, k.output.trans h.output, Nat.le_trans h.size k.size, fun g hg hn => (k.block g (Nat.lt_of_lt_of_le hg h.size)).trans (h.block g hg hn)⟩
theorem Stay.of_grew (h : Grew w w') : Stay K w w' := (Stay.refl K w).grew h
theorem Stay.mono (h : Stay K w w') (hK : ∀ g, g < w.heap.size → K g → K' g) : Stay K' w w' := ⟨h.os, h.tape, h.output, h.size, fun g hg hn => h.block g hg fun hk => hn (hK g hg hk)⟩
theorem Stay.below (h : Stay K w w') {n : Nat} (hn : ∀ g, K g → n ≤ g) (hw : n ≤ w.heap.size) : Below n w w' := ⟨h.os, h.tape, h.output, h.size, fun g hg => h.block g (by omega) (fun hk => by have := hn g hk; omega)⟩
theorem Stay.setCell (h : Stay K w w') {p : Addr} (hp : K p.block ∨ w.heap.size ≤ p.block) (v : Value) : Stay K w (w'.setCell p v) := ⟨h.os, h.tape, h.output, by simpa [World.setCell] using h.size, fun g hg hn => by
  rw [Below.heap_setCell w' p v g (fun e => by
    rcases hp with hp | hp
    · exact hn (e ▸ hp)
    · omega)]
  exact h.block g hg hn⟩
theorem MemI.lt (h : MemI w B hd ns) : ∀ g, blksN (hd :: ns) g → B ≤ g ∧ g < w.heap.size := h.lst.lt
theorem MemI.keep (h : MemI w B hd ns) (hk : ∀ g, blksN (hd :: ns) g → w'.heap[g]? = w.heap[g]?) : MemI w' B hd ns := by
  have hb := hk hd.b ⟨hd, by simp, .inl rfl⟩
  exact ⟨h.lst.keep hk, h.hh, h.hs, h.srt, h.hts, ⟨(World.cell?_of_block (a := ⟨hd.b, 5, none⟩) hb).trans h.len.1, (World.frozen?_of_block (a := ⟨hd.b, 5, none⟩) hb).trans h.len.2⟩, ⟨(World.cell?_of_block (a := ⟨hd.b, 6, none⟩) hb).trans h.bytes.1, (World.frozen?_of_block (a := ⟨hd.b, 6, none⟩) hb).trans h.bytes.2⟩⟩
theorem MemI.nob (h : MemI w B hd ns) : ∀ q ∈ ns, q.b ≠ hd.b := fun q hq e => by
  have h1 := h.lst.tops
  rw [List.map_cons, List.nodup_cons] at h1
  exact h1.1 (by rw [← e]; exact List.mem_map.2 ⟨q, hq, rfl⟩)
theorem MemI.grew (h : MemI w B hd ns) (hg : Grew w w') : MemI w' B hd ns := h.keep fun g hb => hg.block g (h.lt g hb).2
/-- a write into a block of another type -/
theorem MemI.other (h : MemI w B hd ns) {row : Option Nat} (hg : w.grownBy w' row) (hr : ∀ r, row = some r → ∃ cs e fr, w.heap[r]? = some (.cells cs e fr) ∧ e ≠ 70 ∧ e ≠ 72 ∧ e ≠ 73) : MemI w' B hd ns :=
  h.keep fun g hb => hg.block g (h.lt g hb).2 fun e => by
    obtain ⟨cs, t, fr, h1, h2, h3, h4⟩ := hr g e.symm
    rcases h.lst.type hb h1 with e | e | e
    · exact h2 e
    · exact h3 e
    · exact h4 e
theorem MemI.apart (h : MemI w B hd ns) (hk : ∀ (g : Nat) (cs : Array Value) (e : TypeId) (fr : Nat × Nat), w.heap[g]? = some (.cells cs e fr) → w'.heap[g]? = some (.cells cs e fr)) : MemI w' B hd ns :=
  h.keep fun g hb => by
    obtain ⟨nd, hm, rfl | rfl⟩ := hb
    · obtain ⟨cs, e, h1, _⟩ := h.lst.node nd hm
      rw [h1, hk _ _ _ _ h1]
    · obtain ⟨A, R, e⟩ := List.append_of_mem hm
      obtain ⟨cs, h1, _⟩ := h.lst.row A nd R e
      rw [h1, hk _ _ _ _ h1]
/-- what lies in a block of another type, behind a call that keeps all but the keeper's own -/
theorem MemI.kept (h : MemI w B hd ns) (hs : Stay (blksN (hd :: ns)) w w') {g : Nat} {cs : Array Value} {e : TypeId} {fr : Nat × Nat} (hg : w.heap[g]? = some (.cells cs e fr)) (h1 : e ≠ 70) (h2 : e ≠ 72) (h3 : e ≠ 73) : w'.heap[g]? = w.heap[g]? :=
  hs.block g (lt_of_blk hg) fun hb => by
    rcases h.lst.type hb hg with e | e | e
    · exact h1 e
    · exact h2 e
    · exact h3 e
theorem MemI.item_ne : 29 ≠ 70 ∧ 29 ≠ 72 ∧ 29 ≠ 73 := by decide
theorem MemI.ownI (h : MemI w B hd ns) (hs : Stay (blksN (hd :: ns)) w w') {base n cap : Nat} {A : Option Addr} {l : List It} (ho : OwnI w base A n cap l) : OwnI w' base A n cap l := by
  refine Own.keep ho fun g hg => ?_
  rcases ho.2.2.2 with ⟨rfl, _⟩ | ⟨g', off, cur, fr, rfl, _, hh, _⟩
  · cases hg
  · simp [blk] at hg
    subst hg
    exact h.kept hs hh MemI.item_ne.1 MemI.item_ne.2.1 MemI.item_ne.2.2
theorem MemI.ibox (h : MemI w B hd ns) (hs : Stay (blksN (hd :: ns)) w w') {g : Nat} {x : It} (hb : IBox w g x) : IBox w' g x := (h.kept hs hb MemI.item_ne.1 MemI.item_ne.2.1 MemI.item_ne.2.2).trans hb
/-- an append to items of one's own -/
theorem MemI.appI (h : MemI w B hd ns) {base n cap : Nat} {A : Option Addr} {l : List It} (ho : OwnI w base A n cap l) (hg : w.grownBy w' (blk A)) : MemI w' B hd ns :=
  h.other hg fun r e => by
    rcases ho.2.2.2 with ⟨rfl, _⟩ | ⟨g', off, cur, fr, rfl, _, hh, _⟩
    · cases e
    · simp [blk] at e
      subst e
      exact ⟨_, _, _, hh, MemI.item_ne⟩
end
set_option maxHeartbeats 400000 in
theorem mem_height (h0 : Nat) (w : World) (hb : h0 ≤ 9007199254740992) : Calls Try.prog 44 #[.int .i64 (h0 : Int)] w fun e w' => e = .returned (.int .i64 (hgt h0 : Int)) ∧ w = w' := by
  have HT := Lib.hid (show hgtF 12 1 h0 = hgt h0 from rfl)
  go_enter Try.func44, Try.ntmps44
  go_wp2_with fail
  go_loop [0, 3] (fun u n => ∃ f k h : Nat, u = .int .i64 (h : Int) ∧ n = .int .i64 (k : Int) ∧ f + k = 13 ∧ 1 ≤ k ∧ k ≤ 12 ∧ h ≤ 9007199254740992 ∧ hgtF f k h = hgt h0) (fun _ n => 13 - (intOf n).toNat)
  case atStart => exact ⟨12, 1, h0, rfl, rfl, rfl, by omega, by omega, hb, rfl⟩
  case round =>
    obtain ⟨f, k, h, rfl, rfl, hf, hk1, hk12, hhb, he⟩ := hrel
    have HE := Lib.hid he
    clear he
    by_cases hc : h % 4 = 0 ∧ k < 12
    · obtain ⟨f', rfl⟩ : ∃ f', f = f' + 1 := ⟨f - 1, by omega⟩
      have HE2 := Lib.hid (show hgtF f' (k + 1) (h / 4) = hgt h0 by rw [← HE.out]; conv => rhs; unfold hgtF; rw [if_pos hc])
      have q1 : ((h : Int) % 4 == 0) = true := by simp; omega
      have q2 : (k : Int) < 12 := by omega
      have q3 : (0 : Int) ≤ (h : Int) := by omega
      have q4 : (h : Int) ≤ 9007199254740992 := by omega
      clear hc
      go_wp2_with fail
      go_round
      case rel => exact ⟨f', k + 1, h / 4, by go_num, by go_num, by omega, by omega, by omega, by omega, HE2.out⟩
      case measure => simp [intOf]; omega
    · have HK := Lib.hid (show hgt h0 = k by
        rw [← HE.out]
        cases f with
        | zero => rfl
        | succ f => unfold hgtF; rw [if_neg hc])
      have q3 : (0 : Int) ≤ (h : Int) := by omega
      have q4 : (h : Int) ≤ 9007199254740992 := by omega
      by_cases h4 : h % 4 = 0
      · have q1 : ((h : Int) % 4 == 0) = true := by simp; omega
        have q2 : ¬ (k : Int) < 12 := by omega
        clear hc
        go_wp2_with fail
        go_ret
        exact ⟨by rw [HK.out]; rfl, rfl⟩
      · have q1 : ((h : Int) % 4 == 0) = false := by simp; omega
        clear hc
        go_wp2_with fail
        go_ret
        exact ⟨by rw [HK.out]; rfl, rfl⟩
end Go.Proofs.Ytkkeodfoiffofaa
