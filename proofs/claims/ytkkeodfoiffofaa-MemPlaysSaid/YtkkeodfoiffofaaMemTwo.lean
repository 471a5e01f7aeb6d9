/- Two keepers side by side; a keeper of items of a family, in whatever order they were put. -/
import Derived.Test.YtkkeodfoiffofaaMemL
namespace Go.Proofs.Ytkkeodfoiffofaa
open Go.RowKit
set_option linter.unusedVariables false
open MemP
theorem put_post {w w' : World} {B : Nat} {hd : Nd} {ns : List Nd} {l : List (It × Nat)} {x : It} {e : Ending} (hM : MemI w B hd ns) (hl : ns.map (fun q => (q.x, q.h)) = l) (hB : B ≤ w.heap.size) (h : PutPost w B hd ns x e w') :
    ∃ ns', e = .returned (.int .i64 (putR l x).1) ∧ MemI w' B hd ns' ∧ ns'.map (fun q => (q.x, q.h)) = (putR l x).2 ∧ Kept B w w' ∧ Stay (blksN (hd :: ns)) w w' ∧ ∀ g, blksN (hd :: ns') g → blksN (hd :: ns) g ∨ w.heap.size ≤ g := by
  have hi := items_of hl
  have hln := len_of hl
  obtain ⟨c, ns', rfl, hM', hS, hR⟩ := h
  have hK : Kept B w w' := ⟨hS.below (fun g hg => (hM.lt g hg).1) hB, fun g o ho hc => (hS.block g (Array.getElem?_eq_some_iff.1 ho).1 fun hb => by
    cases o with
    | cells cs e fr =>
      obtain ⟨h1, h2, h3⟩ := hc cs e fr rfl
      rcases hM.lst.type hb ho with e | e | e
      · exact h1 e
      · exact h2 e
      · exact h3 e
    | _ =>
      obtain ⟨nd, hm, rfl | rfl⟩ := hb
      · obtain ⟨cs, e, h1, _⟩ := hM.lst.node nd hm
        rw [h1] at ho; cases ho
      · obtain ⟨A, R, e⟩ := List.append_of_mem hm
        obtain ⟨cs, h1, _⟩ := hM.lst.row A nd R e
        rw [h1] at ho; cases ho).trans ho⟩
  rcases hR with ⟨h1, h2, h3⟩ | ⟨h1, h2, h3, h4⟩ | ⟨h1, h2, h3, h4, P, nu, S, h5, hpl, h6, h7, h8, hd1, hd2⟩
  · have e : putR l x = (1, l) := by unfold putR; rw [if_pos h1]
    rw [e]
    subst h3
    exact ⟨_, by rw [h2], hM', hl, hK, hS, fun g hg => .inl hg⟩
  · have e : putR l x = (12, l) := by unfold putR; rw [if_neg (by rw [h1]; decide), ← hi, if_pos h3]
    rw [e]
    subst h4
    exact ⟨_, by rw [h2], hM', hl, hK, hS, fun g hg => .inl hg⟩
  · have e : putR l x = (0, l.take (ItP.at_ x (l.map (·.1))) ++ (x, hgt (l.length + 1)) :: l.drop (ItP.at_ x (l.map (·.1)))) := by unfold putR; rw [if_neg (by rw [h1]; decide), if_neg (by rw [← hi, h3]; decide)]
    rw [e]
    refine ⟨ns', by rw [h2], hM', ?_, hK, hS, fun g hg => ?_⟩
    · have hat : P.length = ItP.at_ x (l.map (·.1)) := by rw [← hi]; exact hpl
      rw [h6, ← hat, ← hl, h5]
      simp [h7, h8, h5]
    · obtain ⟨q, hq, hb⟩ := hg
      rw [h6] at hq
      simp only [List.mem_cons, List.mem_append] at hq
      rcases hq with hq | hq | hq | hq
      · exact .inl ⟨q, by simp [hq], hb⟩
      · exact .inl ⟨q, by simp [h5, hq], hb⟩
      · subst hq
        rcases hb with rfl | rfl
        · exact .inr hd1
        · exact .inr hd2
      · exact .inl ⟨q, by simp [h5, hq], hb⟩
/-- two keepers that share nothing -/
def Two (w : World) (Ba : Nat) (ha : Nd) (la : List (It × Nat)) (Bb : Nat) (hb : Nd) (lb : List (It × Nat)) : Prop :=
  ∃ na nb, (MemI w Ba ha na ∧ na.map (fun q => (q.x, q.h)) = la) ∧ (MemI w Bb hb nb ∧ nb.map (fun q => (q.x, q.h)) = lb) ∧ ∀ g, blksN (ha :: na) g → blksN (hb :: nb) g → False
section
variable {w w' : World} {Ba Bb : Nat} {ha hb : Nd} {la lb : List (It × Nat)}
theorem Two.swap (h : Two w Ba ha la Bb hb lb) : Two w Bb hb lb Ba ha la := by
  obtain ⟨na, nb, h1, h2, h3⟩ := h
  exact ⟨nb, na, h2, h1, fun g x y => h3 g y x⟩
theorem Two.fst (h : Two w Ba ha la Bb hb lb) : MemL w Ba ha la := by
  obtain ⟨na, nb, h1, h2, h3⟩ := h
  exact ⟨na, h1⟩
theorem Two.snd (h : Two w Ba ha la Bb hb lb) : MemL w Bb hb lb := h.swap.fst
theorem Two.grew (h : Two w Ba ha la Bb hb lb) (hg : Grew w w') : Two w' Ba ha la Bb hb lb := by
  obtain ⟨na, nb, h1, h2, h3⟩ := h
  exact ⟨na, nb, ⟨h1.1.grew hg, h1.2⟩, ⟨h2.1.grew hg, h2.2⟩, h3⟩
theorem Two.new (h : MemL w Ba ha la) (hg : Grew w w') (k : MemL w' w.heap.size hb lb) : Two w' Ba ha la w.heap.size hb lb := by
  obtain ⟨na, h1⟩ := h
  obtain ⟨nb, h2⟩ := k
  exact ⟨na, nb, ⟨h1.1.grew hg, h1.2⟩, h2, fun g x y => by have := (h1.1.lt g x).2; have := (h2.1.lt g y).1; omega⟩
theorem two_put (x : It) (h : Two w Ba ha la Bb hb lb) (hB : Ba ≤ w.heap.size) (hn : la.length ≤ 1000000) (hc : costs (la.map (·.1)) ≤ 1000000000000) :
    Calls Try.prog 15 #[.pointer (some ⟨ha.b, 0, none⟩), iv x] w fun e w' => e = .returned (.int .i64 (putR la x).1) ∧ Two w' Ba ha (putR la x).2 Bb hb lb ∧ Kept Ba w w' := by
  obtain ⟨na, nb, h1, h2, h3⟩ := h
  refine (mem_put Ba ha na x w h1.1 hB (by rw [len_of h1.2]; exact hn) (by rw [items_of h1.2]; exact hc)).mono ?_
  intro e w' hp
  obtain ⟨ns', e1, e2, e3, e4, e5, e6⟩ := put_post h1.1 h1.2 hB hp
  refine ⟨e1, ⟨ns', nb, ⟨e2, e3⟩, ⟨h2.1.keep fun g hg => e5.block g (h2.1.lt g hg).2 fun hk => h3 g hk hg, h2.2⟩, fun g x y => ?_⟩, e4⟩
  rcases e6 g x with e6 | e6
  · exact h3 g e6 y
  · have := (h2.1.lt g y).2
    omega
end
/-! ### items of a family -/
theorem srt_ext : ∀ {a b : List It}, ItP.Srt a → ItP.Srt b → (∀ x, x ∈ a ↔ x ∈ b) → a = b
  | [], [], _, _, _ => rfl
  | [], y :: r, _, _, h => by have := (h y).2 (by simp); simp at this
  | x :: r, [], _, _, h => by have := (h x).1 (by simp); simp at this
  | x :: r, y :: s, h1, h2, h => by
    unfold ItP.Srt at h1 h2
    rw [List.pairwise_cons] at h1 h2
    have exy : x = y := by
      have hx := (h x).1 (by simp)
      have hy := (h y).2 (by simp)
      rcases List.mem_cons.1 hx with hx | hx
      · exact hx
      rcases List.mem_cons.1 hy with hy | hy
      · exact hy.symm
      have := ItP.ahead_trans (h1.1 y hy) (h2.1 x hx)
      rw [ItP.ahead_irrefl] at this
      cases this
    subst exy
    have hr := srt_ext (a := r) (b := s) h1.2 h2.2 fun z => by
      have hz := h z
      simp only [List.mem_cons] at hz
      constructor
      · intro m
        rcases hz.1 (.inr m) with e | e
        · subst e
          have := h1.1 z m
          rw [ItP.ahead_irrefl] at this
          cases this
        · exact e
      · intro m
        rcases hz.2 (.inr m) with e | e
        · subst e
          have := h2.1 z m
          rw [ItP.ahead_irrefl] at this
          cases this
        · exact e
    rw [hr]
theorem MemL.srt {w : World} {B : Nat} {hd : Nd} {l : List (It × Nat)} (h : MemL w B hd l) : ItP.Srt (l.map (·.1)) := by
  obtain ⟨ns, h1, h2⟩ := h
  rw [← items_of h2]
  exact h1.srt
/-- not put: one of the same key and number is there -/
theorem put_none {l : List It} {x : It} (h : (ItP.put l x).2 = false) : ∃ y ∈ l, y.key = x.key ∧ y.seq = x.seq := by
  unfold ItP.put at h
  cases hd : l.drop (ItP.at_ x l) with
  | nil => rw [hd] at h; cases h
  | cons y r =>
    rw [hd] at h
    simp only at h
    have hm : y ∈ l := (List.drop_sublist (ItP.at_ x l) l).mem (by rw [hd]; simp)
    refine ⟨y, hm, ?_⟩
    have h1 : ItP.ahead x y = false := by
      cases e : ItP.ahead x y with
      | false => rfl
      | true => rw [if_pos e] at h; cases h
    have h2 : ItP.ahead y x = false := by
      have hdw : l.dropWhile (fun z => ItP.ahead z x) = y :: r := by
        rw [← hd]
        unfold ItP.at_
        conv => lhs; rw [← List.drop_left (l₁ := l.takeWhile fun z => ItP.ahead z x) (l₂ := l.dropWhile fun z => ItP.ahead z x), List.takeWhile_append_dropWhile]
      have := List.head_dropWhile_not (fun z => ItP.ahead z x) (l := l) (by rw [hdw]; simp)
      simpa [hdw] using this
    exact ItP.ahead_same h2 h1
/-- which items a keeper holds: those of the family that may be, with these numbers -/
def Holds (F : Nat → It) (S : Nat → Prop) (m : Nat) (l : List (It × Nat)) : Prop := l.length ≤ m ∧ costs (l.map (·.1)) ≤ m * 5000 ∧ ∀ x, x ∈ l.map (·.1) ↔ ∃ i, S i ∧ x = F i ∧ ItP.may x = true
theorem holds_nil (F : Nat → It) : Holds F (fun _ => False) 0 [] := ⟨Nat.le_refl _, by simp [costs], fun x => by simp⟩
theorem may_cost {x : It} (h : ItP.may x = true) : cost x ≤ 5000 := by
  unfold ItP.may at h
  simp only [Bool.and_eq_true, decide_eq_true_eq] at h
  unfold cost
  omega
theorem holds_put {F : Nat → It} {S : Nat → Prop} {m : Nat} {l : List (It × Nat)} (h : Holds F S m l) (hF : ∀ i, S i → (F i).seq = i) {j : Nat} (hj : (F j).seq = j) : Holds F (fun i => S i ∨ i = j) (m + 1) (putR l (F j)).2 := by
  obtain ⟨h1, h2, h3⟩ := h
  unfold putR
  by_cases hm : ItP.may (F j) = false
  · rw [if_pos hm]
    refine ⟨Nat.le_succ_of_le h1, Nat.le_trans h2 (Nat.mul_le_mul_right _ (Nat.le_succ _)), fun x => (h3 x).trans ⟨?_, ?_⟩⟩
    · rintro ⟨i, a, b, c⟩; exact ⟨i, .inl a, b, c⟩
    · rintro ⟨i, a | rfl, b, c⟩
      · exact ⟨i, a, b, c⟩
      · rw [b, hm] at c; cases c
  · rw [if_neg hm]
    have hm : ItP.may (F j) = true := by simpa using hm
    by_cases hp : (ItP.put (l.map (·.1)) (F j)).2 = false
    · rw [if_pos hp]
      refine ⟨Nat.le_succ_of_le h1, Nat.le_trans h2 (Nat.mul_le_mul_right _ (Nat.le_succ _)), fun x => (h3 x).trans ⟨?_, ?_⟩⟩
      · rintro ⟨i, a, b, c⟩; exact ⟨i, .inl a, b, c⟩
      · rintro ⟨i, a | rfl, b, c⟩
        · exact ⟨i, a, b, c⟩
        · obtain ⟨y, hy, h4, h5⟩ := put_none hp
          obtain ⟨k, hk, rfl, _⟩ := (h3 y).1 hy
          rw [hF k hk, hj] at h5
          subst h5
          exact ⟨k, hk, b, c⟩
    · rw [if_neg hp]
      refine ⟨?_, ?_, fun x => ?_⟩
      · simp only [List.length_append, List.length_cons]
        have := congrArg List.length (List.take_append_drop (ItP.at_ (F j) (l.map (·.1))) l)
        simp only [List.length_append] at this
        omega
      · have e : costs (l.map (·.1)) = costs ((l.take (ItP.at_ (F j) (l.map (·.1)))).map (·.1)) + costs ((l.drop (ItP.at_ (F j) (l.map (·.1)))).map (·.1)) := by
          rw [← costs_append, ← List.map_append, List.take_append_drop]
        have := may_cost hm
        simp only [List.map_append, List.map_cons, costs_append, costs_cons]
        omega
      · have e : x ∈ l.map (·.1) ↔ x ∈ (l.take (ItP.at_ (F j) (l.map (·.1)))).map (·.1) ∨ x ∈ (l.drop (ItP.at_ (F j) (l.map (·.1)))).map (·.1) := by
          conv => lhs; rw [← List.take_append_drop (ItP.at_ (F j) (l.map (·.1))) l, List.map_append, List.mem_append]
        rw [h3 x] at e
        simp only [List.map_append, List.map_cons, List.mem_append, List.mem_cons]
        constructor
        · rintro (a | a | a)
          · obtain ⟨i, b, c, d⟩ := e.2 (.inl a); exact ⟨i, .inl b, c, d⟩
          · exact ⟨j, .inr rfl, a, by rw [a]; exact hm⟩
          · obtain ⟨i, b, c, d⟩ := e.2 (.inr a); exact ⟨i, .inl b, c, d⟩
        · rintro ⟨i, a | rfl, b, c⟩
          · rcases e.1 ⟨i, a, b, c⟩ with e | e
            · exact .inl e
            · exact .inr (.inr e)
          · exact .inr (.inl b)
theorem Holds.mono {F : Nat → It} {S T : Nat → Prop} {m : Nat} {l : List (It × Nat)} (h : Holds F S m l) (hST : ∀ i, S i ↔ T i) : Holds F T m l := ⟨h.1, h.2.1, fun x => (h.2.2 x).trans ⟨fun ⟨i, u, v⟩ => ⟨i, (hST i).1 u, v⟩, fun ⟨i, u, v⟩ => ⟨i, (hST i).2 u, v⟩⟩⟩
theorem holds_same {F : Nat → It} {S T : Nat → Prop} {m m' : Nat} {a b : List (It × Nat)} (h : Holds F S m a) (k : Holds F T m' b) (hST : ∀ i, S i ↔ T i) (ha : ItP.Srt (a.map (·.1))) (hb : ItP.Srt (b.map (·.1))) : a.map (·.1) = b.map (·.1) :=
  srt_ext ha hb fun x => (h.2.2 x).trans (Iff.trans ⟨fun ⟨i, u, v⟩ => ⟨i, (hST i).1 u, v⟩, fun ⟨i, u, v⟩ => ⟨i, (hST i).2 u, v⟩⟩ (k.2.2 x).symm)
end Go.Proofs.Ytkkeodfoiffofaa
