/- Stable sorting, plainly: sorted, and of each key and number the order as it was. -/
import Derived.Test.YtemckkcbakccnaaMrgPlain
import Derived.Test.YtemckkcbakccnaaItemIns
namespace Go.Proofs.Ytemckkcbakccnaa
open Go.RowKit
set_option linter.unusedVariables false
namespace SymP
open ItP
/-- may a stand before b? -/
def le (a b : It) : Prop := ItP.ahead b a = false
theorem le_iff {a b : It} : le a b ↔ (ItP.ahead a b = true ∨ (a.key = b.key ∧ a.seq = b.seq)) := by
  unfold le
  constructor
  · intro h
    cases h2 : ItP.ahead a b with
    | true => exact .inl rfl
    | false => exact .inr (ahead_same h2 h)
  · rintro (h | h)
    · exact ahead_asymm h
    · exact not_ahead_of_same ⟨h.1.symm, h.2.symm⟩
theorem le_of_ahead {a b : It} (h : ItP.ahead a b = true) : le a b := le_iff.2 (.inl h)
theorem le_refl (a : It) : le a a := ahead_irrefl a
theorem ahead_le {a b c : It} (h1 : ItP.ahead a b = true) (h2 : le b c) : ItP.ahead a c = true := by
  rcases le_iff.1 h2 with h2 | h2
  · exact ahead_trans h1 h2
  · rw [← ahead_congr' h2]; exact h1
theorem le_ahead {a b c : It} (h1 : le a b) (h2 : ItP.ahead b c = true) : ItP.ahead a c = true := by
  rcases le_iff.1 h1 with h1 | h1
  · exact ahead_trans h1 h2
  · rw [ahead_congr h1]; exact h2
theorem le_trans {a b c : It} (h1 : le a b) (h2 : le b c) : le a c := by
  rcases le_iff.1 h1 with h | h
  · exact le_of_ahead (ahead_le h h2)
  · unfold le at *
    rw [ahead_congr' h]
    exact h2
def WS : List It → Prop := List.Pairwise le
def cls (k : List UInt8) (q : Nat) (x : It) : Bool := decide (x.key = k ∧ x.seq = q)
/-- R is L, sorted, of each class in the order as it was -/
def Eqc (R L : List It) : Prop := ∀ k q, R.filter (cls k q) = L.filter (cls k q)
def OkR (R L : List It) : Prop := WS R ∧ Eqc R L
theorem Eqc.refl (L : List It) : Eqc L L := fun _ _ => rfl
theorem Eqc.trans {A B C : List It} (h : Eqc A B) (k : Eqc B C) : Eqc A C := fun x y => (h x y).trans (k x y)
theorem Eqc.mid {R L : List It} (h : Eqc R L) (a b : List It) : Eqc (a ++ R ++ b) (a ++ L ++ b) := fun k q => by
  simp only [List.filter_append, h k q]
theorem Eqc.append {R L R' L' : List It} (h : Eqc R L) (h' : Eqc R' L') : Eqc (R ++ R') (L ++ L') := fun k q => by
  simp only [List.filter_append, h k q, h' k q]
theorem eqc_mem {R L : List It} (h : Eqc R L) (x : It) : x ∈ R ↔ x ∈ L := by
  have e := h x.key x.seq
  have : ∀ l : List It, x ∈ l ↔ x ∈ l.filter (cls x.key x.seq) := fun l => by
    rw [List.mem_filter]
    simp [cls]
  rw [this R, this L, e]
theorem filter_none {A : List It} {k : List UInt8} {q : Nat} (h : ∀ x ∈ A, ¬ (x.key = k ∧ x.seq = q)) : A.filter (cls k q) = [] := by
  rw [List.filter_eq_nil_iff]
  intro x hx
  simp only [cls, decide_eq_true_eq]
  exact h x hx
/-- what stands strictly ahead may change places -/
theorem eqc_swap {A B : List It} (h : ∀ b ∈ B, ∀ a ∈ A, ItP.ahead b a = true) : Eqc (B ++ A) (A ++ B) := fun k q => by
  rw [List.filter_append, List.filter_append]
  by_cases hb : ∃ b ∈ B, b.key = k ∧ b.seq = q
  · obtain ⟨b, hb, hk⟩ := hb
    have : A.filter (cls k q) = [] := filter_none fun a ha hka => by
      have := h b hb a ha
      rw [not_ahead_of_same ⟨hk.1.trans hka.1.symm, hk.2.trans hka.2.symm⟩] at this
      cases this
    rw [this, List.append_nil, List.nil_append]
  · have : B.filter (cls k q) = [] := filter_none fun b hb' hk => hb ⟨b, hb', hk⟩
    rw [this, List.append_nil, List.nil_append]
theorem sym_ok {A1 A2 B1 B2 R1 R2 : List It} (hA : WS (A1 ++ A2)) (hB : WS (B1 ++ B2)) (h1 : ∀ a ∈ A1, ∀ b ∈ B2, le a b) (h2 : ∀ b ∈ B1, ∀ a ∈ A2, ItP.ahead b a = true)
    (k1 : OkR R1 (A1 ++ B1)) (k2 : OkR R2 (A2 ++ B2)) : OkR (R1 ++ R2) (A1 ++ A2 ++ (B1 ++ B2)) := by
  unfold WS at hA hB
  rw [List.pairwise_append] at hA hB
  refine ⟨?_, ?_⟩
  · unfold WS
    rw [List.pairwise_append]
    refine ⟨k1.1, k2.1, fun x hx y hy => ?_⟩
    have hx := (eqc_mem k1.2 x).1 hx
    have hy := (eqc_mem k2.2 y).1 hy
    rcases List.mem_append.1 hx with hx | hx <;> rcases List.mem_append.1 hy with hy | hy
    · exact hA.2.2 x hx y hy
    · exact h1 x hx y hy
    · exact le_of_ahead (h2 x hx y hy)
    · exact hB.2.2 x hx y hy
  · refine (k1.2.append k2.2).trans ?_
    have := (eqc_swap h2).mid A1 B2
    simpa using this
theorem okr_self {L : List It} (h : WS L) : OkR L L := ⟨h, Eqc.refl _⟩
theorem okr_trans {A B C : List It} (h : OkR A B) (k : Eqc B C) : OkR A C := ⟨h.1, h.2.trans k⟩
/-- from the boundary -/
theorem low_of {A1 B2 : List It} (hA : WS A1) (hB : WS B2) (h : ∀ a b, A1.getLast? = some a → B2.head? = some b → le a b) : ∀ a ∈ A1, ∀ b ∈ B2, le a b := by
  intro a ha b hb
  rcases List.eq_nil_or_concat A1 with rfl | ⟨A, z, rfl⟩
  · cases ha
  · rcases B2 with _ | ⟨y, B⟩
    · cases hb
    · rw [List.concat_eq_append] at *
      have hz := h z y (by simp) rfl
      have h1 : le a z := by
        unfold WS at hA
        rw [List.pairwise_append] at hA
        rcases List.mem_append.1 ha with ha | ha
        · exact hA.2.2 a ha z (by simp)
        · rw [List.mem_singleton.1 ha]; exact le_refl _
      have h2 : le y b := by
        unfold WS at hB
        rw [List.pairwise_cons] at hB
        rcases List.mem_cons.1 hb with rfl | hb
        · exact le_refl _
        · exact hB.1 b hb
      exact le_trans h1 (le_trans hz h2)
theorem high_of {B1 A2 : List It} (hB : WS B1) (hA : WS A2) (h : ∀ b a, B1.getLast? = some b → A2.head? = some a → ItP.ahead b a = true) : ∀ b ∈ B1, ∀ a ∈ A2, ItP.ahead b a = true := by
  intro b hb a ha
  rcases List.eq_nil_or_concat B1 with rfl | ⟨B, z, rfl⟩
  · cases hb
  · rcases A2 with _ | ⟨y, A⟩
    · cases ha
    · rw [List.concat_eq_append] at *
      have hz := h z y (by simp) rfl
      have h1 : le b z := by
        unfold WS at hB
        rw [List.pairwise_append] at hB
        rcases List.mem_append.1 hb with hb | hb
        · exact hB.2.2 b hb z (by simp)
        · rw [List.mem_singleton.1 hb]; exact le_refl _
      have h2 : le y a := by
        unfold WS at hA
        rw [List.pairwise_cons] at hA
        rcases List.mem_cons.1 ha with rfl | ha
        · exact le_refl _
        · exact hA.1 a ha
      exact ahead_le (le_ahead h1 hz) h2
/-- insertion from the right end on sorts -/
theorem ins_ok : ∀ {P : List It} {x : It}, WS P → OkR (SrtP.insR P x) (P ++ [x]) := by
  intro P
  induction h : P.length generalizing P with
  | zero =>
    intro x _
    obtain rfl := List.length_eq_zero_iff.1 h
    exact okr_self (List.pairwise_singleton _ _)
  | succ n ih =>
    intro x hP
    rcases List.eq_nil_or_concat P with rfl | ⟨Q, p, rfl⟩
    · simp at h
    · rw [List.concat_eq_append] at *
      rw [SrtP.insR_snoc]
      have hQ : WS Q := by unfold WS at *; rw [List.pairwise_append] at hP; exact hP.1
      by_cases ha : ItP.ahead x p = true
      · rw [if_pos ha]
        have k := ih (P := Q) (by simp at h; exact h) (x := x) hQ
        have := sym_ok (A1 := Q) (A2 := [p]) (B1 := [x]) (B2 := []) (R2 := [p]) hP (List.pairwise_singleton _ _) (by simp) (by simpa using ha) k (okr_self (List.pairwise_singleton _ _))
        simpa using this
      · rw [if_neg ha]
        refine okr_self ?_
        have ha' : le p x := by simpa [le] using ha
        unfold WS at *
        rw [List.pairwise_append]
        refine ⟨hP, List.pairwise_singleton _ _, fun a ham b hb => ?_⟩
        rw [List.mem_singleton.1 hb]
        rw [List.pairwise_append] at hP
        rcases List.mem_append.1 ham with h1 | h1
        · exact le_trans (hP.2.2 a h1 p (by simp)) ha'
        · rw [List.mem_singleton.1 h1]; exact ha'
theorem isort_ok (l : List It) : OkR (SrtP.isort l) l := by
  have go : ∀ (r P Q : List It), OkR P Q → OkR (r.foldl SrtP.insR P) (Q ++ r) := by
    intro r
    induction r with
    | nil => intro P Q h; simpa using h
    | cons x r ih =>
      intro P Q h
      rw [List.foldl_cons]
      have h1 := okr_trans (ins_ok (x := x) h.1) (h.2.append (Eqc.refl [x]))
      have := ih _ _ h1
      simpa using this
  exact go l [] [] (okr_self List.Pairwise.nil)
/-- two sorted lists with like classes are one -/
theorem ws_ext : ∀ {A B : List It}, WS A → WS B → Eqc A B → A = B
  | [], B, _, _, h => by
    rcases B with _ | ⟨b, B⟩
    · rfl
    · have := (eqc_mem h b).2 (by simp)
      cases this
  | a :: A, B, hA, hB, h => by
    rcases B with _ | ⟨b, B⟩
    · have := (eqc_mem h a).1 (by simp)
      cases this
    · unfold WS at hA hB
      rw [List.pairwise_cons] at hA hB
      have hab : le a b := by
        rcases List.mem_cons.1 ((eqc_mem h b).2 (by simp)) with e | e
        · rw [e]; exact le_refl _
        · exact hA.1 b e
      have hba : le b a := by
        rcases List.mem_cons.1 ((eqc_mem h a).1 (by simp)) with e | e
        · rw [e]; exact le_refl _
        · exact hB.1 a e
      have hs := ahead_same hba hab
      have e1 := h a.key a.seq
      rw [List.filter_cons, List.filter_cons, if_pos (by simp [cls]), if_pos (by simp [cls, hs.1, hs.2])] at e1
      injection e1 with e1 e2
      subst e1
      congr 1
      refine ws_ext hA.2 hB.2 fun k q => ?_
      have e3 := h k q
      rw [List.filter_cons, List.filter_cons] at e3
      split at e3
      · injection e3
      · exact e3
theorem eqc_len {R L : List It} (h : OkR R L) : R.length = L.length := by
  have h1 := isort_ok L
  have h2 := ws_ext h.1 h1.1 (h.2.trans fun k q => (h1.2 k q).symm)
  rw [h2]
  unfold SrtP.isort
  rw [SrtP.isort_len]
  simp
theorem okr_isort {R L : List It} (h : OkR R L) : R = SrtP.isort L := by
  have h1 := isort_ok L
  exact ws_ext h.1 h1.1 (h.2.trans fun k q => (h1.2 k q).symm)
end SymP
end Go.Proofs.Ytemckkcbakccnaa
