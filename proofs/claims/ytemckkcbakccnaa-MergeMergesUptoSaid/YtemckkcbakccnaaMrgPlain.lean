/- Merging, plainly: what is seen at a moment, thinning out. -/
import Derived.Test.YtemckkcbakccnaaItemPlain
namespace Go.Proofs.Ytemckkcbakccnaa
open Go.RowKit
set_option linter.unusedVariables false
namespace MrgP
open ItP
/-- what is taken of a list: each one by what stands ahead of it and itself -/
def pick (p : List It → It → Bool) : List It → List It → List It
  | _, [] => []
  | pre, x :: r => (if p pre x = true then [x] else []) ++ pick p (pre ++ [x]) r
theorem pick_append (p : List It → It → Bool) : ∀ (a b pre : List It), pick p pre (a ++ b) = pick p pre a ++ pick p (pre ++ a) b
  | [], b, pre => by simp [pick]
  | x :: r, b, pre => by
    rw [List.cons_append, pick, pick_append p r b, pick, List.append_assoc, List.append_assoc, List.singleton_append]
theorem pick_add (p : List It → It → Bool) {l : List It} {k : Nat} {x : It} (hx : l[k]? = some x) : pick p [] (l.take (k + 1)) = pick p [] (l.take k) ++ (if p (l.take k) x = true then [x] else []) := by
  rw [List.take_add_one, hx, Option.toList_some, pick_append, List.nil_append]
  simp [pick]
theorem pick_le (p : List It → It → Bool) : ∀ (l pre : List It), (pick p pre l).length ≤ l.length
  | [], _ => by simp [pick]
  | x :: r, pre => by
    rw [pick, List.length_append, List.length_cons]
    have := pick_le p r (pre ++ [x])
    split <;> simp <;> omega
theorem pick_filter {p : List It → It → Bool} {f : It → Bool} : ∀ (r pre : List It), (∀ a x b, pre ++ r = a ++ x :: b → p a x = f x) → pick p pre r = r.filter f
  | [], _, _ => by simp [pick]
  | x :: r, pre, h => by
    rw [pick, h pre x r rfl, pick_filter r (pre ++ [x]) (fun a y b e => h a y b (by rw [← e]; simp)), List.filter_cons]
    split <;> simp
/-- is x the first one of its key that is told at a moment? -/
def first (q : Nat) (pre : List It) (x : It) : Bool := decide (x.seq ≤ q) && pre.all fun y => !(decide (y.key = x.key) && decide (y.seq ≤ q))
def seenB (q : Nat) (pre : List It) (x : It) : Bool := first q pre x && !x.gone
def seen (l : List It) (q : Nat) : List It := pick (seenB q) [] l
/-- the number that hides x, if there is one -/
def hidBy (pre : List It) (x : It) : Option Nat := match pre.getLast? with
  | some y => if y.key = x.key then some y.seq else none
  | none => none
def keepB (ms : List Nat) (pre : List It) (x : It) : Bool := ms.any fun m => decide (x.seq ≤ m) && (match hidBy pre x with | none => true | some n => decide (m < n))
def thinA (ms : List Nat) (l : List It) : List It := pick (keepB ms) [] l
/-- from the last one on: what is gone, and hides nothing -/
def strip : List It → List It
  | [] => []
  | x :: r => if (x.gone && decide ((strip r).head?.map (·.key) ≠ some x.key)) = true then strip r else x :: strip r
def thin (l : List It) (keep : List Nat) (bottom : Bool) : List It := if srt l = true then (if bottom = true then strip (thinA (keep ++ [m64 - 1]) l) else thinA (keep ++ [m64 - 1]) l) else []
/-- is x what is seen at a moment? -/
def sh (l : List It) (q : Nat) (x : It) : Bool := decide (ItP.get l x.key q = some x)
def shAny (l : List It) (keep : List Nat) (x : It) : Bool := sh l (m64 - 1) x || keep.any fun q => sh l q x
/-- the document's thinning -/
def thinR (l : List It) (keep : List Nat) (bottom : Bool) : List It := if srt l = true then (if bottom = true then strip (l.filter (shAny l keep)) else l.filter (shAny l keep)) else []
/-- what a list tells of a key at a moment -/
def Told (l : List It) (k : List UInt8) (q : Nat) (o : Option It) : Prop := match o with
  | none => ∀ y ∈ l, ¬ (y.key = k ∧ y.seq ≤ q)
  | some x => x ∈ l ∧ (x.key = k ∧ x.seq ≤ q) ∧ ∀ y ∈ l, y.key = k ∧ y.seq ≤ q → y.seq ≤ x.seq
theorem told_fold {k : List UInt8} {q : Nat} : ∀ (r pre : List It) (b : Option It), Told pre k q b → Told (pre ++ r) k q (r.foldl (best k q) b)
  | [], pre, b, h => by simpa using h
  | x :: r, pre, b, h => by
    rw [List.foldl_cons]
    have e : pre ++ x :: r = (pre ++ [x]) ++ r := by simp
    rw [e]
    refine told_fold r (pre ++ [x]) _ ?_
    unfold best
    by_cases hx : x.key = k ∧ x.seq ≤ q
    · rw [if_pos hx]
      rcases b with _ | y
      · refine ⟨by simp, hx, fun z hz hm => ?_⟩
        rcases List.mem_append.1 hz with hz | hz
        · exact absurd hm (h z hz)
        · rw [List.mem_singleton.1 hz]; exact Nat.le_refl _
      · obtain ⟨h1, h2, h3⟩ := h
        simp only
        by_cases hlt : y.seq < x.seq
        · rw [if_pos hlt]
          refine ⟨by simp, hx, fun z hz hm => ?_⟩
          rcases List.mem_append.1 hz with hz | hz
          · have := h3 z hz hm; omega
          · rw [List.mem_singleton.1 hz]; exact Nat.le_refl _
        · rw [if_neg hlt]
          refine ⟨by simp [h1], h2, fun z hz hm => ?_⟩
          rcases List.mem_append.1 hz with hz | hz
          · exact h3 z hz hm
          · rw [List.mem_singleton.1 hz]; omega
    · rw [if_neg hx]
      rcases b with _ | y
      · intro z hz hm
        rcases List.mem_append.1 hz with hz | hz
        · exact h z hz hm
        · rw [List.mem_singleton.1 hz] at hm; exact hx hm
      · obtain ⟨h1, h2, h3⟩ := h
        refine ⟨by simp [h1], h2, fun z hz hm => ?_⟩
        rcases List.mem_append.1 hz with hz | hz
        · exact h3 z hz hm
        · rw [List.mem_singleton.1 hz] at hm; exact absurd hm hx
theorem told_get (l : List It) (k : List UInt8) (q : Nat) : Told l k q (ItP.get l k q) := by
  have := told_fold (k := k) (q := q) l [] none (fun y hy => by cases hy)
  simpa [ItP.get] using this
theorem srt_inj : ∀ {l : List It}, Srt l → ∀ {x y : It}, x ∈ l → y ∈ l → x.key = y.key → x.seq = y.seq → x = y
  | [], _, x, _, hx, _, _, _ => by cases hx
  | a :: r, hs, x, y, hx, hy, hk, hq => by
    unfold Srt at hs
    rw [List.pairwise_cons] at hs
    rcases List.mem_cons.1 hx with e1 | h1
    · rcases List.mem_cons.1 hy with e2 | h2
      · rw [e1, e2]
      · have := hs.1 y h2
        rw [← e1, not_ahead_of_same ⟨hk, hq⟩] at this
        cases this
    · rcases List.mem_cons.1 hy with e2 | h2
      · have := hs.1 x h1
        rw [← e2, not_ahead_of_same ⟨hk.symm, hq.symm⟩] at this
        cases this
      · exact srt_inj (l := r) hs.2 h1 h2 hk hq
theorem sh_iff {l : List It} (hs : Srt l) {q : Nat} {x : It} (hx : x ∈ l) : sh l q x = true ↔ x.seq ≤ q ∧ ∀ y ∈ l, y.key = x.key → y.seq ≤ q → y.seq ≤ x.seq := by
  unfold sh
  rw [decide_eq_true_eq]
  have ht := told_get l x.key q
  constructor
  · intro h
    rw [h] at ht
    exact ⟨ht.2.1.2, fun y hy hk hq => ht.2.2 y hy ⟨hk, hq⟩⟩
  · rintro ⟨h1, h2⟩
    rcases hg : ItP.get l x.key q with _ | z
    · rw [hg] at ht
      exact absurd ⟨rfl, h1⟩ (ht x hx)
    · rw [hg] at ht
      obtain ⟨t1, t2, t3⟩ := ht
      have e1 := h2 z t1 t2.1 t2.2
      have e2 := t3 x hx ⟨rfl, h1⟩
      rw [srt_inj hs t1 hx t2.1 (by omega)]
theorem ahead_seq {a b : It} (h : ItP.ahead a b = true) (hk : a.key = b.key) : b.seq < a.seq := by
  unfold ItP.ahead at h
  rw [if_pos hk] at h
  simpa using h
theorem ahead_key {a b : It} (h : ItP.ahead a b = true) (hk : a.key ≠ b.key) : lessK a.key b.key = true := by
  unfold ItP.ahead at h
  rwa [if_neg hk] at h
theorem srt_mid {a b : List It} {x : It} (hs : Srt (a ++ x :: b)) : Srt a ∧ (∀ y ∈ a, ItP.ahead y x = true) ∧ (∀ y ∈ b, ItP.ahead x y = true) := by
  unfold Srt at *
  rw [List.pairwise_append, List.pairwise_cons] at hs
  exact ⟨hs.1, fun y hy => hs.2.2 y hy x (by simp), hs.2.1.1⟩
theorem first_sh {a b : List It} {x : It} {q : Nat} (hs : Srt (a ++ x :: b)) : first q a x = sh (a ++ x :: b) q x := by
  obtain ⟨_, h1, h2⟩ := srt_mid hs
  rw [Bool.eq_iff_iff, sh_iff hs (by simp)]
  unfold first
  rw [Bool.and_eq_true, decide_eq_true_eq, List.all_eq_true]
  constructor
  · rintro ⟨hq, ha⟩
    refine ⟨hq, fun y hy hk hyq => ?_⟩
    rcases List.mem_append.1 hy with hy | hy
    · have := ha y hy
      simp [hk] at this
      omega
    · rcases List.mem_cons.1 hy with rfl | hy
      · exact Nat.le_refl _
      · have := ahead_seq (h2 y hy) hk.symm; omega
  · rintro ⟨hq, ha⟩
    refine ⟨hq, fun y hy => ?_⟩
    by_cases hk : y.key = x.key
    · have h3 := ahead_seq (h1 y hy) hk
      have h4 : ¬ y.seq ≤ q := fun h => by have := ha y (by simp [hy]) hk h; omega
      simp [hk]
      omega
    · simp [hk]
theorem keep_first {a b : List It} {x : It} (ms : List Nat) (hs : Srt (a ++ x :: b)) : keepB ms a x = ms.any fun m => first m a x := by
  obtain ⟨h0, h1, _⟩ := srt_mid hs
  unfold keepB first
  congr 1
  funext m
  congr 1
  rw [Bool.eq_iff_iff, List.all_eq_true]
  unfold hidBy
  rcases List.eq_nil_or_concat a with rfl | ⟨c, z, rfl⟩
  · simp
  · rw [List.concat_eq_append] at *
    rw [List.getLast?_append, List.getLast?_singleton]
    simp only [Option.some_or]
    obtain ⟨_, g1, _⟩ := srt_mid (a := c) (x := z) (b := []) h0
    by_cases hk : z.key = x.key
    · simp only [if_pos hk, decide_eq_true_eq]
      constructor
      · intro hm y hy
        by_cases hyk : y.key = x.key
        · have : z.seq ≤ y.seq := by
            rcases List.mem_append.1 hy with hy | hy
            · exact Nat.le_of_lt (ahead_seq (g1 y hy) (hyk.trans hk.symm))
            · rw [List.mem_singleton.1 hy]; exact Nat.le_refl _
          simp [hyk]
          omega
        · simp [hyk]
      · intro h
        have := h z (by simp)
        simp [hk] at this
        exact this
    · simp only [if_neg hk, true_iff]
      intro y hy
      by_cases hyk : y.key = x.key
      · exfalso
        have hzx := ahead_key (h1 z (by simp)) hk
        rcases List.mem_append.1 hy with hy | hy
        · have hyz := g1 y hy
          unfold ItP.ahead at hyz
          rw [if_neg (by rw [hyk]; exact fun e => hk e.symm), hyk] at hyz
          rw [less_asymm hyz] at hzx
          cases hzx
        · rw [List.mem_singleton.1 hy] at hyk
          exact hk hyk
      · simp [hyk]
theorem seen_eq {l : List It} (hs : Srt l) (q : Nat) : seen l q = l.filter fun x => sh l q x && !x.gone := by
  unfold seen
  refine pick_filter l [] fun a x b e => ?_
  rw [List.nil_append] at e
  subst e
  unfold seenB
  rw [first_sh hs]
theorem thinA_eq {l : List It} (hs : Srt l) (ms : List Nat) : thinA ms l = l.filter fun x => ms.any fun m => sh l m x := by
  unfold thinA
  refine pick_filter l [] fun a x b e => ?_
  rw [List.nil_append] at e
  subst e
  rw [keep_first ms hs]
  congr 1
  funext m
  exact first_sh hs
theorem thin_eq (l : List It) (keep : List Nat) (bottom : Bool) : thin l keep bottom = thinR l keep bottom := by
  unfold thin thinR
  by_cases h : srt l = true
  · rw [if_pos h, if_pos h, thinA_eq (srt_iff.1 h)]
    have e : (fun x => (keep ++ [m64 - 1]).any fun m => sh l m x) = shAny l keep := by
      funext x
      unfold shAny
      rw [List.any_append, Bool.or_comm]
      simp
    rw [e]
  · rw [if_neg h, if_neg h]
/-- what is shown in a part of a list that holds all that is shown -/
theorem sh_part {l t : List It} (hs : Srt l) (ht : t.Sublist l) {q : Nat} (hall : ∀ x ∈ l, sh l q x = true → x ∈ t) {x : It} (hx : x ∈ t) : sh t q x = sh l q x := by
  have hst : Srt t := by unfold Srt at *; exact hs.sublist ht
  rw [Bool.eq_iff_iff, sh_iff hst hx, sh_iff hs (ht.subset hx)]
  constructor
  · rintro ⟨h1, h2⟩
    refine ⟨h1, fun y hy hk hq => ?_⟩
    have hg := told_get l x.key q
    rcases hgt : ItP.get l x.key q with _ | z
    · rw [hgt] at hg
      exact absurd ⟨hk, hq⟩ (hg y hy)
    · rw [hgt] at hg
      obtain ⟨g1, g2, g3⟩ := hg
      have hz : sh l q z = true := by unfold sh; rw [g2.1, hgt]; simp
      have := h2 z (hall z g1 hz) g2.1 g2.2
      have := g3 y hy ⟨hk, hq⟩
      omega
  · rintro ⟨h1, h2⟩
    exact ⟨h1, fun y hy => h2 y (ht.subset hy)⟩
theorem sh_more {l t : List It} (hs : Srt l) (ht : t.Sublist l) {q : Nat} {x : It} (hx : x ∈ t) (h : sh l q x = true) : sh t q x = true := by
  have hst : Srt t := by unfold Srt at *; exact hs.sublist ht
  rw [sh_iff hs (ht.subset hx)] at h
  rw [sh_iff hst hx]
  exact ⟨h.1, fun y hy => h.2 y (ht.subset hy)⟩
theorem strip_sub : ∀ l : List It, (strip l).Sublist l
  | [] => by simp [strip]
  | x :: r => by
    rw [strip]
    split
    · exact (strip_sub r).cons _
    · exact (strip_sub r).cons_cons _
theorem strip_strip : ∀ l : List It, strip (strip l) = strip l
  | [] => by simp [strip]
  | x :: r => by
    have ih := strip_strip r
    rw [strip]
    by_cases h : (x.gone && decide ((strip r).head?.map (·.key) ≠ some x.key)) = true
    · rw [if_pos h, ih]
    · rw [if_neg h, strip, ih, if_neg h]
/-- stripping hides nothing and uncovers nothing -/
theorem pick_strip (q : Nat) : ∀ (l pre : List It), Srt l → pick (seenB q) pre (strip l) = pick (seenB q) pre l
  | [], pre, _ => by simp [strip]
  | x :: r, pre, hs => by
    unfold Srt at hs
    rw [List.pairwise_cons] at hs
    rw [strip]
    by_cases h : (x.gone && decide ((strip r).head?.map (·.key) ≠ some x.key)) = true
    · rw [if_pos h, pick]
      have hg : x.gone = true := by simp at h; exact h.1
      rw [if_neg (by unfold seenB; simp [hg]), List.nil_append, ← pick_strip q r (pre ++ [x]) hs.2]
      have hkeys : ∀ y ∈ strip r, y.key ≠ x.key := by
        have hsr : (strip r).Pairwise fun a b => ItP.ahead a b = true := hs.2.sublist (strip_sub r)
        have hah : ∀ y ∈ strip r, ItP.ahead x y = true := fun y hy => hs.1 y ((strip_sub r).subset hy)
        generalize strip r = t at *
        rcases t with _ | ⟨z, t⟩
        · intro y hy; cases hy
        · have hz : z.key ≠ x.key := by simp at h; exact h.2
          intro y hy
          rcases List.mem_cons.1 hy with rfl | hy
          · exact hz
          · intro e
            have h1 := ahead_key (hah z (by simp)) (fun e => hz e.symm)
            have h2 := (List.pairwise_cons.1 hsr).1 y hy
            unfold ItP.ahead at h2
            rw [if_neg (by rw [e]; exact hz), e] at h2
            rw [less_asymm h2] at h1
            cases h1
      generalize strip r = t at hkeys
      clear h hs hg
      -- x ahead of items of other keys makes no difference
      have go : ∀ (t mid : List It), (∀ y ∈ t, y.key ≠ x.key) → pick (seenB q) (pre ++ mid) t = pick (seenB q) (pre ++ [x] ++ mid) t := by
        intro t
        induction t with
        | nil => intro mid _; simp [pick]
        | cons y t ih =>
          intro mid hy
          have hyx := hy y (by simp)
          rw [pick, pick]
          have e : seenB q (pre ++ mid) y = seenB q (pre ++ [x] ++ mid) y := by
            unfold seenB first
            have hd : decide (x.key = y.key) = false := decide_eq_false fun e => hyx e.symm
            rw [List.all_append, List.all_append, List.all_append, List.all_cons, List.all_nil, hd]
            simp
          have ih' := ih (mid ++ [y]) (fun z hz => hy z (by simp [hz]))
          rw [← List.append_assoc, ← List.append_assoc] at ih'
          rw [e, ih']
      have := go t [] hkeys
      simpa using this
    · rw [if_neg h, pick, pick, pick_strip q r (pre ++ [x]) hs.2]
theorem seen_strip {l : List It} (hs : Srt l) (q : Nat) : seen (strip l) q = seen l q := pick_strip q l [] hs
theorem thin_srt {l : List It} (hs : Srt l) (keep : List Nat) (bottom : Bool) : thinR l keep bottom = (if bottom = true then strip (l.filter (shAny l keep)) else l.filter (shAny l keep)) := by
  unfold thinR
  rw [if_pos (srt_iff.2 hs)]
theorem thin_sub {l : List It} (hs : Srt l) (keep : List Nat) (bottom : Bool) : (thinR l keep bottom).Sublist l := by
  rw [thin_srt hs]
  split
  · exact (strip_sub _).trans List.filter_sublist
  · exact List.filter_sublist
theorem thin_again {l : List It} (hs : Srt l) (keep : List Nat) (bottom : Bool) : thinR (thinR l keep bottom) keep bottom = thinR l keep bottom := by
  have hsub := thin_sub hs keep bottom
  have hst : Srt (thinR l keep bottom) := by unfold Srt at *; exact hs.sublist hsub
  rw [thin_srt hst]
  have hall : ∀ x ∈ thinR l keep bottom, shAny (thinR l keep bottom) keep x = true := by
    intro x hx
    have hx2 : x ∈ l.filter (shAny l keep) := by
      rw [thin_srt hs] at hx
      split at hx
      · exact (strip_sub _).subset hx
      · exact hx
    have h := (List.mem_filter.1 hx2).2
    unfold shAny at h ⊢
    rw [Bool.or_eq_true, List.any_eq_true] at h ⊢
    rcases h with h | ⟨m, hm, h⟩
    · exact .inl (sh_more hs hsub hx h)
    · exact .inr ⟨m, hm, sh_more hs hsub hx h⟩
  rw [List.filter_eq_self.2 hall]
  split
  · rename_i hb
    rw [thin_srt hs, if_pos hb, strip_strip]
  · rfl
theorem thin_seen {l : List It} (hs : Srt l) (keep : List Nat) (bottom : Bool) {q : Nat} (hq : q = m64 - 1 ∨ q ∈ keep) : seen (thinR l keep bottom) q = seen l q := by
  have hst : Srt (l.filter (shAny l keep)) := by unfold Srt at *; exact hs.sublist List.filter_sublist
  have e : seen (thinR l keep bottom) q = seen (l.filter (shAny l keep)) q := by
    rw [thin_srt hs]
    split
    · exact seen_strip hst q
    · rfl
  rw [e, seen_eq hst, seen_eq hs, List.filter_filter]
  have hsub : (l.filter (shAny l keep)).Sublist l := List.filter_sublist
  have hin : ∀ x ∈ l, sh l q x = true → x ∈ l.filter (shAny l keep) := fun x hx h => by
    rw [List.mem_filter]
    refine ⟨hx, ?_⟩
    unfold shAny
    rw [Bool.or_eq_true, List.any_eq_true]
    rcases hq with rfl | hq
    · exact .inl h
    · exact .inr ⟨q, hq, h⟩
  refine List.filter_congr fun x hx => ?_
  by_cases ha : shAny l keep x = true
  · rw [sh_part hs hsub hin (List.mem_filter.2 ⟨hx, ha⟩), ha, Bool.and_true]
  · have : sh l q x = false := by
      cases h : sh l q x with
      | false => rfl
      | true => exact absurd (List.mem_filter.1 (hin x hx h)).2 ha
    simp [this, ha]
theorem thin_all {l : List It} (hs : Srt l) (keep : List Nat) (hk : ∀ x ∈ l, x.seq ∈ keep) : thinR l keep false = l := by
  rw [thin_srt hs, if_neg (by decide)]
  refine List.filter_eq_self.2 fun x hx => ?_
  unfold shAny
  rw [Bool.or_eq_true, List.any_eq_true]
  refine .inr ⟨x.seq, hk x hx, ?_⟩
  rw [sh_iff hs hx]
  exact ⟨Nat.le_refl _, fun y _ _ h => h⟩
theorem thin_more {l : List It} (hs : Srt l) (keep more : List Nat) : thinR l keep false = (thinR l (keep ++ more) false).filter (shAny l keep) := by
  rw [thin_srt hs, thin_srt hs, if_neg (by decide), if_neg (by decide), List.filter_filter]
  refine List.filter_congr fun x _ => ?_
  unfold shAny
  rw [List.any_append]
  cases sh l (m64 - 1) x <;> cases (keep.any fun q => sh l q x) <;> rfl
/-- the places of a filtered list, gone through greedily -/
theorem greedy {b : List It} {f : It → Bool} {i : Nat} {x : It} (hx : b[i]? = some x) :
    ((f x = true → (b.filter f)[((b.take i).filter f).length]? = some x) ∧ (f x = false → ∀ y, (b.filter f)[((b.take i).filter f).length]? = some y → y ≠ x)) ∧
    ((b.take (i + 1)).filter f).length = ((b.take i).filter f).length + (if f x = true then 1 else 0) := by
  have hi := List.getElem?_eq_some_iff.1 hx
  obtain ⟨hi1, hi2⟩ := hi
  have e : b = b.take i ++ x :: b.drop (i + 1) := by
    have := List.drop_eq_getElem_cons hi1
    rw [hi2] at this
    rw [← this, List.take_append_drop]
  refine ⟨⟨fun h => ?_, fun h y hy => ?_⟩, ?_⟩
  · have e2 : b.filter f = (b.take i).filter f ++ x :: (b.drop (i + 1)).filter f := by
      have e3 := congrArg (List.filter f) e
      rwa [List.filter_append, List.filter_cons, if_pos h] at e3
    rw [e2, List.getElem?_append_right (Nat.le_refl _), Nat.sub_self]
    rfl
  · intro ey
    subst ey
    have := (List.mem_filter.1 (List.mem_of_getElem? hy)).2
    rw [h] at this
    cases this
  · rw [List.take_add_one, hx, List.filter_append, List.length_append]
    congr 1
    cases hfx : f x <;> simp [hfx]
end MrgP
end Go.Proofs.Ytemckkcbakccnaa
