/- Merging, plainly: items put in one by one are the items sorted stably, of each class the first. -/
import Derived.Test.YtemckkcbakccnaaSymPlain
import Derived.Test.YtemckkcbakccnaaItemCompact
import Derived.Test.YtemckkcbakccnaaRefPut
import Derived.Test.YtemckkcbakccnaaItemCat
namespace Go.Proofs.Ytemckkcbakccnaa
open Go.RowKit
set_option linter.unusedVariables false
namespace SymP
open ItP MrgP
def foldP (l : List It) : List It := l.foldl (fun o x => (ItP.put o x).1) []
theorem put_split {l : List It} {x : It} (hs : Srt l) : (∃ a b, l = a ++ b ∧ (∀ y ∈ a, ItP.ahead y x = true) ∧ (∀ y ∈ b, ItP.ahead x y = true) ∧ ItP.put l x = (a ++ x :: b, true)) ∨ ((∃ y ∈ l, y.key = x.key ∧ y.seq = x.seq) ∧ ItP.put l x = (l, false)) := by
  have hl := List.takeWhile_append_dropWhile (p := fun y => ItP.ahead y x) (l := l)
  have hd : l.drop (at_ x l) = l.dropWhile fun y => ItP.ahead y x := by
    unfold at_
    conv => lhs; arg 2; rw [← hl]
    exact List.drop_left
  have ht : l.take (at_ x l) = l.takeWhile fun y => ItP.ahead y x := by
    unfold at_
    conv => lhs; arg 2; rw [← hl]
    exact List.take_left
  have ha : ∀ y ∈ l.takeWhile (fun y => ItP.ahead y x), ItP.ahead y x = true := fun y hy => List.all_takeWhile (l := l) (p := fun y => ItP.ahead y x) |> fun h => by
    rw [List.all_eq_true] at h
    exact h y hy
  unfold ItP.put
  rw [hd, ht]
  cases hdw : l.dropWhile (fun y => ItP.ahead y x) with
  | nil =>
    rw [hdw] at hl
    exact .inl ⟨_, [], hl.symm, ha, by simp, by simp⟩
  | cons y r =>
    have hny : ItP.ahead y x = false := by
      have := List.head_dropWhile_not (fun z => ItP.ahead z x) (l := l) (by rw [hdw]; simp)
      simpa [hdw] using this
    have hm : y ∈ l := by rw [← hl, hdw]; simp
    simp only
    by_cases e : ItP.ahead x y = true
    · rw [if_pos e]
      refine .inl ⟨_, y :: r, by rw [← hdw]; exact hl.symm, ha, fun z hz => ?_, rfl⟩
      rcases List.mem_cons.1 hz with rfl | hz
      · exact e
      · unfold Srt at hs
        rw [← hl, hdw, List.pairwise_append, List.pairwise_cons] at hs
        exact ahead_trans e (hs.2.1.1 z hz)
    · rw [if_neg e]
      exact .inr ⟨⟨y, hm, ahead_same hny (by simpa using e)⟩, rfl⟩
theorem put_srt {l : List It} {x : It} (hs : Srt l) : Srt (ItP.put l x).1 := by
  rcases put_split (x := x) hs with ⟨a, b, e, h1, h2, h3⟩ | ⟨_, h3⟩
  · rw [h3]
    subst e
    unfold Srt at *
    rw [List.pairwise_append] at hs ⊢
    refine ⟨hs.1, List.pairwise_cons.2 ⟨h2, hs.2.1⟩, fun y hy z hz => ?_⟩
    rcases List.mem_cons.1 hz with rfl | hz
    · exact h1 y hy
    · exact ahead_trans (h1 y hy) (h2 z hz)
  · rw [h3]; exact hs
theorem put_cls {l : List It} {x : It} (hs : Srt l) (k : List UInt8) (q : Nat) : (ItP.put l x).1.filter (cls k q) = (l.filter (cls k q) ++ [x].filter (cls k q)).take 1 ∨ 1 < (l.filter (cls k q)).length := by
  by_cases hlen : 1 < (l.filter (cls k q)).length
  · exact .inr hlen
  refine .inl ?_
  rcases put_split (x := x) hs with ⟨a, b, e, h1, h2, h3⟩ | ⟨⟨y, hy, hk, hq⟩, h3⟩
  · rw [h3]
    subst e
    by_cases hx : cls k q x = true
    · have hx' : x.key = k ∧ x.seq = q := by simpa [cls] using hx
      have e1 : a.filter (cls k q) = [] := filter_none fun y hy hh => by
        have := h1 y hy
        rw [not_ahead_of_same ⟨hh.1.trans hx'.1.symm, hh.2.trans hx'.2.symm⟩] at this
        cases this
      have e2 : b.filter (cls k q) = [] := filter_none fun y hy hh => by
        have := h2 y hy
        rw [not_ahead_of_same ⟨hx'.1.trans hh.1.symm, hx'.2.trans hh.2.symm⟩] at this
        cases this
      rw [List.filter_append, List.filter_append, List.filter_cons, if_pos hx, e1, e2, List.filter_cons, if_pos hx]
      rfl
    · rw [List.filter_append, List.filter_append, List.filter_cons, if_neg hx, List.filter_cons, if_neg hx]
      rw [List.filter_append] at hlen
      simp only [List.filter_nil, List.append_nil]
      rw [List.take_of_length_le (by omega)]
  · rw [h3]
    by_cases hx : cls k q x = true
    · have hx' : x.key = k ∧ x.seq = q := by simpa [cls] using hx
      have hm : y ∈ l.filter (cls k q) := List.mem_filter.2 ⟨hy, by simp [cls, hk, hq, hx'.1, hx'.2]⟩
      have h0 := List.length_pos_of_mem hm
      rw [List.take_append_of_le_length (by omega), List.take_of_length_le (by omega)]
    · rw [List.filter_cons, if_neg hx]
      simp only [List.filter_nil, List.append_nil]
      rw [List.take_of_length_le (by omega)]
theorem fold_ok : ∀ (r P L : List It), Srt P → (∀ k q, P.filter (cls k q) = (L.filter (cls k q)).take 1) → Srt (r.foldl (fun o x => (ItP.put o x).1) P) ∧ ∀ k q, (r.foldl (fun o x => (ItP.put o x).1) P).filter (cls k q) = ((L ++ r).filter (cls k q)).take 1
  | [], P, L, hP, h => ⟨hP, fun k q => by simpa using h k q⟩
  | x :: r, P, L, hP, h => by
    rw [List.foldl_cons, show L ++ x :: r = (L ++ [x]) ++ r by simp]
    refine fold_ok r _ _ (put_srt hP) fun k q => ?_
    rcases put_cls (x := x) hP k q with e | e
    · rw [e, h k q, List.filter_append]
      cases L.filter (cls k q) with
      | nil => rfl
      | cons y s => rfl
    · rw [h k q, List.length_take] at e
      omega
theorem srt_ws {l : List It} (h : Srt l) : WS l := List.Pairwise.imp (fun h => le_of_ahead h) h
/-- of items that follow y: each one that is not like the one ahead -/
def nextP : It → List It → List It
  | _, [] => []
  | y, x :: r => (if sameB x y = true then [] else [x]) ++ nextP x r
theorem pick_next : ∀ (r pre : List It) (y : It), pre.getLast? = some y → pick newB pre r = nextP y r
  | [], pre, y, h => rfl
  | x :: r, pre, y, h => by
    rw [pick, nextP, pick_next r (pre ++ [x]) x (by simp)]
    unfold newB
    rw [h]
    show (if (!sameB x y) = true then [x] else []) ++ nextP x r = _
    cases sameB x y <;> rfl
theorem same_iff {x y : It} : sameB x y = true ↔ x.key = y.key ∧ x.seq = y.seq := by
  unfold sameB
  rw [decide_eq_true_eq, ItP.cmp_zero]
theorem next_cls (k : List UInt8) (q : Nat) : ∀ (r : List It) (y : It), WS (y :: r) → (nextP y r).filter (cls k q) = if cls k q y = true then [] else (r.filter (cls k q)).take 1
  | [], y, _ => by simp [nextP]
  | x :: r, y, h => by
    have hxr : WS (x :: r) := (List.pairwise_cons.1 h).2
    rw [nextP, List.filter_append, next_cls k q r x hxr]
    have c1 : sameB x y = true → cls k q x = cls k q y := fun h => by
      have := same_iff.1 h
      unfold cls
      rw [this.1, this.2]
    by_cases hs : sameB x y = true
    · rw [if_pos hs, c1 hs]
      by_cases hy : cls k q y = true
      · rw [if_pos hy, if_pos hy]; rfl
      · rw [if_neg hy, if_neg hy, List.filter_cons, c1 hs, if_neg hy]; rfl
    · rw [if_neg hs]
      by_cases hx : cls k q x = true
      · rw [if_pos hx]
        have hy : ¬ cls k q y = true := fun hy => hs (same_iff.2 (by
          have a1 : x.key = k ∧ x.seq = q := by simpa [cls] using hx
          have a2 : y.key = k ∧ y.seq = q := by simpa [cls] using hy
          exact ⟨a1.1.trans a2.1.symm, a1.2.trans a2.2.symm⟩))
        rw [if_neg hy, List.filter_cons, if_pos hx, List.filter_cons, if_pos hx]
        rfl
      · rw [if_neg hx, List.filter_cons, if_neg hx, List.filter_cons, if_neg hx]
        by_cases hy : cls k q y = true
        · rw [if_pos hy]
          have a2 : y.key = k ∧ y.seq = q := by simpa [cls] using hy
          rw [filter_none (A := r) (k := k) (q := q) fun z hz hh => by
            have l1 : le y x := (List.pairwise_cons.1 h).1 x (by simp)
            have l2 : le x z := (List.pairwise_cons.1 hxr).1 z hz
            have l3 : le z y := by rw [le_iff]; exact .inr ⟨hh.1.trans a2.1.symm, hh.2.trans a2.2.symm⟩
            have l4 := le_trans l2 l3
            have := ahead_same l1 l4
            exact hx (by simp [cls, this.1, this.2, a2.1, a2.2])]
          rfl
        · rw [if_neg hy]; rfl
theorem pick_sub (p : List It → It → Bool) : ∀ (l pre : List It), (pick p pre l).Sublist l
  | [], _ => by simp [pick]
  | x :: r, pre => by
    rw [pick]
    have := pick_sub p r (pre ++ [x])
    split
    · simpa using this.cons_cons x
    · simpa using this.cons x
theorem compact_cls {S : List It} (h : WS S) (k : List UInt8) (q : Nat) : (compactP S).filter (cls k q) = (S.filter (cls k q)).take 1 := by
  rcases S with _ | ⟨x, r⟩
  · rfl
  · unfold compactP
    rw [pick, pick_next r _ x (by simp), List.filter_append, next_cls k q r x h]
    have e : newB [] x = true := rfl
    rw [if_pos e]
    by_cases hx : cls k q x = true
    · rw [if_pos hx, List.filter_cons, if_pos hx, List.filter_cons, if_pos hx]; rfl
    · rw [if_neg hx, List.filter_cons, if_neg hx, List.filter_cons, if_neg hx]; rfl
/-- the document's merging is the program's -/
theorem fold_compact (L : List It) : compactP (SrtP.isort L) = foldP L := by
  have h1 := isort_ok L
  have h2 := fold_ok L [] [] List.Pairwise.nil (fun k q => rfl)
  refine ws_ext (h1.1.sublist (pick_sub newB _ _)) (srt_ws h2.1) fun k q => ?_
  rw [compact_cls h1.1, h1.2 k q]
  exact (h2.2 k q).symm
theorem foldP_srt (L : List It) : Srt (foldP L) := (fold_ok L [] [] List.Pairwise.nil (fun k q => rfl)).1
theorem foldP_add {L : List It} {k : Nat} {x : It} (hx : L[k]? = some x) : foldP (L.take (k + 1)) = (ItP.put (foldP (L.take k)) x).1 := by
  unfold foldP
  rw [List.take_add_one, hx, Option.toList_some, List.foldl_append]
  rfl
theorem foldP_snoc (L : List It) (x : It) : foldP (L ++ [x]) = (ItP.put (foldP L) x).1 := by
  unfold foldP
  rw [List.foldl_append]
  rfl
theorem put_len (l : List It) (x : It) : (ItP.put l x).1.length ≤ l.length + 1 := by
  unfold ItP.put
  have h := ItP.at_le x l
  cases hd : l.drop (at_ x l) with
  | nil => simp; omega
  | cons y r =>
    have h2 := congrArg List.length hd
    simp only [List.length_drop, List.length_cons] at h2
    simp only
    split
    · simp; omega
    · simp
theorem foldP_len (L : List It) : (foldP L).length ≤ L.length := by
  have go : ∀ (r P : List It), (r.foldl (fun o x => (ItP.put o x).1) P).length ≤ P.length + r.length := by
    intro r
    induction r with
    | nil => intro P; simp
    | cons x r ih =>
      intro P
      rw [List.foldl_cons, List.length_cons]
      have h1 := ih (ItP.put P x).1
      have h2 := put_len P x
      omega
  have := go L []
  unfold foldP
  simpa using this
end SymP
end Go.Proofs.Ytemckkcbakccnaa
namespace Go.Proofs.Ytemckkcbakccnaa
open Go.RowKit
set_option linter.unusedVariables false
theorem flat_add {ll : List (List It)} {k : Nat} {l : List It} (hl : ll[k]? = some l) : (ll.take (k + 1)).flatten = (ll.take k).flatten ++ l := by
  rw [List.take_add_one, hl, List.flatten_append]
  simp
set_option maxRecDepth 100000 in
set_option maxHeartbeats 2000000 in
theorem ref_merge (A : Option Addr) (n c : Nat) (ll : List (List It)) (w : World) (hr : LRowI w w.heap.size A ll) (hn : ll.length = n) (hm : n ≤ 1000000) (hz : ll.flatten.length ≤ 100000) :
    Calls Try.prog 17 #[.slice A n c] w fun e w' => ∃ A' n' c', e = .returned (.slice A' n' c') ∧ Is w' w'.heap.size A' n' c' (SymP.foldP ll.flatten) ∧ Grew w w' := by
  have HR := Lib.hid hr
  have HE := Lib.hid (OwnI.empty w w.heap.size (Nat.le_refl _))
  clear hr
  have hmk : ∀ W : World, (Instr.makeSlice 23 (.int .i64 0) (.int .i64 0)).run Try.prog W = .ok (.slice (some ⟨W.heap.size, 0, none⟩) 0 0) (W.alloc (.cells #[] 29)) := fun _ => by kernel_rfl
  go_enter Try.func17, Try.ntmps17
  go_wp2_with fail
  go_loopw [3, 4] (fun o i wy => ∃ (k : Nat) (A2 : Option Addr) (n2 c2 : Nat), k ≤ n ∧ i = .int .i64 (k : Int) ∧ o = .slice A2 n2 c2 ∧ Is wy wy.heap.size A2 n2 c2 (SymP.foldP (ll.take k).flatten) ∧ Grew w wy) (fun _ i _ => n - (intOf i).toNat)
  case atStart => exact ⟨0, some ⟨w.heap.size, 0, none⟩, 0, 0, Nat.zero_le _, rfl, rfl, HE.out.is (Nat.le_refl _), (Below.refl _ _).alloc (Nat.le_refl _) _⟩
  case round =>
    obtain ⟨k, A2, n2, c2, hk, rfl, rfl, hI, hG⟩ := hrel
    have HI2 := Lib.hid hI
    have HG2 := Lib.hid hG
    clear hI hG
    have i0 : (0 : Int) ≤ (k : Int) := by omega
    by_cases hlt : k < n
    · obtain ⟨l, hl⟩ : ∃ l, ll[k]? = some l := ⟨_, List.getElem?_eq_getElem (by omega)⟩
      obtain ⟨ad, A', c', rfl, hab, hc, hIs⟩ := HR.out k l hl
      have HFA := Lib.hid (flat_add hl)
      have hlen : (ll.take k).flatten.length + l.length ≤ 100000 := by
        have := flat_take_le ll (k + 1)
        rw [HFA.out, List.length_append] at this
        omega
      have HL := Lib.hid hlen
      have hll : l.length ≤ 100000 := by omega
      have HIs := Lib.hid hIs
      have HC := Lib.hid (fun W (hW : Grew w W) => show W.cell? (ad.add k) = some (.slice A' l.length c') from (hW.cell (by rw [add_block]; exact hab)).trans hc)
      have i1 : (k : Int) < (n : Int) := by omega
      clear hl hIs hc hab hlen
      go_wp2_with fail
      go_loopw [3, 5] (fun o j wy => ∃ (m : Nat) (A3 : Option Addr) (n3 c3 : Nat), m ≤ l.length ∧ j = .int .i64 (m : Int) ∧ o = .slice A3 n3 c3 ∧ Is wy wy.heap.size A3 n3 c3 (SymP.foldP ((ll.take k).flatten ++ l.take m)) ∧ Grew w wy) (fun _ j _ => l.length - (intOf j).toNat)
      case atStart => exact ⟨0, A2, n2, c2, Nat.zero_le _, rfl, rfl, by rw [List.take_zero, List.append_nil]; exact HI2.out, HG2.out⟩
      case round =>
        obtain ⟨m, A3, n3, c3, hm3, rfl, rfl, hI, hG⟩ := hrel
        have HI3 := Lib.hid hI
        have HG3 := Lib.hid hG
        have hn3 : n3 ≤ 100000 := by
          have h1 := SymP.foldP_len ((ll.take k).flatten ++ l.take m)
          have h2 := hI.len
          have h3 := HL.out
          rw [List.length_append, List.length_take] at h1
          omega
        clear hI hG
        have i20 : (0 : Int) ≤ (m : Int) := by omega
        have hc := HC.out _ HG3.out
        by_cases hlt2 : m < l.length
        · obtain ⟨x, hx⟩ : ∃ y, l[m]? = some y := ⟨_, List.getElem?_eq_getElem hlt2⟩
          obtain ⟨g1, o1, rfl, hb1, hr1⟩ := HIs.out.at hx
          obtain ⟨q0, q1, q2, q3⟩ := range_cells (range_below hr1 HG3.out hb1)
          have HP : Hid (Calls Try.prog 33 #[.slice A3 n3 c3, .agg #[.string ⟨x.key.toArray⟩, .int .u64 (x.seq : Int), .bool x.gone, .string ⟨x.val.toArray⟩]] wr fun e w' => ∃ A' n' c' b, e = .returned (.tuple #[.slice A' n' c', .bool b]) ∧ Is w' w'.heap.size A' n' c' (SymP.foldP ((ll.take k).flatten ++ l.take (m + 1))) ∧ Grew wr w') := Lib.hid ((ref_put A3 n3 c3 _ x wr HI3.out (by omega)).mono fun e w' ⟨A', n', c', h1, h2, _, h4⟩ => ⟨A', n', c', _, h1, by rw [List.take_add_one, hx, Option.toList_some, ← List.append_assoc, SymP.foldP_snoc]; exact h2, h4⟩)
          have i25 : (m : Int) < (l.length : Int) := by omega
          clear hr1 hx hb1
          go_wp2_with (go_at_call 33; ((with_reducible refine HP.out.mono ?_); rintro e w5 ⟨A5, n5, c5, b5, rfl, hI, hG⟩; have HI5 := Lib.hid hI; have HG5 := Lib.hid hG; clear hI hG))
          go_roundw
          case rel => exact ⟨m + 1, A5, n5, c5, hlt2, by go_num, rfl, HI5.out, HG3.out.trans HG5.out⟩
          case measure => simp [intOf]; omega
        · obtain rfl : m = l.length := by omega
          have HI4 := Lib.hid (show Is wr wr.heap.size A3 n3 c3 (SymP.foldP (ll.take (k + 1)).flatten) by rw [HFA.out]; have := HI3.out; rwa [List.take_length] at this)
          have i25 : ¬ (l.length : Int) < (l.length : Int) := by omega
          go_wp2_with fail
          go_roundw
          case rel => exact ⟨k + 1, A3, n3, c3, hlt, by go_num, rfl, HI4.out, HG3.out⟩
          case measure => simp [intOf]; omega
    · obtain rfl : k = n := by omega
      have HI4 := Lib.hid (show Is wr wr.heap.size A2 n2 c2 (SymP.foldP ll.flatten) by have := HI2.out; rwa [List.take_of_length_le (by omega)] at this)
      have i1 : ¬ (k : Int) < (k : Int) := by omega
      go_wp2_with fail
      go_ret
      exact ⟨A2, n2, c2, rfl, HI4.out, HG2.out⟩
end Go.Proofs.Ytemckkcbakccnaa
