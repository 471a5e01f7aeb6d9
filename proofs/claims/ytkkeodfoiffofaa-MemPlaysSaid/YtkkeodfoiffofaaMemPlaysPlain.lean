/- What MemPlays' loop keeps, plainly; the law's own height. -/
import Derived.Test.YtkkeodfoiffofaaMemTwo
namespace Go.Proofs.Ytkkeodfoiffofaa
open Go.RowKit
set_option linter.unusedVariables false
open MemP
theorem put_yes {l : List It} {x : It} (h : (ItP.put l x).2 = true) : (ItP.put l x).1 = l.take (ItP.at_ x l) ++ x :: l.drop (ItP.at_ x l) := by
  unfold ItP.put at *
  cases hd : l.drop (ItP.at_ x l) with
  | nil => simp
  | cons y r =>
    rw [hd] at h
    simp only at h ⊢
    by_cases e : ItP.ahead x y = true
    · rw [if_pos e]
    · rw [if_neg e] at h; cases h
theorem put_fresh {l : List It} {x : It} (hs : ItP.Srt l) (h : (ItP.put l x).2 = true) : ∀ y ∈ l, ¬ (y.key = x.key ∧ y.seq = x.seq) := by
  intro y hy hsm
  have ht := srt_take (x := x) hs
  rw [← List.take_append_drop (ItP.at_ x l) l, List.mem_append] at hy
  rcases hy with hy | hy
  · have := ht.1 y hy
    rw [ItP.not_ahead_of_same hsm] at this
    cases this
  · unfold ItP.put at h
    cases hd : l.drop (ItP.at_ x l) with
    | nil => rw [hd] at hy; cases hy
    | cons z r =>
      rw [hd] at h hy
      simp only at h
      have e : ItP.ahead x z = true := by
        by_cases e : ItP.ahead x z = true
        · exact e
        · rw [if_neg e] at h; cases h
      have hsd : List.Pairwise (fun a b => ItP.ahead a b = true) (z :: r) := by rw [← hd]; exact List.Pairwise.sublist (List.drop_sublist _ _) hs
      have hxy : ItP.ahead x y = true := by
        rcases List.mem_cons.1 hy with rfl | hy
        · exact e
        · exact ItP.ahead_trans e ((List.pairwise_cons.1 hsd).1 y hy)
      rw [ItP.not_ahead_of_same ⟨hsm.1.symm, hsm.2.symm⟩] at hxy
      cases hxy
theorem putR_bad {l : List (It × Nat)} {x : It} (h : ItP.may x = false) : putR l x = (1, l) := by unfold putR; rw [if_pos h]
theorem putR_old {l : List (It × Nat)} {x : It} (h : ItP.may x = true) (h2 : (ItP.put (l.map (·.1)) x).2 = false) : putR l x = (12, l) := by unfold putR; rw [if_neg (by rw [h]; decide), if_pos h2]
theorem putR_new {l : List (It × Nat)} {x : It} (h : ItP.may x = true) (h2 : (ItP.put (l.map (·.1)) x).2 = true) : putR l x = (0, l.take (ItP.at_ x (l.map (·.1))) ++ (x, hgt (l.length + 1)) :: l.drop (ItP.at_ x (l.map (·.1)))) := by unfold putR; rw [if_neg (by rw [h]; decide), if_neg (by rw [h2]; decide)]
/-- the keeper's list, and the items in the order in which they were put -/
structure Plays (la : List (It × Nat)) (O : List It) : Prop where
  len : O.length = la.length
  mem : ∀ y ∈ O, y ∈ la.map (·.1)
  hts : ∀ p ∈ la, ∀ (i : Nat) (y : It), O[i]? = some y → p.1.key = y.key → p.1.seq = y.seq → p.2 = hgt (i + 1)
  cost : costs (la.map (·.1)) ≤ la.length * 5000
theorem plays_nil : Plays [] [] := ⟨rfl, (fun y h => by cases h), (fun p h => by cases h), by simp [costs]⟩
theorem plays_put {la : List (It × Nat)} {O : List It} {x : It} (h : Plays la O) (hs : ItP.Srt (la.map (·.1))) (hm : ItP.may x = true) (hp : (ItP.put (la.map (·.1)) x).2 = true) :
    Plays (putR la x).2 (O ++ [x]) ∧ (putR la x).2.map (·.1) = (ItP.put (la.map (·.1)) x).1 ∧ (putR la x).2.length = la.length + 1 ∧ costs ((putR la x).2.map (·.1)) = costs (la.map (·.1)) + cost x := by
  have hf := put_fresh hs hp
  have hit : (putR la x).2.map (·.1) = (ItP.put (la.map (·.1)) x).1 := by
    rw [putR_new hm hp, put_yes hp]
    simp [List.map_take, List.map_drop]
  have hlen : (putR la x).2.length = la.length + 1 := by
    rw [putR_new hm hp]
    have := congrArg List.length (List.take_append_drop (ItP.at_ x (la.map (·.1))) la)
    simp only [List.length_append, List.length_cons] at this ⊢
    omega
  have hcost : costs ((putR la x).2.map (·.1)) = costs (la.map (·.1)) + cost x := by
    have e : costs (la.map (·.1)) = costs ((la.take (ItP.at_ x (la.map (·.1)))).map (·.1)) + costs ((la.drop (ItP.at_ x (la.map (·.1)))).map (·.1)) := by
      rw [← costs_append, ← List.map_append, List.take_append_drop]
    rw [putR_new hm hp]
    simp only [List.map_append, List.map_cons, costs_append, costs_cons]
    omega
  have hmem : ∀ p, p ∈ (putR la x).2 → p ∈ la ∨ p = (x, hgt (la.length + 1)) := fun p hp' => by
    rw [putR_new hm hp] at hp'
    simp only [List.mem_append, List.mem_cons] at hp'
    rcases hp' with a | a | a
    · exact .inl ((List.take_sublist _ _).mem a)
    · exact .inr a
    · exact .inl ((List.drop_sublist _ _).mem a)
  refine ⟨⟨by simp [hlen, h.len], fun y hy => ?_, fun p hpm i y hi hk hq => ?_, ?_⟩, hit, hlen, hcost⟩
  · rw [hit, put_yes hp]
    rcases List.mem_append.1 hy with hy | hy
    · have := h.mem y hy
      rw [← List.take_append_drop (ItP.at_ x (la.map (·.1))) (la.map (·.1)), List.mem_append] at this
      simp only [List.mem_append, List.mem_cons]
      rcases this with a | a
      · exact .inl a
      · exact .inr (.inr a)
    · simp at hy
      subst hy
      simp
  · rw [List.getElem?_append] at hi
    split at hi
    · rename_i hlt
      have hyO : y ∈ O := List.mem_of_getElem? hi
      rcases hmem p hpm with a | rfl
      · exact h.hts p a i y hi hk hq
      · exact absurd ⟨hk.symm, hq.symm⟩ (hf y (h.mem y hyO))
    · rename_i hge
      have hi0 : i - O.length = 0 := by
        have := (List.getElem?_eq_some_iff.1 hi).1
        simp at this
        omega
      rw [hi0] at hi
      simp at hi
      subst hi
      rcases hmem p hpm with a | rfl
      · exact absurd ⟨hk, hq⟩ (hf p.1 (List.mem_map.2 ⟨p, a, rfl⟩))
      · have := h.len
        show hgt (la.length + 1) = hgt (i + 1)
        rw [show i = la.length by omega]
  · have := may_cost hm
    have := h.cost
    rw [hcost, hlen]
    omega
set_option maxHeartbeats 400000 in
theorem law_height (n0 : Nat) (w : World) (hb : n0 ≤ 1000000) : Calls Try.prog 25 #[.int .i64 (n0 : Int)] w fun e w' => e = .returned (.int .i64 (hgt (n0 + 1) : Int)) ∧ w = w' := by
  obtain ⟨h0, hh0⟩ : ∃ h, h = n0 + 1 := ⟨_, rfl⟩
  rw [← hh0]
  have e0 : (n0 : Int) + 1 = (h0 : Int) := by omega
  have hb2 : h0 ≤ 9007199254740992 := by omega
  have HT := Lib.hid (show hgtF 12 1 h0 = hgt h0 from rfl)
  clear hh0
  go_enter Try.func25, Try.ntmps25
  go_wp2_with fail
  go_loop [3, 4] (fun u n => ∃ f k h : Nat, u = .int .i64 (h : Int) ∧ n = .int .i64 (k : Int) ∧ f + k = 13 ∧ 1 ≤ k ∧ k ≤ 12 ∧ h ≤ 9007199254740992 ∧ hgtF f k h = hgt h0) (fun _ n => 13 - (intOf n).toNat)
  case atStart => exact ⟨12, 1, h0, by first | rfl | rw [← e0], rfl, by omega, by omega, by omega, hb2, rfl⟩
  case round =>
    obtain ⟨f, k, h, rfl, rfl, hf, hk1, hk12, hhb, he⟩ := hrel
    have HE := Lib.hid he
    clear he
    by_cases hc : h % 4 = 0 ∧ k < 12
    · obtain ⟨f', rfl⟩ : ∃ f', f = f' + 1 := ⟨f - 1, by omega⟩
      have HE2 := Lib.hid (show hgtF f' (k + 1) (h / 4) = hgt h0 by rw [← HE.out]; conv => rhs; unfold hgtF; rw [if_pos hc])
      have q1 : ((h : Int) % 4 == 0) = true := by simp; omega
      have q2 : (k : Int) < 12 := by omega
      have q3 : (0 : Int) ≤ (h : Int) := by omega
      have q4 : (h : Int) ≤ 9007199254740992 := by omega
      clear hc
      go_wp2_with fail
      go_round
      case rel => exact ⟨f', k + 1, h / 4, by go_num, by go_num, by omega, by omega, by omega, by omega, HE2.out⟩
      case measure => simp [intOf]; omega
    · have HK := Lib.hid (show hgt h0 = k by
        rw [← HE.out]
        cases f with
        | zero => rfl
        | succ f => unfold hgtF; rw [if_neg hc])
      have q3 : (0 : Int) ≤ (h : Int) := by omega
      have q4 : (h : Int) ≤ 9007199254740992 := by omega
      by_cases h4 : h % 4 = 0
      · have q1 : ((h : Int) % 4 == 0) = true := by simp; omega
        have q2 : ¬ (k : Int) < 12 := by omega
        clear hc
        go_wp2_with fail
        go_ret
        exact ⟨by rw [HK.out]; rfl, rfl⟩
      · have q1 : ((h : Int) % 4 == 0) = false := by simp; omega
        clear hc
        go_wp2_with fail
        go_ret
        exact ⟨by rw [HK.out]; rfl, rfl⟩
end Go.Proofs.Ytkkeodfoiffofaa
