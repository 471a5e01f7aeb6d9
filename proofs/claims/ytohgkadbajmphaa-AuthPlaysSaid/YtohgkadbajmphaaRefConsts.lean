/- The walk of the reference's Consts. -/
import Derived.Test.YtohgkadbajmphaaRefPrimes
namespace Go.Proofs.Ytohgkadbajmphaa
open Go.RowKit
set_option linter.unusedVariables false
theorem Own.cellAt {w : World} {base : Nat} {e : TypeId} {g off n cap : Nat} {xs : List Value} (h : Own w base e 1 (some ⟨g, off, none⟩) n cap xs) {j : Nat} {u : Value} (hx : xs[j]? = some u) : w.cell? ⟨g, off + j, none⟩ = some u := by
  rcases h.2.2.2 with ⟨h, _⟩ | ⟨g', off', cur, fr, ha, _, hh, _, _, hc⟩
  · cases h
  · simp only [Option.some.injEq, Addr.mk.injEq] at ha
    obtain ⟨rfl, rfl, _⟩ := ha
    rw [cell_blk hh]
    exact hc j u hx
theorem Own.isSome {w : World} {base : Nat} {e : TypeId} {A : Option Addr} {n cap : Nat} {xs : List Value} (h : Own w base e 1 A n cap xs) (hn : 0 < n) : ∃ g off, A = some ⟨g, off, none⟩ := by
  rcases h.2.2.2 with ⟨_, h0⟩ | ⟨g, off, _, _, ha, _⟩
  · have := h.2.1; omega
  · exact ⟨g, off, ha⟩
theorem Own.apart {w w' : World} {base : Nat} {e : TypeId} {A B : Option Addr} {n cap : Nat} {xs : List Value} (h : Own w base e 1 B n cap xs) (hg : w.grownBy w' (blk A)) (hne : ∀ g, blk A = some g → blk B ≠ some g) : Own w' base e 1 B n cap xs :=
  h.keep fun g hgB => hg.block g (h.lt g hgB).2 fun e2 => hne g e2.symm hgB
theorem bv32_nat (n : Nat) (h : n < 4294967296) : bv32 (BitVec.ofNat 32 n) = (n : Int) := by
  unfold bv32
  rw [BitVec.toNat_ofNat, Nat.mod_eq_of_lt h]
theorem root_lt (p : Nat) (cube : Bool) : RefP.root p cube < 4294967296 := by
  unfold RefP.root
  exact Nat.mod_lt _ (by decide)
theorem words_at (K l : List (BitVec 32)) (i n : Nat) (h : K[i]? = some (BitVec.ofNat 32 n)) (hn : n < 4294967296) : u32s (K.take (i + 1)) = u32s (K.take i) ++ [.int .u32 (n : Int)] := by
  unfold u32s
  rw [List.take_add_one, h, List.map_append, ← bv32_nat n hn]
  rfl
theorem consts_k_at {i p : Nat} (h : RefP.primes[i]? = some p) : u32s (ShaP.K.take (i + 1)) = u32s (ShaP.K.take i) ++ [.int .u32 (RefP.root p true : Int)] :=
  words_at _ [] i _ (by rw [← RefP.consts_k, List.getElem?_map, h, Option.map_some]) (root_lt p true)
theorem consts_h_at {i p : Nat} (hi : i < 8) (h : RefP.primes[i]? = some p) : u32s (ShaP.H0.take (i + 1)) = u32s (ShaP.H0.take i) ++ [.int .u32 (RefP.root p false : Int)] :=
  words_at _ [] i _ (by rw [← RefP.consts_h, List.getElem?_map, List.getElem?_take_of_lt hi, h, Option.map_some]) (root_lt p false)
set_option maxRecDepth 4000 in
set_option maxHeartbeats 1000000 in
theorem ref_consts (w : World) : Calls Try.prog 46 #[] w fun e w' => ∃ A c B d, e = .returned (.tuple #[.slice A 8 c, .slice B 64 d]) ∧ Own w' w.heap.size 74 1 A 8 c (u32s ShaP.H0) ∧ Own w' w.heap.size 74 1 B 64 d (u32s ShaP.K) ∧ Below w.heap.size w w' := by
  have HPr := Lib.hid (ref_primes w)
  go_enter Try.func46, Try.ntmps46
  go_wp2_with (first
    | (go_at_call 61; refine HPr.out.mono ?_; rintro e w1 ⟨P, capP, rfl, hP, hB1⟩; obtain ⟨g, off, he⟩ := hP.isSome (by omega); subst he)
    | (refine wpList_make0 (dst := some 7) 74 (.int .u32 0) 4 Try.underlying94 info_u32 w1.heap.size rfl (Nat.le_refl _) ?_; intro w2 hA2 hB2 hs2)
    | (refine wpList_make0 (dst := some 8) 74 (.int .u32 0) 4 Try.underlying94 info_u32 w1.heap.size rfl (by omega) ?_; intro w3 hA3 hB3 hs3))
  have HP := Lib.hid hP
  have HB1 := Lib.hid hB1
  clear hP hB1
  go_loopw [3, 4, 5] (fun s t x wr => ∃ i A c B d, x = .int .i64 ((i : Nat) : Int) ∧ i ≤ 64 ∧ s = .slice A (min i 8) c ∧ t = .slice B i d ∧ Own wr w1.heap.size 74 1 A (min i 8) c (u32s (ShaP.H0.take i)) ∧ Own wr w1.heap.size 74 1 B i d (u32s (ShaP.K.take i)) ∧ (∀ g, blk A = some g → blk B ≠ some g) ∧ Below w1.heap.size w1 wr) (fun _ _ x _ => 64 - (intOf x).toNat)
  case atStart => exact ⟨0, _, 0, _, 0, rfl, by omega, rfl, rfl, hA2.below_all hB3, hA3, fun g h1 h2 => by simp [blk] at h1 h2; omega, hB2.trans (hB3.mono (by omega))⟩
  case round =>
    obtain ⟨i, A, c, B, d, rfl, hi, rfl, rfl, hA, hB, hne, hBr⟩ := hrel
    have hs := hBr.size
    by_cases hlt : i < 64
    · obtain ⟨p, hp⟩ : ∃ p, RefP.primes[i]? = some p := ⟨_, List.getElem?_eq_getElem (by rw [RefP.primes_len]; exact hlt)⟩
      have hp4 : p < 400 := (RefP.primes_small p (List.mem_of_getElem? hp)).2
      have HK := Lib.hid (consts_k_at hp)
      have HRf := Lib.hid (fun W => ref_root p false hp4 W)
      have HRt := Lib.hid (fun W => ref_root p true hp4 W)
      have HF : Hid (∀ W, Below w1.heap.size w1 W → W.cell? ⟨g, off + i, none⟩ = some (.int .i64 (p : Int))) := Lib.hid fun W h => (HP.out.below_all h).cellAt (by unfold ints; rw [List.getElem?_map, hp]; rfl)
      have hc := HF.out wr hBr
      have j0 : (0 : Int) ≤ (i : Int) := by omega
      have j1 : (i : Int) < 64 := by omega
      by_cases h8 : i < 8
      · have HH := Lib.hid (consts_h_at h8 hp)
        have e8 : min i 8 = i := by omega
        have j2 : (i : Int) < 8 := by omega
        rw [e8] at hA ⊢
        clear hp
        go_upto_region 9 with (first
          | (go_at_call 62; refine (HRf.out _).mono ?_; rintro e w4 ⟨rfl, hg4⟩; have hBr4 := hBr.trans (hg4.mono hs); have hA4 := hA.below_all hg4; have hB4 := hB.below_all hg4; have hs4 := hBr4.size; clear hg4 hc)
          | (at_builtin; refine wpList_app1 rfl (.tmp 15) (.tmp 21) 94 74 (.int .u32 0) (.int .u32 (RefP.root p false : Int)) 4 rfl Try.underlying94 info_u32 rfl (by omega) rfl w1.heap.size _ _ _ _ rfl (hA4.alloc _) _ 1 rfl (Row.new _ _ _ _ _ _ rfl (by simp) _ rfl) (by omega) (by simp; omega) ?_; intro A5 c5 w5 hA5 hg5 hB5 hb5; have hBr5 := (hBr4.alloc hs4 _).trans hB5; have hB55 := (hB4.alloc _).apart hg5 hne; have hc5 := HF.out w5 hBr5; have hne5 : ∀ g, blk A5 = some g → blk B ≠ some g := (fun g h1 h2 => by have hlB := (hB4.lt g h2).2; rcases hb5 with h | h <;> rw [h] at h1; exact hne g h1 h2; simp at h1; omega); have hs5 := hBr5.size))
        go_wp2_with (first
          | (go_at_call 62; refine (HRt.out _).mono ?_; rintro e w6 ⟨rfl, hg6⟩; have hBr6 := hBr5.trans (hg6.mono hs5); have hA6 := hA5.below_all hg6; have hB6 := hB55.below_all hg6; have hs6 := hBr6.size; clear hg6 hc5)
          | (at_builtin; refine wpList_app1 rfl (.tmp 23) (.tmp 29) 94 74 (.int .u32 0) (.int .u32 (RefP.root p true : Int)) 4 rfl Try.underlying94 info_u32 rfl (by omega) rfl w1.heap.size _ _ _ _ rfl (hB6.alloc _) _ 1 rfl (Row.new _ _ _ _ _ _ rfl (by simp) _ rfl) (by omega) (by simp; omega) ?_; intro B7 d7 w7 hB7 hg7 hBB7 hb7; have hBr7 := (hBr6.alloc hs6 _).trans hBB7; have hA7 := (hA6.alloc _).apart hg7 (fun g h1 h2 => hne5 g h2 h1); have hne7 : ∀ g, blk A5 = some g → blk B7 ≠ some g := (fun g h1 h2 => by have hlA := (hA6.lt g h1).2; rcases hb7 with h | h <;> rw [h] at h2; exact hne5 g h1 h2; simp at h2; omega)))
        go_roundw
        case rel => exact ⟨i + 1, A5, c5, B7, d7, by go_num, by omega, by rw [show min (i + 1) 8 = i + 1 by omega], rfl, by rw [show min (i + 1) 8 = i + 1 by omega, HH.out]; exact hA7, by rw [HK.out]; exact hB7, hne7, hBr7⟩
        case measure => simp [intOf]; omega
      · have e8 : min i 8 = 8 := by omega
        have j2 : ¬ (i : Int) < 8 := by omega
        have HT := Lib.hid (show ShaP.H0.take (i + 1) = ShaP.H0.take i by rw [List.take_of_length_le (by show 8 ≤ i + 1; omega), List.take_of_length_le (by show 8 ≤ i; omega)])
        rw [e8] at hA ⊢
        clear hp
        go_wp2_with (first
          | (go_at_call 62; refine (HRt.out _).mono ?_; rintro e w6 ⟨rfl, hg6⟩; have hBr6 := hBr.trans (hg6.mono hs); have hA6 := hA.below_all hg6; have hB6 := hB.below_all hg6; have hs6 := hBr6.size; clear hg6 hc)
          | (at_builtin; refine wpList_app1 rfl (.tmp 23) (.tmp 29) 94 74 (.int .u32 0) (.int .u32 (RefP.root p true : Int)) 4 rfl Try.underlying94 info_u32 rfl (by omega) rfl w1.heap.size _ _ _ _ rfl (hB6.alloc _) _ 1 rfl (Row.new _ _ _ _ _ _ rfl (by simp) _ rfl) (by omega) (by simp; omega) ?_; intro B7 d7 w7 hB7 hg7 hBB7 hb7; have hBr7 := (hBr6.alloc hs6 _).trans hBB7; have hA7 := (hA6.alloc _).apart hg7 (fun g h1 h2 => hne g h2 h1); have hne7 : ∀ g, blk A = some g → blk B7 ≠ some g := (fun g h1 h2 => by have hlA := (hA6.lt g h1).2; rcases hb7 with h | h <;> rw [h] at h2; exact hne g h1 h2; simp at h2; omega)))
        go_roundw
        case rel => exact ⟨i + 1, A, c, B7, d7, by go_num, by omega, by rw [show min (i + 1) 8 = 8 by omega], rfl, by rw [show min (i + 1) 8 = 8 by omega, HT.out]; exact hA7, by rw [HK.out]; exact hB7, hne7, hBr7⟩
        case measure => simp [intOf]; omega
    · obtain rfl : i = 64 := by omega
      go_wp2_with fail
      go_ret2
      exact ⟨A, c, B, d, rfl, hA.lower HB1.out.size, hB.lower HB1.out.size, HB1.out.trans (hBr.mono HB1.out.size)⟩
end Go.Proofs.Ytohgkadbajmphaa
