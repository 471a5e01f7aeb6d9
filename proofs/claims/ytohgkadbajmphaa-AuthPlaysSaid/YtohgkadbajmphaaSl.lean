/- Slices of bytes: a part of one, one of the call's own, a store into it. -/
import Derived.Test.YtohgkadbajmphaaClone
import Derived.Test.YtohgkadbajmphaaExt
namespace Go.Proofs.Ytohgkadbajmphaa
open Go.RowKit
set_option linter.unusedVariables false
theorem Own.pre {w : World} {base : Nat} {e : TypeId} {size n cap : Nat} {A : Option Addr} {xs : List Value} (h : Own w base e size A n cap xs) {m : Nat} (hm : m ≤ n) : Own w base e size A m cap (xs.take (m * size)) := by
  obtain ⟨h1, h2, h3, h4⟩ := h
  have hle : m * size ≤ n * size := Nat.mul_le_mul_right _ hm
  refine ⟨by rw [List.length_take]; omega, by omega, h3, ?_⟩
  rcases h4 with h | ⟨g, off, cur, fr, ha, hg, hh, hs, hf, hc⟩
  · exact .inl h
  · refine .inr ⟨g, off, cur, fr, ha, hg, hh, hs, hf, fun j u hu => hc j u ?_⟩
    rw [List.getElem?_take] at hu
    split at hu
    · exact hu
    · cases hu
theorem Sl.mid {w : World} {B : Nat} {ad : Addr} {n c : Nat} {l : List UInt8} (h : Sl w B (some ad) n c l) (lo hi : Nat) (h1 : lo ≤ hi) (h2 : hi ≤ n) : Sl w B (some (ad.add lo)) (hi - lo) (c - lo) ((l.drop lo).take (hi - lo)) := by
  obtain ⟨hl, hc, hm, hr⟩ := h
  refine ⟨by simp; omega, by omega, by omega, ?_⟩
  have := (hr.drop lo).take (hi - lo)
  rwa [← List.map_drop, ← List.map_take] at this
theorem Sl.zero {w : World} {B : Nat} {A : Option Addr} {c : Nat} (hc : c ≤ maxLen) : Sl w B A 0 c [] := ⟨rfl, Nat.zero_le _, hc, Row.nil⟩
theorem GivesB.sl' {w0 : World} {l : List UInt8} {e : Ending} {w' : World} (h : GivesB w0 l e w') : ∃ A n c, e = .returned (.slice A n c) ∧ Sl w' w'.heap.size A n c l ∧ Grew w0 w' := by
  obtain ⟨A, n, c, rfl, hO, hB⟩ := h
  exact ⟨A, n, c, rfl, ⟨hO.len, hO.le.1, hO.le.2, hO.row⟩, hB⟩
theorem OwnB.sl {w : World} {base : Nat} {A : Option Addr} {n c : Nat} {l : List UInt8} (h : OwnB w base A n c l) : Sl w w.heap.size A n c l := ⟨h.len, h.le.1, h.le.2, h.row⟩
theorem Sl.alloc {w : World} {B : Nat} {A : Option Addr} {n c : Nat} {l : List UInt8} (h : Sl w B A n c l) (hB : B ≤ w.heap.size) (o : Obj) : Sl (w.alloc o) B A n c l := ⟨h.1, h.2.1, h.2.2.1, h.2.2.2.alloc hB o⟩
theorem Sl.more {w : World} {B B' : Nat} {A : Option Addr} {n c : Nat} {l : List UInt8} (h : Sl w B A n c l) (hB : B ≤ B') : Sl w B' A n c l := ⟨h.1, h.2.1, h.2.2.1, h.2.2.2.more hB⟩
theorem Sl.drewN {w : World} {B : Nat} {A : Option Addr} {n c : Nat} {l : List UInt8} (h : Sl w B A n c l) (k : Nat) : Sl (w.drewN k) B A n c l := h
theorem OwnB.other {w w' : World} {base : Nat} {A : Option Addr} {n cap : Nat} {l : List UInt8} (h : OwnB w base A n cap l) {row : Option Nat} (hg : w.grownBy w' row) (hne : ∀ g, blk A = some g → row ≠ some g) : OwnB w' base A n cap l :=
  Own.keep h fun g e => hg.block g (Own.lt h g e).2 (fun e2 => hne g e e2.symm)
theorem OwnB.lt {w : World} {base : Nat} {A : Option Addr} {n cap : Nat} {l : List UInt8} (h : OwnB w base A n cap l) : ∀ g, blk A = some g → base ≤ g ∧ g < w.heap.size := Own.lt h
theorem u8_arg {a : Int} (h : (Lit.int .u8 a).wf = true) : ∃ y : UInt8, a = (y.toNat : Int) := by
  have h := wf_u8 h
  refine ⟨UInt8.ofNat a.toNat, ?_⟩
  rw [UInt8.toNat_ofNat']
  omega
/-- a store into a slice of one's own, wherever it begins -/
theorem OwnB.at_ {w : World} {base n cap : Nat} {ad : Addr} {l : List UInt8} (h : OwnB w base (some ad) n cap l) {j : Nat} (hj : j < l.length) (x : UInt8) :
    w.cell? (ad.add j) = some (b8 l[j]) ∧ w.frozen? (ad.add j) = false ∧ base ≤ (ad.add j).block ∧ (ad.add j).block < w.heap.size ∧ OwnB (w.setCell (ad.add j) (b8 x)) base (some ad) n cap (l.set j x) := by
  have hn := h.len
  have hle := h.le
  obtain ⟨g, off, cur, fr, ha, hb, hh, hs, hf, hc⟩ := h.2.2.2.resolve_left (fun h0 => by cases h0.1)
  injection ha with ha
  subst ha
  have hlt := lt_of_blk hh
  refine ⟨?_, ?_, ?_, ?_, ?_⟩
  · rw [add_off, cell_blk hh]
    exact hc j _ (by simp [hj])
  · rw [add_off]
    exact hf j (by omega)
  · rw [add_off]; exact hb
  · rw [add_off]; exact hlt
  · rw [add_off]
    have := Own.set h (j := j) (by omega) (b8 x)
    unfold OwnB
    rw [List.map_set]
    exact this
theorem Sl.pre {w : World} {B : Nat} {A : Option Addr} {n c k : Nat} {l : List UInt8} (h : Sl w B A n c l) (hk : k ≤ n) : Sl w B A k c (l.take k) := ⟨by rw [List.length_take, h.1]; omega, by have := h.2.1; omega, h.2.2.1, by rw [List.map_take]; exact h.2.2.2.take k⟩
end Go.Proofs.Ytohgkadbajmphaa
