/- The methods of sha.Hash. -/
import Derived.Test.YtohgkadbajmphaaOnce2
namespace Go.Proofs.Ytohgkadbajmphaa
open Go.RowKit
set_option linter.unusedVariables false
/-- block g is a Hash that took l; d: it was asked; S: what it holds as its sum -/
structure HashV (w : World) (base g : Nat) (A : Option Addr) (n c : Nat) (l : List UInt8) (d : Bool) (S : List UInt8) : Prop where
  arr : ArrV w g (hc A n c (if d then 1 else 0) 0 d S)
  own : OwnB w base A n c l
  ne : ∀ ad, A = some ad → ad.block ≠ g
  len : S.length = 32
  sum : d = true → S = ShaP.digest l
section
variable {w w' : World} {base g : Nat} {A : Option Addr} {n c : Nat} {l : List UInt8} {d : Bool} {S : List UInt8}
theorem HashV.other (h : HashV w base g A n c l d S) {r : Option Nat} (hg : w.grownBy w' r) (h1 : r ≠ some g) (h2 : ∀ k, blk A = some k → r ≠ some k) : HashV w' base g A n c l d S :=
  ⟨h.arr.other hg h1, h.own.other hg h2, h.ne, h.len, h.sum⟩
theorem HashV.grew (h : HashV w base g A n c l d S) (hg : Grew w w') : HashV w' base g A n c l d S := h.other (grown_grew (grown_refl w none) hg) (by simp) (by simp)
end
theorem grown_fresh {a b c : World} {r : Option Nat} {k : Nat} (h : a.grownBy b r) (hk : a.heap.size ≤ k) (h2 : b.grownBy c (some k)) : a.grownBy c r :=
  ⟨h2.os.trans h.os, h2.tape.trans h.tape, h2.output.trans h.output, Nat.le_trans h.size h2.size, fun i hi hne => (h2.block i (Nat.lt_of_lt_of_le hi h.size) (fun e => by injection e with e; omega)).trans (h.block i hi hne)⟩
theorem blk_some {A : Option Addr} {k : Nat} (h : blk A = some k) : ∃ ad, A = some ad ∧ ad.block = k := by
  cases A with
  | none => simp [blk] at h
  | some ad => exact ⟨ad, rfl, by simpa [blk] using h⟩
theorem hc_range {w : World} {g : Nat} {A : Option Addr} {n c : Nat} {dn st : Int} {cl : Bool} {S : List UInt8} (h : ArrV w g (hc A n c dn st cl S)) : w.rangeAt g 5 (S.map b8) := fun j v hv => by
  refine h.atSome (i := 5 + j) ?_
  unfold hc
  rw [List.getElem?_append_right (by simp)]
  have : 5 + j - [Value.slice A n c, .int .u32 dn, .int .i32 st, .int .u32 0, .bool cl].length = j := by simp
  rw [this]
  exact hv
/-- all blocks but those of X stand -/
structure keptBut (w w' : World) (X : Nat → Prop) : Prop where
  os : w'.os = w.os
  tape : w'.tape = w.tape
  output : w'.output = w.output
  size : w.heap.size ≤ w'.heap.size
  block : ∀ k, k < w.heap.size → ¬ X k → w'.heap[k]? = w.heap[k]?
theorem keptBut.grown {w w' : World} {X : Nat → Prop} {r : Option Nat} (h : w.grownBy w' r) (hX : ∀ k, r = some k → X k) : keptBut w w' X :=
  ⟨h.os, h.tape, h.output, h.size, fun k hk hx => h.block k hk (fun e => hx (hX k e.symm))⟩
theorem keptBut.trans {a b c : World} {X : Nat → Prop} (h : keptBut a b X) (k : keptBut b c X) : keptBut a c X :=
  ⟨k.os.trans h.os, k.tape.trans h.tape, k.output.trans h.output, Nat.le_trans h.size k.size, fun i hi hx => (k.block i (Nat.lt_of_lt_of_le hi h.size) hx).trans (h.block i hi hx)⟩
theorem keptBut.mono {w w' : World} {X Y : Nat → Prop} (h : keptBut w w' X) (hXY : ∀ k, k < w.heap.size → X k → Y k) : keptBut w w' Y :=
  ⟨h.os, h.tape, h.output, h.size, fun k hk hy => h.block k hk (fun hx => hy (hXY k hk hx))⟩
theorem keptBut.refl (w : World) (X : Nat → Prop) : keptBut w w X := ⟨rfl, rfl, rfl, Nat.le_refl _, fun _ _ _ => rfl⟩
theorem keptBut.below {w w' : World} {X : Nat → Prop} {base : Nat} (h : keptBut w w' X) (hb : base ≤ w.heap.size) (hX : ∀ k, X k → base ≤ k) : Below base w w' :=
  ⟨h.os, h.tape, h.output, h.size, fun k hk => h.block k (by omega) (fun hx => by have := hX k hx; omega)⟩
set_option maxRecDepth 100000 in
set_option maxHeartbeats 400000 in
theorem hash_new (w : World) : Calls Try.prog 16 #[] w fun e w' => e = .returned (.pointer (some ⟨w.heap.size, 0, none⟩)) ∧ HashV w' w.heap.size w.heap.size none 0 0 [] false (List.replicate 32 0) ∧ Below w.heap.size w w' := by
  have h1 : ArrV (w.alloc (.cells (hc none 0 0 0 0 false (List.replicate 32 0)).toArray 84)) w.heap.size (hc none 0 0 0 0 false (List.replicate 32 0)) := ArrV.made w _ _
  have h2 : HashV (w.alloc (.cells (hc none 0 0 0 0 false (List.replicate 32 0)).toArray 84)) w.heap.size w.heap.size none 0 0 [] false (List.replicate 32 0) := ⟨h1, Own.nil _ _ _ _, (by simp), rfl, (by simp)⟩
  have H := Lib.hid h2
  clear h1 h2
  go_enter Try.func16, Try.ntmps16
  go_wp2
  go_ret
  exact ⟨rfl, H.out, (Below.refl _ _).alloc (Nat.le_refl _) _⟩
theorem hash_len (base g : Nat) (A : Option Addr) (n c : Nat) (l : List UInt8) (d : Bool) (S : List UInt8) (w : World) (h : HashV w base g A n c l d S) :
    Calls Try.prog 20 #[.pointer (some ⟨g, 0, none⟩)] w fun e w' => e = .returned (.int .i64 (n : Int)) ∧ w = w' := by
  have k1 := h.arr.atSome (i := 0) (x := .slice A n c) rfl
  clear h
  go_enter Try.func20, Try.ntmps20
  go_wp2
  go_ret
  exact ⟨rfl, rfl⟩
set_option maxRecDepth 100000 in
set_option maxHeartbeats 1000000 in
theorem hash_sum (base g : Nat) (A : Option Addr) (n c : Nat) (l : List UInt8) (d : Bool) (S : List UInt8) (w : World) (h : HashV w base g A n c l d S) (hm : n ≤ 70368744177664) :
    Calls Try.prog 17 #[.pointer (some ⟨g, 0, none⟩)] w fun e w' => e = .returned (.agg ((ShaP.digest l).map b8).toArray) ∧ HashV w' base g A n c l true (ShaP.digest l) ∧ w.grownBy w' (some g) := by
  have hglt := h.arr.lt
  obtain ⟨D, hD⟩ : ∃ D : List UInt8, D = ShaP.digest l := ⟨_, rfl⟩
  have hDl : D.length = 32 := by rw [hD]; exact ShaP.digest_len l
  obtain ⟨w1, hw1⟩ : ∃ w1, w1 = w.alloc (.cells #[.pointer (some ⟨g, 0, none⟩)] 27) := ⟨_, rfl⟩
  obtain ⟨w2, hw2⟩ : ∃ w2, w2 = w1.alloc (.cells dzeros 23) := ⟨_, rfl⟩
  have hz1 : w1.heap.size = w.heap.size + 1 := by rw [hw1]; simp
  have hg1 : Grew w w1 := by rw [hw1]; exact (Below.refl _ _).alloc (Nat.le_refl _) _
  have hg12 : Grew w1 w2 := by rw [hw2]; exact (Below.refl _ _).alloc (Nat.le_refl _) _
  have hg2 := hg1.trans hg12
  have hp1 : w1.cell? ⟨w.heap.size, 0, none⟩ = some (.pointer (some ⟨g, 0, none⟩)) := by rw [hw1]; simp
  have hp2 : w2.cell? ⟨w.heap.size, 0, none⟩ = some (.pointer (some ⟨g, 0, none⟩)) := (Below.cell hg12 (p := ⟨w.heap.size, 0, none⟩) (by show w.heap.size < _; omega)).trans hp1
  have hR2 : ArrV w2 (w.heap.size + 1) ((List.replicate 32 (0 : UInt8)).map b8) := by rw [hw2, ← hz1]; exact dz_made w1
  have h2 := h.grew hg2
  have hz2 : w2.heap.size = w.heap.size + 2 := by rw [hw2]; simp [hz1]
  have hmf : ∀ (fn : Fn) (first cap : Array Value) (w : World), (Instr.makeFunc fn first cap).run Try.prog w = .ok (.func fn first cap) w := fun _ _ _ _ => rfl
  have hdo : Calls Try.prog 40 #[.pointer (some ⟨g, 1, none⟩), .func (.func 41) #[] #[.pointer (some ⟨w.heap.size, 0, none⟩)]] w2 fun e w' => e = .returned (.tuple #[]) ∧ w2.grownBy w' (some g) ∧ ArrV w' g (hc A n c 1 0 true D) := by
    cases hd : d with
    | false =>
      rw [hd] at h2
      have := once_first g w.heap.size A n c l S w2 (by omega) h2.len hp2 h2.arr h2.own.sl h2.ne hm
      rw [← hD] at this
      exact this
    | true =>
      rw [hd] at h2
      have e1 := h2.sum rfl
      have h3 := h2.arr
      rw [e1, ← hD] at h3
      exact (once_done g A n c D _ w2 h3).mono fun e w' k => ⟨k.1, by rw [k.2]; exact grown_refl w2 _, by rw [k.2]; exact h3⟩
  have HDO := Lib.hid hdo
  have HW1 := Lib.hid hw1
  have HW2 := Lib.hid hw2
  have HZ1 := Lib.hid hz1
  have HZ2 := Lib.hid hz2
  have HD := Lib.hid hD
  have HDl := Lib.hid hDl
  have H := Lib.hid h
  clear hw1 hw2 hz1 hz2 hdo h h2 hD hDl hp1 hg1 hg12
  go_enter Try.func17, Try.ntmps17
  go_upto_region 1 with (first
    | (refine wpList_value (o := ⟨some 1, _, _, _, _, _⟩) (v := .pointer (some ⟨w.heap.size, 0, none⟩)) (w' := w.alloc (.cells #[.pointer (some ⟨g, 0, none⟩)] 27)) rfl (by kernel_rfl) ?_; rw [← HW1.out])
    | (refine wpList_value (o := ⟨some 2, _, _, _, _, _⟩) (v := .pointer (some ⟨w1.heap.size, 0, none⟩)) (w' := w1.alloc (.cells dzeros 23)) rfl (by kernel_rfl) ?_; rw [← HW2.out]))
  have hz := HZ1.out
  rw [hz]
  clear hz
  go_wp2_with fail
  refine HDO.out.mono ?_
  rintro e w3 ⟨rfl, hg3, hA3⟩
  have hzz := HZ2.out
  have hp3 : w3.cell? ⟨w.heap.size, 0, none⟩ = some (.pointer (some ⟨g, 0, none⟩)) := (World.cell?_of_block (hg3.block w.heap.size (by omega) (fun e => by injection e; omega))).trans hp2
  have hR3 := hR2.other hg3 (by intro e; injection e; omega)
  obtain ⟨C, hC⟩ : ∃ C, C = D.map b8 := ⟨_, rfl⟩
  have HRG := Lib.hid (show w3.rangeAt g 5 C by rw [hC]; exact hc_range hA3)
  have HIN := Lib.hid (show (Try.prog.info? 23).map (·.size) = some C.length by rw [hC, List.length_map, HDl.out]; kernel_rfl)
  have HS := Lib.hid (stored32 (W := w3) HDl.out hC hR3 zeros32_len)
  have hgw3 : w.grownBy w3 (some g) := grown_step (grown_grew (grown_refl w _) hg2) hg3
  have hgF : w.grownBy (w3.setCells (w.heap.size + 1) 0 C) (some g) := grown_fresh hgw3 (by omega) (grown_setCells (w.heap.size + 1) C 0 w3)
  have hAF : ArrV (w3.setCells (w.heap.size + 1) 0 C) g (hc A n c 1 0 true D) := hA3.other (grown_setCells (w.heap.size + 1) C 0 w3) (by intro e; injection e; omega)
  have hOF : OwnB (w3.setCells (w.heap.size + 1) 0 C) base A n c l := H.out.own.other hgF (fun k e e2 => by injection e2 with e2; obtain ⟨ad, ha, hb⟩ := blk_some e; exact H.out.ne ad ha (by omega))
  have HF : Hid (HashV (w3.setCells (w.heap.size + 1) 0 C) base g A n c l true D ∧ w.grownBy (w3.setCells (w.heap.size + 1) 0 C) (some g)) := Lib.hid ⟨⟨hAF, hOF, H.out.ne, HDl.out, fun _ => HD.out⟩, hgF⟩
  have HC := Lib.hid hC
  clear hC hA3 hR3 hgw3 hgF hAF hOF hg3 hg2 hp2 hR2 hzz
  go_wp2_with (first
    | (refine wpList_load_mid rfl 23 (.tmp 10) rfl g 5 rfl C _ HRG.out Try.underlying23 rfl HIN.out ?_)
    | (refine wpList_store_mid rfl 23 (.tmp 2) (.tmp 11) rfl (w.heap.size + 1) 0 C.toArray rfl rfl HS.out.1 HS.out.2.1 HS.out.2.2.1 ?_))
  have hres := load32 HS.out.2.2.2.1 HS.out.2.2.2.2
  refine bodyPost_ret (v := .agg C.toArray) (by simp [results, Try.results17, Act.put, asAddr, hres]) rfl ⟨by rw [HC.out, HD.out], ?_⟩
  have := HF.out
  rw [HD.out] at this
  simpa using this
theorem hash_write_closed (base g : Nat) (A : Option Addr) (n c : Nat) (l : List UInt8) (S : List UInt8) (w : World) (v : Value) (h : HashV w base g A n c l true S) :
    Calls Try.prog 18 #[.pointer (some ⟨g, 0, none⟩), v] w fun e w' => e = .returned (.int .i64 0) ∧ w = w' := by
  have k1 := h.arr.atSome (i := 4) (x := .bool true) rfl
  clear h
  go_enter Try.func18, Try.ntmps18
  go_wp2
  go_ret
  exact ⟨rfl, rfl⟩
/-- what a writing leaves -/
def Wrote (w : World) (base g : Nat) (A : Option Addr) (n : Nat) (l : List UInt8) (S : List UInt8) (n2 : Nat) (b : List UInt8) (e : Ending) (w' : World) : Prop :=
  ∃ A' c', e = .returned (.int .i64 (n2 : Int)) ∧ HashV w' base g A' (n + n2) c' (l ++ b) false S ∧ keptBut w w' (fun k => k = g ∨ blk A = some k) ∧ (blk A' = blk A ∨ ∃ k, blk A' = some k ∧ w.heap.size ≤ k)
set_option maxHeartbeats 400000 in
theorem hash_write (base g : Nat) (A : Option Addr) (n c : Nat) (l : List UInt8) (S : List UInt8) (A2 : Option Addr) (n2 c2 B : Nat) (b : List UInt8) (w : World) (h : HashV w base g A n c l false S) (h2 : Sl w B A2 n2 c2 b) (hB : B ≤ w.heap.size) (hbase : base ≤ w.heap.size) (hm : n + n2 ≤ 140737488355328) :
    Calls Try.prog 18 #[.pointer (some ⟨g, 0, none⟩), .slice A2 n2 c2] w (Wrote w base g A n l S n2 b) := by
  obtain ⟨hn2, hnc2, hcm2, hr2⟩ := id h2
  subst hn2
  have k1 := h.arr.atSome (i := 4) (x := .bool false) rfl
  have k2 := h.arr.atSome (i := 0) (x := .slice A n c) rfl
  have hglt := h.arr.lt
  have H := Lib.hid h
  have HO := Lib.hid h.own
  unfold maxLen at hcm2
  clear h
  go_enter Try.func18, Try.ntmps18
  go_wp2_with (at_builtin; refine wpList_app8 rfl (.tmp 13) (.tmp 14) 31 rfl (.inl ⟨_, Try.underlying31⟩) base _ _ _ _ rfl HO.out b.length b (Src.slice (by simp) hr2) (.inl (by omega)) hbase ?_; intro A7 c7 w7 hO7 hg7 hB7 hb7; have hA7 := H.out.arr.other hg7 (fun e => by obtain ⟨ad, ha, hb⟩ := blk_some e; exact H.out.ne ad ha hb); have q1 := hA7.atSome (i := 0) (x := .slice A n c) rfl; have q2 := hA7.frozen 0)
  go_ret
  have hne : ∀ ad, A7 = some ad → ad.block ≠ g := fun ad e => by
    rcases hb7 with hb | hb
    · rw [e] at hb
      obtain ⟨ad', ha, hbb⟩ := blk_some (k := ad.block) hb.symm
      rw [← hbb]
      exact H.out.ne ad' ha
    · rw [e] at hb
      simp [blk] at hb
      omega
  refine ⟨A7, c7, rfl, ⟨hA7.set 0 _, hO7.other (grown_cell w7 ⟨g, 0, none⟩ _) (fun k e e2 => by injection e2 with e2; obtain ⟨ad, ha, hb⟩ := blk_some e; exact hne ad ha (hb.trans e2.symm)), hne, H.out.len, by simp⟩, (keptBut.grown hg7 (fun k e => .inr e)).trans (keptBut.grown (grown_cell w7 ⟨g, 0, none⟩ _) (fun k e => by injection e with e; exact .inl e.symm)), ?_⟩
  rcases hb7 with hb | hb
  · exact .inl hb
  · exact .inr ⟨_, hb, Nat.le_refl _⟩
end Go.Proofs.Ytohgkadbajmphaa
