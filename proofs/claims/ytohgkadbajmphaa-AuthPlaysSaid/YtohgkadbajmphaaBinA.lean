
import Derived.Test.YtohgkadbajmphaaClone
import Derived.Deep.QuietTactic
import Derived.BigQuiet
/- Plain law of canonical numbers in base 128: how they are laid and read, over lists of bytes. No program in sight. -/
namespace Go.Proofs.Ytohgkadbajmphaa.BinP
/-- a number's bytes, at most f of them -/
def encF : Nat → Nat → List UInt8
  | 0, _ => []
  | f + 1, v => if v < 128 then [UInt8.ofNat v] else UInt8.ofNat (v % 128 + 128) :: encF f (v / 128)
def enc (v : Nat) : List UInt8 := encF 10 v
def text (s : List UInt8) : List UInt8 := enc s.length ++ s
/-- the number that bytes begin with, and how many bytes it has; from the i-th byte on -/
def numF : Nat → Nat → List UInt8 → Option (Nat × Nat)
  | _, _, [] => none
  | i, acc, x :: r =>
    if 10 ≤ i then none
    else if 128 ≤ x.toNat then numF (i + 1) (acc + (x.toNat % 128) * 2 ^ (7 * i)) r
    else if (x.toNat = 0 ∧ 0 < i) ∨ (i = 9 ∧ 1 < x.toNat) then none
    else some (acc + (x.toNat % 128) * 2 ^ (7 * i), i + 1)
def num (l : List UInt8) : Option (Nat × Nat) := numF 0 0 l

theorem encF_len : ∀ f v, (encF f v).length ≤ f
  | 0, _ => by simp [encF]
  | f + 1, v => by
    unfold encF
    split
    · simp
    · have := encF_len f (v / 128); simp; omega
theorem enc_len (v : Nat) : (enc v).length ≤ 10 := encF_len 10 v
theorem encF_pos (f v : Nat) : 0 < (encF (f + 1) v).length := by
  unfold encF; split <;> simp
/-- reading gives back what was laid -/
theorem num_encF : ∀ (f i acc v : Nat) (r : List UInt8), f + i = 10 → v < 2 ^ (64 - 7 * i) → 0 < f → (0 < i → 0 < v) →
    numF i acc (encF f v ++ r) = some (acc + v * 2 ^ (7 * i), i + (encF f v).length)
  | f + 1, i, acc, v, r, hf, hv, _, hz => by
    unfold encF
    by_cases h : v < 128
    · rw [if_pos h]
      simp only [List.cons_append, List.nil_append, numF, List.length_cons, List.length_nil]
      have hx : (UInt8.ofNat v).toNat = v := by rw [UInt8.toNat_ofNat']; omega
      rw [hx, if_neg (by omega), if_neg (by omega), if_neg, Nat.mod_eq_of_lt h]
      rintro (⟨h0, h1⟩ | ⟨h0, h1⟩)
      · have := hz h1; omega
      · subst h0; simp at hv; omega
    · rw [if_neg h]
      have hx : (UInt8.ofNat (v % 128 + 128)).toNat = v % 128 + 128 := by rw [UInt8.toNat_ofNat']; omega
      have hi : i < 9 := by
        rcases Nat.lt_or_ge i 9 with h9 | h9
        · exact h9
        · have : i = 9 := by omega
          subst this
          simp at hv
          omega
      simp only [List.cons_append, numF, List.length_cons]
      rw [hx, if_neg (by omega), if_pos (by omega)]
      have hp : 2 ^ (64 - 7 * i) = 128 * 2 ^ (64 - 7 * (i + 1)) := by
        rw [show 64 - 7 * i = 7 + (64 - 7 * (i + 1)) from by omega, Nat.pow_add]
      rw [num_encF f (i + 1) _ (v / 128) r (by omega) (by rw [hp] at hv; omega) (by omega) (by intro _; omega)]
      have e1 : (v % 128 + 128) % 128 = v % 128 := by omega
      rw [e1]
      have e2 : 2 ^ (7 * (i + 1)) = 128 * 2 ^ (7 * i) := by rw [Nat.mul_add, Nat.pow_add, Nat.mul_comm]
      rw [e2]
      congr 2
      · have := Nat.div_add_mod v 128
        generalize 2 ^ (7 * i) = q at *
        rw [Nat.add_assoc, ← Nat.mul_assoc, ← Nat.add_mul]
        congr 2
        omega
      · omega
theorem num_enc (v : Nat) (r : List UInt8) (h : v < 18446744073709551616) : num (enc v ++ r) = some (v, (enc v).length) := by
  have := num_encF 10 0 0 v r (by omega) (by simpa using h) (by omega) (by omega)
  simpa [num, enc] using this
theorem encF_split (f v : Nat) (h : 128 ≤ v) : encF (f + 1) v = UInt8.ofNat (v % 128 + 128) :: encF f (v / 128) := by
  rw [encF, if_neg (by omega)]
theorem encF_last (f v : Nat) (h : v < 128) : encF (f + 1) v = [UInt8.ofNat v] := by
  rw [encF, if_pos h]
/-- a number that is read stays below 2^64, and its bytes are there -/
theorem numF_bound : ∀ (l : List UInt8) (i acc v n : Nat), numF i acc l = some (v, n) → acc < 2 ^ (7 * i) → i < n ∧ n ≤ i + l.length ∧ n ≤ 10 ∧ v < 18446744073709551616
  | [], _, _, _, _, h, _ => by simp [numF] at h
  | x :: r, i, acc, v, n, h, ha => by
    have hx := x.toNat_lt
    simp only [numF] at h
    by_cases h10 : 10 ≤ i
    · rw [if_pos h10] at h; cases h
    · rw [if_neg h10] at h
      have hm : x.toNat % 128 < 128 := Nat.mod_lt _ (by decide)
      have hp : 2 ^ (7 * (i + 1)) = 128 * 2 ^ (7 * i) := by rw [Nat.mul_add, Nat.pow_add, Nat.mul_comm]
      have hb : acc + (x.toNat % 128) * 2 ^ (7 * i) < 2 ^ (7 * (i + 1)) := by
        rw [hp]
        have : (x.toNat % 128) * 2 ^ (7 * i) ≤ 127 * 2 ^ (7 * i) := Nat.mul_le_mul_right _ (by omega)
        omega
      by_cases h128 : 128 ≤ x.toNat
      · rw [if_pos h128] at h
        have := numF_bound r (i + 1) _ v n h hb
        simp only [List.length_cons]
        omega
      · rw [if_neg h128] at h
        split at h
        · cases h
        · rename_i hno
          simp only [Option.some.injEq, Prod.mk.injEq] at h
          obtain ⟨rfl, rfl⟩ := h
          refine ⟨by omega, by simp only [List.length_cons]; omega, by omega, ?_⟩
          rcases Nat.lt_or_ge i 9 with h9 | h9
          · have hq : 2 ^ (7 * (i + 1)) ≤ 2 ^ 63 := Nat.pow_le_pow_right (by decide) (by omega)
            omega
          · obtain rfl : i = 9 := by omega
            have hx1 : x.toNat ≤ 1 := by omega
            have e : x.toNat % 128 = x.toNat := Nat.mod_eq_of_lt (by omega)
            rw [e]
            have h1 : x.toNat * 2 ^ (7 * 9) ≤ 1 * 2 ^ (7 * 9) := Nat.mul_le_mul_right _ hx1
            have h2 : 2 * 2 ^ (7 * 9) = 18446744073709551616 := by rfl
            rw [← h2]
            clear h2 hb hp
            generalize 2 ^ (7 * 9) = q at *
            omega
theorem num_bound {l : List UInt8} {v n : Nat} (h : num l = some (v, n)) : 0 < n ∧ n ≤ l.length ∧ n ≤ 10 ∧ v < 18446744073709551616 := by
  have := numF_bound l 0 0 v n h (by simp)
  omega
end Go.Proofs.Ytohgkadbajmphaa.BinP
namespace Go.Proofs.Ytohgkadbajmphaa
open Go.RowKit
set_option linter.unusedVariables false
theorem or128_key : ∀ x : Fin 256, x.val ||| 128 = x.val % 128 + 128 := by decide +kernel
theorem or128 (v : Nat) : bits .or .u8 ((v : Int) % 256) 128 = ((UInt8.ofNat (v % 128 + 128)).toNat : Int) := by
  have e : (v : Int) % 256 = ((v % 256 : Nat) : Int) := by omega
  have h := or128_key ⟨v % 256, Nat.mod_lt _ (by decide)⟩
  simp only at h
  rw [e, show (128 : Int) = ((128 : Nat) : Int) from rfl, u8_or_nat _ _ (by omega) (by omega), UInt8.toNat_ofNat', h]
  omega
theorem byte_mod (v : Nat) : (v : Int) % 256 = ((UInt8.ofNat v).toNat : Int) := by
  rw [UInt8.toNat_ofNat']; omega
theorem cast_div128 (v : Nat) : (v : Int) / 128 = ((v / 128 : Nat) : Int) := by omega
set_option maxRecDepth 4000 in
set_option maxHeartbeats 400000 in
theorem bin_uint (A : Option Addr) (n c v : Nat) (l : List UInt8) (B : Nat) (w : World) (hn : l.length = n) (hr : Row w B A (l.map b8)) (hB : B ≤ w.heap.size) (hm : n + 10 ≤ 140737488355328) (hv : v < two64) :
    Calls Try.prog 64 #[.slice A n c, .int .u64 (v : Int)] w (GivesB w (l ++ BinP.enc v)) := by
  subst hn
  have HV := Lib.hid hv
  clear hv
  go_enter Try.func64, Try.ntmps64
  go_wp2_with fail
  refine (clone8 A l.length c l B w rfl hr hB (by omega)).mono ?_
  rintro e w1 ⟨A1, n1, cap1, rfl, hO1, hB1⟩
  go_wp2_with fail
  go_loopw [0, 1] (fun s x wr => ∃ f cur A2 n2 cap2 out, x = .int .u64 ((cur : Nat) : Int) ∧ f ≤ 9 ∧ cur < 128 ^ (f + 1) ∧ cur < two64 ∧ out ++ BinP.encF (f + 1) cur = l ++ BinP.enc v ∧ s = .slice A2 n2 cap2 ∧ OwnB wr w.heap.size A2 n2 cap2 out ∧ n2 + (f + 1) ≤ l.length + 10 ∧ Below w.heap.size w wr) (fun _ x _ => (intOf x).toNat)
  case atStart => exact ⟨9, v, A1, n1, cap1, l, rfl, by omega, by have := two64_eq; have := HV.out; omega, HV.out, rfl, rfl, hO1, by have := hO1.len; omega, hB1⟩
  case round =>
    obtain ⟨f, cur, A2, n2, cap2, out, rfl, hf, hcf, hc64, he, rfl, hO, hol, hBr⟩ := hrel
    have HE := Lib.hid he
    have HCF := Lib.hid hcf
    have HC64 := Lib.hid hc64
    clear he hO1 hB1 hcf hc64
    have hs := hBr.size
    by_cases hge : 128 ≤ cur
    · obtain ⟨x, hx, hxe⟩ : ∃ x : UInt8, bits .or .u8 ((cur : Int) % 256) 128 = (x.toNat : Int) ∧ x = UInt8.ofNat (cur % 128 + 128) := ⟨_, or128 cur, rfl⟩
      have HX := Lib.hid hxe
      clear hxe
      go_wp2_with (at_builtin; go_loud (refine wpList_app8 rfl (.tmp 11) (.tmp 15) 31 rfl (.inl ⟨_, Try.underlying31⟩) w.heap.size _ _ _ out rfl (hO.alloc _) 1 [x] (Src.slice rfl (Row.new _ _ _ _ (wr.heap.size + 1) _ rfl (by omega) _ rfl)) (.inr ⟨rfl, by omega⟩) (by simp; omega) ?_; intro A3 cap3 w3 hO3 hg3 hB3 hb3))
      go_wp2_with fail
      go_roundw
      case rel =>
        have hge0 := HCF.out
        rw [Nat.pow_succ] at hge0
        obtain ⟨g, rfl⟩ : ∃ g, f = g + 1 := by
          rcases f with _ | g
          · simp at hge0; omega
          · exact ⟨g, rfl⟩
        refine ⟨g, cur / 128, A3, n2 + 1, cap3, out ++ [x], ?_, by omega, by omega, by have := HC64.out; omega, ?_, rfl, hO3, by omega, (hBr.alloc (by omega) _).trans hB3⟩
        · congr 1
        · rw [← HE.out, BinP.encF_split _ _ hge, HX.out]; simp
      case measure => simp [intOf]; omega
    · obtain ⟨x, rfl⟩ : ∃ x : UInt8, cur = x.toNat := ⟨UInt8.ofNat cur, by rw [UInt8.toNat_ofNat']; omega⟩
      go_wp2_with (at_builtin; go_loud (refine wpList_app8 rfl (.tmp 17) (.tmp 20) 31 rfl (.inl ⟨_, Try.underlying31⟩) w.heap.size _ _ _ out rfl (hO.alloc _) 1 [x] (Src.slice rfl (Row.new _ _ _ _ (wr.heap.size + 1) _ rfl (by omega) _ rfl)) (.inr ⟨rfl, by omega⟩) (by simp; omega) ?_; intro A3 cap3 w3 hO3 hg3 hB3 hb3))
      go_ret
      have e : out ++ [x] = l ++ BinP.enc v := by rw [← HE.out, BinP.encF_last _ _ (by omega)]; simp
      exact ⟨A3, _, cap3, rfl, by rw [← e]; exact hO3, (hBr.alloc (by omega) _).trans hB3⟩
end Go.Proofs.Ytohgkadbajmphaa
namespace Go.Proofs.Ytohgkadbajmphaa
open Go.RowKit
set_option linter.unusedVariables false
theorem OwnB.one (w : World) (base : Nat) (x : UInt8) (hb : base ≤ w.heap.size) : OwnB (w.alloc (.cells #[b8 x] 5)) base (some ⟨w.heap.size, 0, none⟩) 1 1 [x] :=
  Own.made w #[b8 x] _ (0, 0) 1 1 1 [b8 x] hb rfl (Nat.le_refl _) (by decide) (Nat.le_refl _) (.inr rfl) (fun j u hu => by rw [← Array.getElem?_toList]; exact hu)
theorem rem_byte (v : Nat) : ∃ x : UInt8, (v : Int) % 128 + 128 = (x.toNat : Int) ∧ x = UInt8.ofNat (v % 128 + 128) :=
  ⟨_, by rw [UInt8.toNat_ofNat']; omega, rfl⟩
set_option maxRecDepth 4000 in
set_option maxHeartbeats 400000 in
theorem ref_uint (f : Nat) : ∀ (v : Nat) (w : World), f ≤ 9 → v < 128 ^ (f + 1) → v < two64 → Calls Try.prog 54 #[.int .u64 (v : Int)] w (GivesB w (BinP.encF (f + 1) v)) := by
  induction f with
  | zero =>
    intro v w _ hv h64
    have hv : v < 128 := by simpa using hv
    obtain ⟨x, rfl⟩ : ∃ x : UInt8, v = x.toNat := ⟨UInt8.ofNat v, by rw [UInt8.toNat_ofNat']; omega⟩
    have hx := x.toNat_lt
    clear h64
    go_enter Try.func54, Try.ntmps54
    go_wp2_with fail
    go_ret
    refine ⟨_, _, _, rfl, ?_, (Below.refl _ _).alloc (Nat.le_refl _) _⟩
    rw [BinP.encF_last _ _ hv, UInt8.ofNat_toNat]
    exact OwnB.one w w.heap.size x (Nat.le_refl _)
  | succ f ih =>
    intro v w hf hv h64
    by_cases hlt : v < 128
    · obtain ⟨x, rfl⟩ : ∃ x : UInt8, v = x.toNat := ⟨UInt8.ofNat v, by rw [UInt8.toNat_ofNat']; omega⟩
      have hx := x.toNat_lt
      clear h64 hv ih
      go_enter Try.func54, Try.ntmps54
      go_wp2_with fail
      go_ret
      refine ⟨_, _, _, rfl, ?_, (Below.refl _ _).alloc (Nat.le_refl _) _⟩
      rw [BinP.encF_last _ _ hlt, UInt8.ofNat_toNat]
      exact OwnB.one w w.heap.size x (Nat.le_refl _)
    · obtain ⟨x, hx, hxe⟩ := rem_byte v
      have HX := Lib.hid hxe
      have hih := fun W => ih (v / 128) W (by omega) (by rw [Nat.pow_succ] at hv; omega) (by omega)
      have IH := Lib.hid hih
      have hO1 := OwnB.one w w.heap.size x (Nat.le_refl _)
      have hwl : v / 128 < two64 := by omega
      have HW := Lib.hid hwl
      clear hxe ih hih h64 hv hwl
      go_enter Try.func54, Try.ntmps54
      go_wp2_with fail
      rw [show (v : Int) / 128 = ((v / 128 : Nat) : Int) from by omega, wrap_u64n HW.out]
      refine (IH.out _).mono ?_
      rintro e w1 ⟨A1, n1, cap1, rfl, hO2, hB1⟩
      have hr1 := hO2.row
      have hO3 := hO1.below_all hB1
      have hl1 : n1 ≤ 10 := by have := hO2.len; have := BinP.encF_len (f + 1) (v / 128); omega
      have hs := hB1.size
      simp at hs
      go_wp2_with (at_builtin; go_loud (refine wpList_app8 rfl (.tmp 12) (.tmp 15) 31 rfl (.inl ⟨_, Try.underlying31⟩) w.heap.size _ _ _ [x] rfl hO3 n1 _ (Src.slice (by rw [List.length_map, Nat.mul_one]; exact hO2.len) hr1) (.inl (by omega)) (by omega) ?_; intro A3 cap3 w3 hO4 hg3 hB3 hb3))
      go_ret
      have e : BinP.encF (f + 1 + 1) v = [x] ++ BinP.encF (f + 1) (v / 128) := by rw [BinP.encF_split _ _ (by omega), HX.out]; rfl
      exact ⟨A3, _, cap3, rfl, by rw [e]; exact hO4, (((Below.refl _ _).alloc (Nat.le_refl _) _).trans (hB1.mono (by simp))).trans hB3⟩
theorem ref_enc (v : Nat) (w : World) (h : v < two64) : Calls Try.prog 54 #[.int .u64 (v : Int)] w (GivesB w (BinP.enc v)) :=
  ref_uint 9 v w (by omega) (by have := two64_eq; omega) h
end Go.Proofs.Ytohgkadbajmphaa
namespace Go.Proofs.Ytohgkadbajmphaa
open Go.RowKit
set_option linter.unusedVariables false
/-- a reader in block g: the bytes l stand ahead; bad: it has failed; its blocks lie from base.1 on, below base.2 -/
def Rd (w : World) (base : Nat × Nat) (g : Nat) (l : List UInt8) (bad : Bool) : Prop :=
  ∃ A n c, w.heap[g]? = some (.cells #[.slice A n c, .bool bad] 157 (0, 0)) ∧ (base.1 ≤ g ∧ g < base.2) ∧ l.length = n ∧ n ≤ c ∧ c ≤ maxLen ∧ Row w w.heap.size A (l.map b8) ∧ ∀ ad, A = some ad → ad.block ≠ g ∧ base.1 ≤ ad.block ∧ ad.block < base.2
def numV (l : List UInt8) : Int := match BinP.num l with | some (v, _) => (v : Int) | none => 0
def numN (l : List UInt8) : Int := match BinP.num l with | some (_, n) => (n : Int) | none => 0
def numOk (l : List UInt8) : Bool := (BinP.num l).isSome
theorem and127_key : ∀ x : Fin 256, x.val &&& 127 = x.val % 128 := by decide +kernel
theorem and127 (x : UInt8) : bits .and .u8 (x.toNat : Int) 127 = ((x.toNat % 128 : Nat) : Int) := by
  have hx := x.toNat_lt
  have h := and127_key ⟨x.toNat, hx⟩
  simp only at h
  rw [show (127 : Int) = ((127 : Nat) : Int) from rfl, u8_and_nat _ _ (by omega) (by omega), h]
theorem or_shift (acc y k : Nat) (ha : acc < 2 ^ k) (h : acc + y * 2 ^ k < two64) : bits .or .u64 (acc : Int) ((y * 2 ^ k : Nat) : Int) = ((acc + y * 2 ^ k : Nat) : Int) := by
  unfold two64 at h
  rw [u64_or_nat _ _ (by omega) (by omega), Nat.or_comm, Nat.mul_comm y, ← Nat.two_pow_add_eq_or_of_lt ha y, Nat.add_comm]
theorem or_round (acc : Nat) (x : UInt8) (k : Nat) (ha : acc < 2 ^ (7 * k)) (h : acc + x.toNat % 128 * 2 ^ (7 * k) < two64) :
    bits .or .u64 (acc : Int) (IntKind.u64.wrap ((x.toNat : Int) % 128 * 2 ^ (7 * k))) = ((acc + x.toNat % 128 * 2 ^ (7 * k) : Nat) : Int) := by
  have e : (x.toNat : Int) % 128 * 2 ^ (7 * k) = ((x.toNat % 128 * 2 ^ (7 * k) : Nat) : Int) := by
    rw [Int.natCast_mul, Int.natCast_emod, Int.natCast_pow]; rfl
  rw [e, wrap_u64n (by omega), or_shift _ _ _ ha h]
theorem or_nat (a b : Int) : ∃ z : Nat, bits .or .u64 a b = (z : Int) := by
  have h : 0 ≤ bits .or .u64 a b := wrap_u64_nonneg _
  exact ⟨_, (Int.toNat_of_nonneg h).symm⟩
theorem step_bound (acc k : Nat) (x : UInt8) (hk : k < 9) (ha : acc < 2 ^ (7 * k)) : acc + x.toNat % 128 * 2 ^ (7 * k) < 2 ^ (7 * (k + 1)) ∧ acc + x.toNat % 128 * 2 ^ (7 * k) < two64 := by
  have hm : x.toNat % 128 < 128 := Nat.mod_lt _ (by decide)
  have hp : 2 ^ (7 * (k + 1)) = 128 * 2 ^ (7 * k) := by rw [Nat.mul_add, Nat.pow_add, Nat.mul_comm]
  have h1 : x.toNat % 128 * 2 ^ (7 * k) ≤ 127 * 2 ^ (7 * k) := Nat.mul_le_mul_right _ (by omega)
  have h2 : 2 ^ (7 * (k + 1)) ≤ 2 ^ 63 := Nat.pow_le_pow_right (by decide) (by omega)
  unfold two64
  omega
theorem last_bound (acc : Nat) (x : UInt8) (hx : x.toNat ≤ 1) (ha : acc < 2 ^ (7 * 9)) : acc + x.toNat % 128 * 2 ^ (7 * 9) < two64 := by
  have e : x.toNat % 128 = x.toNat := Nat.mod_eq_of_lt (by omega)
  have h1 : x.toNat * 2 ^ (7 * 9) ≤ 1 * 2 ^ (7 * 9) := Nat.mul_le_mul_right _ hx
  have h2 : 2 * 2 ^ (7 * 9) = two64 := by rfl
  rw [e, ← h2]
  clear h2
  generalize 2 ^ (7 * 9) = q at *
  omega
theorem numF_on {k acc : Nat} {x : UInt8} {r : List UInt8} (h10 : k < 10) (h : 128 ≤ x.toNat) : BinP.numF k acc (x :: r) = BinP.numF (k + 1) (acc + x.toNat % 128 * 2 ^ (7 * k)) r := by
  rw [BinP.numF, if_neg (by omega), if_pos h]
theorem numF_bad {k acc : Nat} {x : UInt8} {r : List UInt8} (h10 : k < 10) (h : x.toNat < 128) (hb : (x.toNat = 0 ∧ 0 < k) ∨ (k = 9 ∧ 1 < x.toNat)) : BinP.numF k acc (x :: r) = none := by
  rw [BinP.numF, if_neg (by omega), if_neg (by omega), if_pos hb]
theorem numF_good {k acc : Nat} {x : UInt8} {r : List UInt8} (h10 : k < 10) (h : x.toNat < 128) (hb : ¬ ((x.toNat = 0 ∧ 0 < k) ∨ (k = 9 ∧ 1 < x.toNat))) : BinP.numF k acc (x :: r) = some (acc + x.toNat % 128 * 2 ^ (7 * k), k + 1) := by
  rw [BinP.numF, if_neg (by omega), if_neg (by omega), if_neg hb]
theorem num_some {l : List UInt8} {v n : Nat} (h : BinP.num l = some (v, n)) : numV l = (v : Int) ∧ numN l = (n : Int) ∧ numOk l = true := by
  unfold numV numN numOk; rw [h]; exact ⟨rfl, rfl, rfl⟩
theorem num_none {l : List UInt8} (h : BinP.num l = none) : numV l = 0 ∧ numN l = 0 ∧ numOk l = false := by
  unfold numV numN numOk; rw [h]; exact ⟨rfl, rfl, rfl⟩
theorem numF_ten (acc : Nat) (l : List UInt8) : BinP.numF 10 acc l = none := by
  cases l <;> simp [BinP.numF]
set_option maxRecDepth 4000 in
set_option maxHeartbeats 400000 in
theorem rd_number (g : Nat) (l : List UInt8) (bad : Bool) (base : Nat × Nat) (w : World) (h : Rd w base g l bad) :
    Calls Try.prog 90 #[.pointer (some ⟨g, 0, none⟩)] w fun e w' => e = .returned (.tuple #[.int .u64 (numV l), .int .i64 (numN l), .bool (numOk l)]) ∧ ∃ k, w' = w.drewN k := by
  obtain ⟨A, n, c, hg, hb, hn, hnc, hcm, hr, hne⟩ := h
  subst hn
  unfold maxLen at hcm
  have hc0 : w.cell? ⟨g, 0, none⟩ = some (.slice A l.length c) := by rw [cell_blk hg]; rfl
  have hc1 : w.cell? ⟨g, 1, none⟩ = some (.bool bad) := by rw [cell_blk hg]; rfl
  have HG := Lib.hid hg
  clear hg hne
  have HNL : Hid (∀ k acc, BinP.numF k acc (l.drop k) = BinP.num l → (k = 10 ∨ k = l.length) → numV l = 0 ∧ numN l = 0 ∧ numOk l = false) := Lib.hid (by
    intro k acc h hk
    have h0 : BinP.num l = none := by
      rcases hk with rfl | rfl
      · rw [← h, numF_ten]
      · rw [← h, List.drop_length]; rfl
    unfold numV numN numOk
    rw [h0]
    exact ⟨rfl, rfl, rfl⟩)
  by_cases h10 : 10 < l.length
  all_goals
    go_enter Try.func90, Try.ntmps90
    go_wp2_with fail
    go_quiet (fail)
    go_wp2_with fail
    go_loop [2, 19] (fun v i => ∃ k acc : Nat, k ≤ 10 ∧ k ≤ l.length ∧ i = .int .i64 (k : Int) ∧ v = .int .u64 (acc : Int) ∧ BinP.numF k acc (l.drop k) = BinP.num l ∧ (k ≤ 9 → acc < 2 ^ (7 * k))) (fun _ i => 10 - (intOf i).toNat)
    case atStart => exact ⟨0, 0, by omega, by omega, rfl, rfl, rfl, by omega⟩
    case round =>
      obtain ⟨k, acc, hk10, hkl, rfl, rfl, hnum, hacc⟩ := hrel
      have HNUM := Lib.hid hnum
      have HACC := Lib.hid hacc
      clear hnum hacc
      by_cases hin : k < 10 ∧ k < l.length
      · obtain ⟨hin1, hin2⟩ := hin
        obtain ⟨ad, hA, _, hc⟩ := hr.at_ k (by rw [List.length_map]; exact hin2)
        subst hA
        rw [List.getElem_map] at hc
        obtain ⟨x, hx⟩ : ∃ x, x = l[k] := ⟨_, rfl⟩
        rw [← hx] at hc
        have hd : l.drop k = x :: l.drop (k + 1) := by rw [hx]; exact List.drop_eq_getElem_cons hin2
        have HD := Lib.hid hd
        have hxl := x.toNat_lt
        have h127 := and127 x
        clear hx hd
        by_cases h128 : 128 ≤ x.toNat
        · have hon := numF_on (acc := acc) (r := l.drop (k + 1)) hin1 h128
          have HON := Lib.hid hon
          clear hon
          by_cases hk9 : k < 9
          · have hsb := step_bound acc k x hk9 (HACC.out (by omega))
            have hor := or_round acc x k (HACC.out (by omega)) hsb.2
            have HOR := Lib.hid hor
            have HSB := Lib.hid hsb
            clear hsb hor
            go_wp2_with fail
            go_round
            case rel => exact ⟨k + 1, acc + x.toNat % 128 * 2 ^ (7 * k), by omega, by omega, by go_num, by rw [HOR.out], by rw [← HON.out, ← HD.out, HNUM.out], fun _ => HSB.out.1⟩
            case measure => simp [intOf]; omega
          · obtain ⟨z, hz⟩ := or_nat (acc : Int) (IntKind.u64.wrap ((x.toNat : Int) % 128 * 2 ^ (7 * k)))
            have HZ := Lib.hid hz
            clear hz
            go_wp2_with fail
            go_round
            case rel =>
              have hz10 : BinP.numF (k + 1) z (l.drop (k + 1)) = BinP.num l := by
                obtain rfl : k = 9 := by omega
                rw [← HNUM.out, HD.out, HON.out, numF_ten, numF_ten]
              exact ⟨k + 1, z, by omega, by omega, by go_num, by rw [HZ.out], hz10, fun h => by omega⟩
            case measure => simp [intOf]; omega
        · by_cases hbad : (x.toNat = 0 ∧ 0 < k) ∨ (k = 9 ∧ 1 < x.toNat)
          · have hno := numF_bad (acc := acc) (r := l.drop (k + 1)) hin1 (by omega) hbad
            rw [← HD.out, HNUM.out] at hno
            obtain ⟨e1, e2, e3⟩ := num_none hno
            have E1 := Lib.hid e1
            have E2 := Lib.hid e2
            have E3 := Lib.hid e3
            clear hno e1 e2 e3
            rcases hbad with ⟨h0, hk0⟩ | ⟨h9, h1⟩
            · have h0' : x.toNat < 1 := by omega
              clear h0
              go_wp2_with fail
              go_ret3
              exact ⟨by rw [E1.out, E2.out, E3.out]; rfl, _, rfl⟩
            · have h9' : 9 ≤ k := by omega
              clear h9
              go_wp2_with fail
              go_ret3
              exact ⟨by rw [E1.out, E2.out, E3.out]; rfl, _, rfl⟩
          · have hgo := numF_good (acc := acc) (r := l.drop (k + 1)) hin1 (by omega) hbad
            rw [← HD.out, HNUM.out] at hgo
            obtain ⟨e1, e2, e3⟩ := num_some hgo
            have hor := or_round acc x k (HACC.out (by omega)) (by
              by_cases hk9 : k < 9
              · exact (step_bound acc k x hk9 (HACC.out (by omega))).2
              · obtain rfl : k = 9 := by omega
                exact last_bound acc x (by omega) (HACC.out (by omega)))
            have E1 := Lib.hid e1
            have E2 := Lib.hid e2
            have E3 := Lib.hid e3
            have HOR := Lib.hid hor
            clear hgo e1 e2 e3 hor
            by_cases hx0 : x.toNat = 0
            · have hk0 : k < 1 := by omega
              have hx0' : x.toNat < 1 := by omega
              have hv0 : numV l = bits .or .u64 (acc : Int) 0 := by
                rw [E1.out, ← HOR.out, hx0]
                simp [IntKind.wrap, IntKind.bits, IntKind.signed]
              have hn1 : numN l = 1 := by rw [E2.out]; omega
              have HV0 := Lib.hid hv0
              have HN1 := Lib.hid hn1
              clear hbad hx0 hv0 hn1
              go_wp2_with fail
              go_ret3
              exact ⟨by rw [HV0.out, HN1.out, E3.out]; rfl, _, rfl⟩
            · by_cases hk9 : k = 9
              · have hx1 : x.toNat < 2 := by omega
                have hx2 : 0 < x.toNat := by omega
                have hn10 : numN l = 10 := by rw [E2.out]; omega
                have HN10 := Lib.hid hn10
                have hk9' : 9 ≤ k := by omega
                clear hbad hk9 hx0 hn10
                go_wp2_with fail
                go_ret3
                exact ⟨by rw [E1.out, HN10.out, E3.out, ← HOR.out]; rfl, _, rfl⟩
              · clear hbad
                go_wp2_with fail
                go_ret3
                exact ⟨by rw [E1.out, E2.out, E3.out, ← HOR.out]; rfl, _, rfl⟩
      · have hkk : k = 10 ∨ k = l.length := by omega
        obtain ⟨e1, e2, e3⟩ := HNL.out k acc HNUM.out hkk
        have E1 := Lib.hid e1
        have E2 := Lib.hid e2
        have E3 := Lib.hid e3
        clear hkk e1 e2 e3
        go_wp2_with fail
        go_ret3
        exact ⟨by rw [E1.out, E2.out, E3.out]; rfl, _, rfl⟩
end Go.Proofs.Ytohgkadbajmphaa
