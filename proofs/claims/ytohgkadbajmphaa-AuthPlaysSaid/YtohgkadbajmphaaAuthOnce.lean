/- Plain facts for rolodexlaw18.AuthOnce: the tokens that it lets be issued. -/
import Derived.Test.YtohgkadbajmphaaAwake18
namespace Go.Proofs.Ytohgkadbajmphaa
open Go.RowKit
set_option linter.unusedVariables false
theorem and15 (d : Int) : ∃ m : Nat, m ≤ 15 ∧ bits .and .i64 d 15 = (m : Int) := by
  refine ⟨(BitVec.ofInt 64 d &&& BitVec.ofInt 64 15).toNat, ?_, ?_⟩
  · rw [BitVec.toNat_and]
    exact Nat.le_trans Nat.and_le_right (by decide)
  · show IntKind.i64.wrap ((BitVec.ofInt 64 d &&& BitVec.ofInt 64 15).toNat : Int) = _
    have h : (BitVec.ofInt 64 d &&& BitVec.ofInt 64 15).toNat ≤ 15 := by
      rw [BitVec.toNat_and]
      exact Nat.le_trans Nat.and_le_right (by decide)
    exact IntWalk.i64_in _ (by omega)
/-- the claim of token number i -/
def oc (ds : List Int) (i : Nat) : AuthP.Cl := ⟨(bits .and .i64 (ds.getD i 0) 15).toNat, i, i + 1, 100 * (i + 1)⟩
theorem oc_dev (ds : List Int) (i : Nat) : (oc ds i).dev ≤ 15 ∧ ((oc ds i).dev : Int) = bits .and .i64 (ds.getD i 0) 15 := by
  obtain ⟨m, h1, h2⟩ := and15 (ds.getD i 0)
  unfold oc
  simp only [h2]
  exact ⟨by omega, by omega⟩
theorem oc_good (ds : List Int) (i : Nat) (h : i < 10) : AuthP.good (oc ds i) := by
  have := (oc_dev ds i).1
  refine ⟨this, ?_, ?_, ?_, ?_, ?_⟩ <;> simp only [oc, two64] <;> omega
def otok (key : List UInt8) (ds : List Int) (i : Nat) : List UInt8 := AuthP.tok key (oc ds i)
theorem otok_ne (key : List UInt8) (ds : List Int) {i j : Nat} (hi : i < 10) (hj : j < 10) (h : i ≠ j) : otok key ds i ≠ otok key ds j := fun e => by
  have := congrArg AuthP.Cl.num (AuthP.tok_inj (oc_good ds i hi) (oc_good ds j hj) e)
  simp only [oc] at this
  omega
theorem otok_len (key : List UInt8) (ds : List Int) (i : Nat) : (otok key ds i).length ≤ 150 := tok_len key _
/-- the first j tokens, as a slice holds them -/
def ostrs (key : List UInt8) (ds : List Int) (j : Nat) : List Value := (List.range j).map fun i => .string ⟨(otok key ds i).toArray⟩
theorem ostrs_len (key : List UInt8) (ds : List Int) (j : Nat) : (ostrs key ds j).length = j := by simp [ostrs]
theorem ostrs_succ (key : List UInt8) (ds : List Int) (j : Nat) : ostrs key ds j ++ [.string ⟨(otok key ds j).toArray⟩] = ostrs key ds (j + 1) := by simp [ostrs, List.range_succ]
theorem ostrs_at (key : List UInt8) (ds : List Int) {i j : Nat} (h : i < j) : (ostrs key ds j)[i]? = some (.string ⟨(otok key ds i).toArray⟩) := by simp [ostrs, h]
theorem one_ostr (t : List UInt8) : ∀ u ∈ [Value.string ⟨t.toArray⟩], u.oneCell' = true := by intro u hu; simp at hu; rw [hu]; rfl
theorem info_string : (Try.prog.info? 9).map (fun i => (i.zero, i.size, i.bytes)) = some (some (.string ⟨#[]⟩), 1, 16) := by kernel_rfl
/-- which number the law lets be taken back -/
def orev (pick : Int) (n m : Nat) : Bool := decide (0 ≤ pick ∧ pick < (n : Int) ∧ (m : Int) = pick + 1)
/-- what Verify tells of token number i -/
theorem once_verify (base top g : Nat) (key : List UInt8) (ds : List Int) (n : Nat) (rev : Nat → Bool) (k i asked : Nat) (now : Int) (w : World) (hi : i < n) (hn : n ≤ 10) (ha : asked < 1000000) (hkey : key.length ≤ 1000000) (hK : Keep w base top g key n asked rev k) :
    Calls Try.prog 35 #[.pointer (some ⟨g, 0, none⟩), .string ⟨(otok key ds i).toArray⟩, .int .i64 now] w fun e w' =>
      e = .returned (.tuple #[.agg (clv (if rev (i + 1) = true then AuthP.none0 else if (100 * ((i : Int) + 1)) ≤ now then AuthP.none0 else oc ds i)).toArray, .int .i64 (if rev (i + 1) = true then 10 else if (100 * ((i : Int) + 1)) ≤ now then 9 else 0)]) ∧
      Keep w' base top g key n (asked + 1) rev k ∧ Out base top w w' := by
  have h1 := keep_verify base top g key n asked rev k (otok key ds i) now w hK ha (by omega) hkey (by have := otok_len key ds i; omega)
  have hg := oc_good ds i (by omega)
  have e1 : AuthP.verifyE key n rev (otok key ds i) now = if rev (i + 1) = true then 10 else if (100 * ((i : Int) + 1)) ≤ now then 9 else 0 := by
    unfold otok
    rw [verifyE_tok hg, if_neg (by simp only [oc]; omega)]
    rfl
  have e2 : AuthP.verifyC key n rev (otok key ds i) now = if rev (i + 1) = true then AuthP.none0 else if (100 * ((i : Int) + 1)) ≤ now then AuthP.none0 else oc ds i := by
    unfold otok
    rw [verifyC_tok hg, if_neg (by simp only [oc]; omega)]
    rfl
  rw [e1, e2] at h1
  exact h1
theorem grew_none {w w' : World} (hg : w.grownBy w' none) : Grew w w' := ⟨hg.os, hg.tape, hg.output, hg.size, fun j hj => hg.block j hj (by simp)⟩
theorem Keep.other {w w' : World} {base top g : Nat} {key : List UInt8} {issued asked k : Nat} {rev : Nat → Bool} (h : Keep w base top g key issued asked rev k) {row : Option Nat} (hg : w.grownBy w' row) (hr : ∀ r, row = some r → top ≤ r) : Keep w' base top g key issued asked rev k := by
  cases row with
  | none => exact h.grew (grew_none hg)
  | some r => exact h.apart hg (hr r rfl)
theorem Out.other {w w' w'' : World} {base top : Nat} (h : Out base top w w') {row : Option Nat} (hg : w'.grownBy w'' row) (hr : ∀ r, row = some r → w.heap.size ≤ r) : Out base top w w'' := by
  cases row with
  | none => exact h.grew (grew_none hg)
  | some r => exact h.row hg (.inr (hr r rfl))
theorem Own.out {w w' : World} {base top : Nat} {e : TypeId} {size n cap : Nat} {A : Option Addr} {xs : List Value} (h : Own w top e size A n cap xs) (ho : Out base top w w') : Own w' top e size A n cap xs :=
  h.keep fun g hg => ho.block g (h.lt g hg).2 (.inr (h.lt g hg).1)
end Go.Proofs.Ytohgkadbajmphaa
