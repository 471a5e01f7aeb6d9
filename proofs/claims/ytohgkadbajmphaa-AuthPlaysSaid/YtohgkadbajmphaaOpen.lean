/- Arguments of a law, opened: a slice of bytes as a list of bytes; what the bound of the second form says of it. -/
import Derived.Test.YtohgkadbajmphaaMem
import Derived.Test.YtohgkadbajmphaaNum
import Derived.Test.YtohgkadbajmphaaRows
import Derived.ProofKit
import Derived.OpenShut
import Derived.ShutString
import Derived.ChangeOld
import Derived.JoinedCond
import Derived.Deep.CondSized
import Derived.SizedLaws
namespace Go.Proofs.Ytohgkadbajmphaa
open Go.RowKit Go.ChangeShapes Go.WideShapes
theorem ownKnob_none : ownKnob Try.prog.godebug = none := by kernel_rfl
theorem laidOut : laidOutB Try.prog = true := by kernel_rfl
theorem one_le_bulk {H : Type} (d : DataW H) : 1 ≤ Rows.uptoBulk d := by
  cases d with
  | lit l => cases l <;> simp [Rows.uptoBulk]
  | nil => simp [Rows.uptoBulk]
  | ptr d => simp [Rows.uptoBulk]
  | slice elems spare => simp [Rows.uptoBulk]
  | agg parts => simp [Rows.uptoBulk]
  | iface t d => simp [Rows.uptoBulk]
  | map entries => simp [Rows.uptoBulk]
  | held h => simp [Rows.uptoBulk]
theorem length_le_bulk {H : Type} (l : List (DataW H)) : l.length ≤ Rows.uptoBulkAll l := by
  induction l with
  | nil => simp [Rows.uptoBulkAll]
  | cons x r ih => have := one_le_bulk x; simp only [Rows.uptoBulkAll, List.length_cons]; omega

/-- a slice of bytes that came in -/
structure BytesIn (w : World) (A : Option Addr) (n c : Nat) (l : List UInt8) : Prop where
  len : l.length = n
  le : n ≤ c
  max : c ≤ maxLen
  row : Row w w.heap.size A (l.map b8)
theorem wf_u8 {z : Int} (h : (Lit.int .u8 z).wf = true) : 0 ≤ z ∧ z ≤ 255 := by
  simpa [Lit.wf, IntKind.min, IntKind.max, IntKind.signed, IntKind.bits] using h
theorem b8_of {z : Int} (h : 0 ≤ z ∧ z ≤ 255) : b8 (UInt8.ofNat z.toNat) = .int .u8 z := by
  unfold b8
  congr 1
  rw [UInt8.toNat_ofNat']
  omega
section
variable {H : Type} {enc : TypeId × Value → H} {P : Program} {w : World} {base : Nat} {spare : Nat → Bool} {held : Bool}
theorem open_bytes {t e : TypeId} {fuel : Nat} {A : Option Addr} {n c : Nat} {x : DataW H × List MemPlace} (ht : P.underlying t = some (.slice e)) (he : P.underlying e = some (.int .u8)) (hc : P.cellsOf e = 1)
    (h : DataW.trod enc P w base spare held fuel t [.slice A n c] = some x) :
    ∃ l, BytesIn w A n c l ∧ n + 1 ≤ Rows.uptoBulk x.1 ∧ ((x.1 = .nil ∧ n = 0) ∨ ∃ es sp, x.1 = .slice es sp ∧ es.length = n) := by
  rcases open_ints ht he hc h with ⟨hcs, hx⟩ | ⟨a, n', c', zs, hcs, _, hl, hm, hz, hx, hcell, hwz⟩
  · simp only [List.cons.injEq, Value.slice.injEq, and_true] at hcs
    obtain ⟨rfl, rfl, rfl⟩ := hcs
    exact ⟨[], ⟨rfl, Nat.le_refl _, Nat.zero_le _, Row.nil⟩, one_le_bulk _, .inl ⟨by rw [hx], rfl⟩⟩
  · simp only [List.cons.injEq, Value.slice.injEq, and_true] at hcs
    obtain ⟨rfl, rfl, rfl⟩ := hcs
    have hnz : n ≤ zs.length := by rw [hz]; split <;> omega
    have hlen : (lits (H := H) .u8 (zs.take n)).length = n := by simp [lits]; omega
    refine ⟨(zs.take n).map fun z => UInt8.ofNat z.toNat, ⟨by simp; omega, hl, hm, ?_⟩, ?_, .inr ⟨_, _, by rw [hx], hlen⟩⟩
    · intro j u hu
      simp only [List.map_map, List.getElem?_map, Option.map_eq_some_iff, Function.comp] at hu
      obtain ⟨z, hz1, rfl⟩ := hu
      have hz2 : zs[j]? = some z := by
        rw [List.getElem?_take] at hz1
        split at hz1
        · exact hz1
        · cases hz1
      have hj : j < zs.length := (List.getElem?_eq_some_iff.1 hz2).1
      have hcc := hcell j hj
      have hzd : zs.getD j 0 = z := by simp [List.getD, hz2]
      rw [hzd] at hcc
      have hw := wf_u8 (hwz z (List.mem_of_getElem? hz2))
      refine ⟨a, rfl, ?_, by rw [b8_of hw]; exact hcc⟩
      have := World.block_lt_of_cell? w _ hcc
      rwa [add_block] at this
    · rw [hx]
      have h2 := length_le_bulk (lits (H := H) .u8 (zs.take n))
      simp only [Rows.uptoBulk]
      omega
end
end Go.Proofs.Ytohgkadbajmphaa
