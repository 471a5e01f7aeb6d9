/- s[lo:] of a slice of bytes as one equation. -/
import Derived.Test.YtohgkadbajmphaaSl
namespace Go.Proofs.Ytohgkadbajmphaa
open Go.RowKit
def cutA (A : Option Addr) (lo c : Nat) : Option Addr := if c = lo then A else A.map fun x => x.add lo
theorem run_from (A : Option Addr) (n c lo : Nat) (hlo : lo ≤ n) (hnc : n ≤ c) (hcm : c ≤ maxLen) (x : Int) (hx : x = (lo : Int)) (W : World) :
    (Instr.slice 31 (.slice A n c) (some (.int .i64 x)) none none).run Try.prog W = .ok (.slice (cutA A lo c) (n - lo) (c - lo)) W := by
  subst hx
  have hu := Try.underlying31
  unfold cutA
  by_cases hc : c = lo
  · subst hc
    obtain rfl : n = c := by omega
    simp [go_sem, hu]
  · rw [if_neg hc]
    simp [go_sem, hu, hc, hlo]
theorem Sl.from_ {w : World} {B : Nat} {A : Option Addr} {n c : Nat} {l : List UInt8} (h : Sl w B A n c l) (lo : Nat) (hlo : lo ≤ n) : Sl w B (cutA A lo c) (n - lo) (c - lo) (l.drop lo) := by
  obtain ⟨hl, hc, hm, hr⟩ := h
  refine ⟨by simp; omega, by omega, by omega, ?_⟩
  unfold cutA
  by_cases hcl : c = lo
  · rw [if_pos hcl, List.drop_of_length_le (by omega)]
    exact Row.nil
  · rw [if_neg hcl]
    rcases A with _ | ad
    · obtain rfl := hr.none_nil
      simp
      exact Row.nil
    · have := hr.drop lo
      rwa [← List.map_drop] at this
end Go.Proofs.Ytohgkadbajmphaa
