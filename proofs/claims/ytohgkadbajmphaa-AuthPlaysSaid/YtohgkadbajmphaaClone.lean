/- slices.Clone of bytes: new bytes, the same ones. -/
import Derived.Test.YtohgkadbajmphaaBytes
namespace Go.Proofs.Ytohgkadbajmphaa
open Go.RowKit
set_option linter.unusedVariables false
/-- A call answers a slice of the call's own, from block base on, that holds the bytes l; what was there stands. -/
def GivesB (w0 : World) (l : List UInt8) (e : Ending) (w' : World) : Prop :=
  ∃ A n cap, e = .returned (.slice A n cap) ∧ OwnB w' w0.heap.size A n cap l ∧ Below w0.heap.size w0 w'
theorem OwnB.empty (w : World) (base : Nat) (hb : base ≤ w.heap.size) : OwnB (w.alloc (.cells #[] 5)) base (some ⟨w.heap.size, 0, none⟩) 0 0 [] :=
  Own.made w #[] _ (0, 0) 1 0 0 [] hb rfl (Nat.le_refl _) (Nat.zero_le _) (Nat.zero_le _) (.inr rfl) (fun j u hu => by simp at hu)
theorem Row.none_nil {w : World} {B : Nat} {l : List UInt8} (h : Row w B none (l.map b8)) : l = [] := by
  rcases l with _ | ⟨x, r⟩
  · rfl
  · obtain ⟨_, e, _⟩ := h 0 (b8 x) rfl
    cases e
set_option maxHeartbeats 400000 in
theorem clone8 (A : Option Addr) (n c : Nat) (l : List UInt8) (B : Nat) (w : World) (hn : l.length = n) (hr : Row w B A (l.map b8)) (hB : B ≤ w.heap.size) (hm : n ≤ 140737488355328) :
    Calls Try.prog 45 #[.slice A n c] w (GivesB w l) := by
  subst hn
  rcases A with _ | ad
  · obtain rfl := hr.none_nil
    have hnil := fun W => Lib.run_eql_slice_nil (P := Try.prog) W 31 5 none 0 c 0 0 Try.underlying31
    clear hr
    go_enter Try.func45, Try.ntmps45
    go_wp2
    go_ret
    exact ⟨none, 0, 0, rfl, Own.nil _ _ _ _, Below.refl _ _⟩
  · have hnil := fun W => Lib.run_eql_slice_nil (P := Try.prog) W 31 5 (some ad) l.length c 0 0 Try.underlying31
    have hO0 := OwnB.empty w w.heap.size (Nat.le_refl _)
    go_enter Try.func45, Try.ntmps45
    go_wp2_with (at_builtin; refine wpList_app8 rfl (.tmp 5) (.tmp 6) 31 rfl (.inl ⟨_, Try.underlying31⟩) w.heap.size _ _ _ [] rfl hO0 l.length l (Src.slice (by simp) (hr.alloc hB _)) (.inl (by omega)) (by simp) ?_; intro A2 cap2 w4 hO4 hg4 hB4 hb4; simp only [List.nil_append, Nat.zero_add] at hO4)
    go_ret
    exact ⟨A2, _, cap2, rfl, hO4, ((Below.refl _ _).alloc (Nat.le_refl _) _).trans hB4⟩
end Go.Proofs.Ytohgkadbajmphaa
