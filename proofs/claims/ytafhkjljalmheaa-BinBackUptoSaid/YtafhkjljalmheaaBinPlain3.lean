/- Plain law: numbers and texts laid one behind the other by turns, read back by turns. No program in sight. -/
import Derived.Test.YtafhkjljalmheaaBinPlain2
namespace Go.Proofs.Ytafhkjljalmheaa.BinP
def lay2 : List Nat → List (List UInt8) → List UInt8
  | [], [] => []
  | v :: l, [] => enc v ++ lay2 l []
  | [], t :: s => text t ++ lay2 [] s
  | v :: l, t :: s => enc v ++ (text t ++ lay2 l s)
def sizes : List (List UInt8) → Nat
  | [] => 0
  | t :: s => t.length + sizes s
theorem text_len (t : List UInt8) : (text t).length ≤ t.length + 10 := by have := enc_len t.length; simp [text]; omega
theorem lay2_len : ∀ (l : List Nat) (s : List (List UInt8)), (lay2 l s).length ≤ 10 * l.length + 10 * s.length + sizes s
  | [], [] => by simp [lay2]
  | v :: l, [] => by have := lay2_len l []; have := enc_len v; simp [lay2, sizes] at *; omega
  | [], t :: s => by have := lay2_len [] s; have := text_len t; simp [lay2, sizes] at *; omega
  | v :: l, t :: s => by have := lay2_len l s; have := enc_len v; have := text_len t; simp [lay2, sizes] at *; omega
theorem lay2_nil : lay2 [] [] = [] := by simp [lay2]
end Go.Proofs.Ytafhkjljalmheaa.BinP
