/-
  No cell of these rows narrows 'for every input' (looked for: loops, veiled, ifaces, maps, wideKeys, modest, calm, conditions, laid).
  DERIVED. THE GIVEN ROWS OF THIS SEAT. 7 by the template 'for every input the law returns true; each argument reads behind the call as it read before'; 0 by the template 'total and deterministic' (their statements: YtafhkjljalmheaaTotals.lean).
  GIVEN WITH THE SEED: the statements are not yours to turn. If you find one false, say at which input.
  Laid BY PROGRAM, IN A SANDBOX (cutbox-rows.mjs): the forced cells as the released guide's own fill.sh prints them over the translation c5db9e9c58978b35… (all of the seat's roots in one cut). By AI agents, Wed Nov 11 2026. No macro, syntax, notation, axiom, sorry.
-/
import Derived.Test.YtafhkjljalmheaaChecked
import GoSem.Claim
import GoSem.ClaimJoined
import GoSem.ClaimMapViews
import Derived.JoinedTies
import Derived.KernelRfl
namespace Go.Proofs.Ytafhkjljalmheaa
/- THE CELL 'sum', in the pinned program and in every row, IS THE sha256 OF THE DUMP (.gsa) THAT YtafhkjljalmheaaProg.lean LOADS. Nothing in Lean hashes anything: it is a label: what it is worth is what the hold of that sum in a sandbox is worth. -/
noncomputable def Try.pinned : Pinned := { name := "ytafhkjljalmheaa", sum := "c5db9e9c58978b35af08de809a86c955e5eda40b704752b3b294e352775963ca", checked := Try.checked }
namespace Rows
def none {H : Type} : Left H := { results := [], args := [] }

/-- 'rolodexlaw3.BinKnown': WHATEVER THE INPUT: true; the input reads as it did. -/
def binKnownSpec : ChangeSpec := { name := "binKnown", fn := fun _ => fun
  | [] => { results := [.lit (.bool true)], args := [] }
  | _ => none }
def binKnownRow : OpenClaim := { program := "ytafhkjljalmheaa", sum := "c5db9e9c58978b35af08de809a86c955e5eda40b704752b3b294e352775963ca", func := "rolodex/rolodexlaw3.BinKnown", spec := "binKnown", apart := false }
def BinKnownSaid : Prop := binKnownRow.holds Try.pinned (OpenSpec.ofChange binKnownSpec)

/-- ITS FALSE NEIGHBOUR: 'it returns false'. Refute it at one input. -/
def binKnownWrong : ChangeSpec := { name := "binKnown", fn := fun _ => fun
  | [] => { results := [.lit (.bool false)], args := [] }
  | _ => none }
def BinKnownWrongFalsely : Prop := binKnownRow.holds Try.pinned (OpenSpec.ofChange binKnownWrong)

/-- 'rolodexlaw3.BinLays': WHATEVER THE INPUT: true; the input reads as it did. -/
def binLaysSpec : ChangeSpec := { name := "binLays", fn := fun _ => fun
  | [d1, d2, d3] => { results := [.lit (.bool true)], args := [d1, d2, d3] }
  | _ => none }
def binLaysRow : OpenClaim := { program := "ytafhkjljalmheaa", sum := "c5db9e9c58978b35af08de809a86c955e5eda40b704752b3b294e352775963ca", func := "rolodex/rolodexlaw3.BinLays", spec := "binLays", recurses := true, apart := false }
def BinLaysSaid : Prop := binLaysRow.holds Try.pinned (OpenSpec.ofChange binLaysSpec)

/-- ITS FALSE NEIGHBOUR: 'it returns false'. Refute it at one input. -/
def binLaysWrong : ChangeSpec := { name := "binLays", fn := fun _ => fun
  | [d1, d2, d3] => { results := [.lit (.bool false)], args := [d1, d2, d3] }
  | _ => none }
def BinLaysWrongFalsely : Prop := binLaysRow.holds Try.pinned (OpenSpec.ofChange binLaysWrong)

/-- 'rolodexlaw3.BinReads': WHATEVER THE INPUT: true; the input reads as it did. -/
def binReadsSpec : ChangeSpec := { name := "binReads", fn := fun _ => fun
  | [d1, d2, d3] => { results := [.lit (.bool true)], args := [d1, d2, d3] }
  | _ => none }
def binReadsRow : OpenClaim := { program := "ytafhkjljalmheaa", sum := "c5db9e9c58978b35af08de809a86c955e5eda40b704752b3b294e352775963ca", func := "rolodex/rolodexlaw3.BinReads", spec := "binReads", apart := false }
def BinReadsSaid : Prop := binReadsRow.holds Try.pinned (OpenSpec.ofChange binReadsSpec)

/-- ITS FALSE NEIGHBOUR: 'it returns false'. Refute it at one input. -/
def binReadsWrong : ChangeSpec := { name := "binReads", fn := fun _ => fun
  | [d1, d2, d3] => { results := [.lit (.bool false)], args := [d1, d2, d3] }
  | _ => none }
def BinReadsWrongFalsely : Prop := binReadsRow.holds Try.pinned (OpenSpec.ofChange binReadsWrong)

/-- 'rolodexlaw3.BinBack': WHATEVER THE INPUT: true; the input reads as it did. -/
def binBackSpec : ChangeSpec := { name := "binBack", fn := fun _ => fun
  | [d1, d2] => { results := [.lit (.bool true)], args := [d1, d2] }
  | _ => none }
def binBackRow : OpenClaim := { program := "ytafhkjljalmheaa", sum := "c5db9e9c58978b35af08de809a86c955e5eda40b704752b3b294e352775963ca", func := "rolodex/rolodexlaw3.BinBack", spec := "binBack", apart := false }
def BinBackSaid : Prop := binBackRow.holds Try.pinned (OpenSpec.ofChange binBackSpec)

/-- ITS FALSE NEIGHBOUR: 'it returns false'. Refute it at one input. -/
def binBackWrong : ChangeSpec := { name := "binBack", fn := fun _ => fun
  | [d1, d2] => { results := [.lit (.bool false)], args := [d1, d2] }
  | _ => none }
def BinBackWrongFalsely : Prop := binBackRow.holds Try.pinned (OpenSpec.ofChange binBackWrong)

/-- 'rolodexlaw3.BinCut': WHATEVER THE INPUT: true; the input reads as it did. -/
def binCutSpec : ChangeSpec := { name := "binCut", fn := fun _ => fun
  | [d1, d2, d3] => { results := [.lit (.bool true)], args := [d1, d2, d3] }
  | _ => none }
def binCutRow : OpenClaim := { program := "ytafhkjljalmheaa", sum := "c5db9e9c58978b35af08de809a86c955e5eda40b704752b3b294e352775963ca", func := "rolodex/rolodexlaw3.BinCut", spec := "binCut", apart := false }
def BinCutSaid : Prop := binCutRow.holds Try.pinned (OpenSpec.ofChange binCutSpec)

/-- ITS FALSE NEIGHBOUR: 'it returns false'. Refute it at one input. -/
def binCutWrong : ChangeSpec := { name := "binCut", fn := fun _ => fun
  | [d1, d2, d3] => { results := [.lit (.bool false)], args := [d1, d2, d3] }
  | _ => none }
def BinCutWrongFalsely : Prop := binCutRow.holds Try.pinned (OpenSpec.ofChange binCutWrong)

/-- 'rolodexlaw3.BinMost': WHATEVER THE INPUT: true; the input reads as it did. -/
def binMostSpec : ChangeSpec := { name := "binMost", fn := fun _ => fun
  | [d1, d2] => { results := [.lit (.bool true)], args := [d1, d2] }
  | _ => none }
def binMostRow : OpenClaim := { program := "ytafhkjljalmheaa", sum := "c5db9e9c58978b35af08de809a86c955e5eda40b704752b3b294e352775963ca", func := "rolodex/rolodexlaw3.BinMost", spec := "binMost", apart := false }
def BinMostSaid : Prop := binMostRow.holds Try.pinned (OpenSpec.ofChange binMostSpec)

/-- ITS FALSE NEIGHBOUR: 'it returns false'. Refute it at one input. -/
def binMostWrong : ChangeSpec := { name := "binMost", fn := fun _ => fun
  | [d1, d2] => { results := [.lit (.bool false)], args := [d1, d2] }
  | _ => none }
def BinMostWrongFalsely : Prop := binMostRow.holds Try.pinned (OpenSpec.ofChange binMostWrong)

/-- 'rolodexlaw19.ProtoKnown': WHATEVER THE INPUT: true; the input reads as it did. -/
def protoKnownSpec : ChangeSpec := { name := "protoKnown", fn := fun _ => fun
  | [] => { results := [.lit (.bool true)], args := [] }
  | _ => none }
def protoKnownRow : OpenClaim := { program := "ytafhkjljalmheaa", sum := "c5db9e9c58978b35af08de809a86c955e5eda40b704752b3b294e352775963ca", func := "rolodex/rolodexlaw19.ProtoKnown", spec := "protoKnown", unfollowed := true, recurses := true, apart := false }
def ProtoKnownSaid : Prop := protoKnownRow.holds Try.pinned (OpenSpec.ofChange protoKnownSpec)

/-- ITS FALSE NEIGHBOUR: 'it returns false'. Refute it at one input. -/
def protoKnownWrong : ChangeSpec := { name := "protoKnown", fn := fun _ => fun
  | [] => { results := [.lit (.bool false)], args := [] }
  | _ => none }
def ProtoKnownWrongFalsely : Prop := protoKnownRow.holds Try.pinned (OpenSpec.ofChange protoKnownWrong)

/- THE SECOND FORM. 'bulk': how many values and letters a reading holds, each counted each time it is reached (what is shared counts as often as it is met; a slice's spare places count too). A statement '..UptoSaid' is the law's where the arguments, and the package variables that the reading takes, are together of bulk at most 1048576: NARROWER than '..Said'. Prove '..Said' where nothing that the law and all that it calls make is longer than what came in: it says more and counts as full. Else prove '..UptoSaid'. A law counts once. -/
mutual
def uptoBulk {H : Type} : DataW H → Nat
  | .lit (.string bytes) => bytes.length + 1
  | .lit _ => 1
  | .nil => 1
  | .ptr d => uptoBulk d + 1
  | .slice elems spare => uptoBulkAll elems + uptoBulkAll spare + 1
  | .agg parts => uptoBulkAll parts + 1
  | .iface _ d => uptoBulk d + 1
  | .map entries => uptoBulkEntries entries + 1
  | .held _ => 1
def uptoBulkAll {H : Type} : List (DataW H) → Nat
  | [] => 0
  | d :: r => uptoBulk d + uptoBulkAll r
def uptoBulkEntries {H : Type} : List (Lit × DataW H) → Nat
  | [] => 0
  | x :: r => uptoBulkEntry x + uptoBulkEntries r
def uptoBulkEntry {H : Type} : Lit × DataW H → Nat
  | (.string bytes, d) => bytes.length + uptoBulk d + 1
  | (_, d) => uptoBulk d + 1
 end
def uptoSmall : (H : Type) → List (DataW H) → Bool := fun _ ds => decide (uptoBulkAll ds ≤ 1048576)
def OpenSpec.upto (s : _root_.Go.ChangeSpec) : _root_.Go.OpenSpec := { _root_.Go.OpenSpec.ofChange s with cond := some uptoSmall }

/-- 'rolodexlaw3.BinKnown', WHERE WHAT IT READS IS OF BULK AT MOST 1048576: true; the input reads as it did. -/
def binKnownUptoRow : OpenClaim := { program := "ytafhkjljalmheaa", sum := "c5db9e9c58978b35af08de809a86c955e5eda40b704752b3b294e352775963ca", func := "rolodex/rolodexlaw3.BinKnown", spec := "binKnown", apart := false, narrowed := true }
def BinKnownUptoSaid : Prop := binKnownUptoRow.holds Try.pinned (OpenSpec.upto binKnownSpec)

/-- 'rolodexlaw3.BinLays', WHERE WHAT IT READS IS OF BULK AT MOST 1048576: true; the input reads as it did. -/
def binLaysUptoRow : OpenClaim := { program := "ytafhkjljalmheaa", sum := "c5db9e9c58978b35af08de809a86c955e5eda40b704752b3b294e352775963ca", func := "rolodex/rolodexlaw3.BinLays", spec := "binLays", recurses := true, apart := false, narrowed := true }
def BinLaysUptoSaid : Prop := binLaysUptoRow.holds Try.pinned (OpenSpec.upto binLaysSpec)

/-- 'rolodexlaw3.BinReads', WHERE WHAT IT READS IS OF BULK AT MOST 1048576: true; the input reads as it did. -/
def binReadsUptoRow : OpenClaim := { program := "ytafhkjljalmheaa", sum := "c5db9e9c58978b35af08de809a86c955e5eda40b704752b3b294e352775963ca", func := "rolodex/rolodexlaw3.BinReads", spec := "binReads", apart := false, narrowed := true }
def BinReadsUptoSaid : Prop := binReadsUptoRow.holds Try.pinned (OpenSpec.upto binReadsSpec)

/-- 'rolodexlaw3.BinBack', WHERE WHAT IT READS IS OF BULK AT MOST 1048576: true; the input reads as it did. -/
def binBackUptoRow : OpenClaim := { program := "ytafhkjljalmheaa", sum := "c5db9e9c58978b35af08de809a86c955e5eda40b704752b3b294e352775963ca", func := "rolodex/rolodexlaw3.BinBack", spec := "binBack", apart := false, narrowed := true }
def BinBackUptoSaid : Prop := binBackUptoRow.holds Try.pinned (OpenSpec.upto binBackSpec)

/-- 'rolodexlaw3.BinCut', WHERE WHAT IT READS IS OF BULK AT MOST 1048576: true; the input reads as it did. -/
def binCutUptoRow : OpenClaim := { program := "ytafhkjljalmheaa", sum := "c5db9e9c58978b35af08de809a86c955e5eda40b704752b3b294e352775963ca", func := "rolodex/rolodexlaw3.BinCut", spec := "binCut", apart := false, narrowed := true }
def BinCutUptoSaid : Prop := binCutUptoRow.holds Try.pinned (OpenSpec.upto binCutSpec)

/-- 'rolodexlaw3.BinMost', WHERE WHAT IT READS IS OF BULK AT MOST 1048576: true; the input reads as it did. -/
def binMostUptoRow : OpenClaim := { program := "ytafhkjljalmheaa", sum := "c5db9e9c58978b35af08de809a86c955e5eda40b704752b3b294e352775963ca", func := "rolodex/rolodexlaw3.BinMost", spec := "binMost", apart := false, narrowed := true }
def BinMostUptoSaid : Prop := binMostUptoRow.holds Try.pinned (OpenSpec.upto binMostSpec)

/-- 'rolodexlaw19.ProtoKnown', WHERE WHAT IT READS IS OF BULK AT MOST 1048576: true; the input reads as it did. -/
def protoKnownUptoRow : OpenClaim := { program := "ytafhkjljalmheaa", sum := "c5db9e9c58978b35af08de809a86c955e5eda40b704752b3b294e352775963ca", func := "rolodex/rolodexlaw19.ProtoKnown", spec := "protoKnown", unfollowed := true, recurses := true, apart := false, narrowed := true }
def ProtoKnownUptoSaid : Prop := protoKnownUptoRow.holds Try.pinned (OpenSpec.upto protoKnownSpec)

end Rows
end Go.Proofs.Ytafhkjljalmheaa
