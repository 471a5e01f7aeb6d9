/-
  No cell of these rows narrows 'for every input' (looked for: loops, veiled, ifaces, maps, wideKeys, modest, calm, conditions, laid).
  DERIVED. THE GIVEN ROWS OF THIS SEAT. 6 by the template 'for every input the law returns true; each argument reads behind the call as it read before'; 0 by the template 'total and deterministic' (their statements: YtemckkcbakccnaaTotals.lean).
  GIVEN WITH THE SEED: the statements are not yours to turn. If you find one false, say at which input.
  Laid BY PROGRAM, IN A SANDBOX (cutbox-rows.mjs): the forced cells as the released guide's own fill.sh prints them over the translation 275992435334b097… (all of the seat's roots in one cut). By AI agents, Wed Nov 11 2026. No macro, syntax, notation, axiom, sorry.
-/
import Derived.Test.YtemckkcbakccnaaChecked
import GoSem.Claim
import GoSem.ClaimJoined
import GoSem.ClaimMapViews
import Derived.JoinedTies
import Derived.KernelRfl
namespace Go.Proofs.Ytemckkcbakccnaa
/- THE CELL 'sum', in the pinned program and in every row, IS THE sha256 OF THE DUMP (.gsa) THAT YtemckkcbakccnaaProg.lean LOADS. Nothing in Lean hashes anything: it is a label: what it is worth is what the hold of that sum in a sandbox is worth. -/
noncomputable def Try.pinned : Pinned := { name := "ytemckkcbakccnaa", sum := "275992435334b097044aef641ea8362c6760773c26c6e797884ba1a95dc5428b", checked := Try.checked }
namespace Rows
def none {H : Type} : Left H := { results := [], args := [] }

/-- 'rolodexlaw10.MergeKnown': WHATEVER THE INPUT: true; the input reads as it did. -/
def mergeKnownSpec : ChangeSpec := { name := "mergeKnown", fn := fun _ => fun
  | [] => { results := [.lit (.bool true)], args := [] }
  | _ => none }
def mergeKnownRow : OpenClaim := { program := "ytemckkcbakccnaa", sum := "275992435334b097044aef641ea8362c6760773c26c6e797884ba1a95dc5428b", func := "rolodex/rolodexlaw10.MergeKnown", spec := "mergeKnown", unfollowed := true, recurses := true, apart := false }
def MergeKnownSaid : Prop := mergeKnownRow.holds Try.pinned (OpenSpec.ofChange mergeKnownSpec)

/-- ITS FALSE NEIGHBOUR: 'it returns false'. Refute it at one input. -/
def mergeKnownWrong : ChangeSpec := { name := "mergeKnown", fn := fun _ => fun
  | [] => { results := [.lit (.bool false)], args := [] }
  | _ => none }
def MergeKnownWrongFalsely : Prop := mergeKnownRow.holds Try.pinned (OpenSpec.ofChange mergeKnownWrong)

/-- 'rolodexlaw10.MergeMerges': WHATEVER THE INPUT: true; the input reads as it did. -/
def mergeMergesSpec : ChangeSpec := { name := "mergeMerges", fn := fun _ => fun
  | [d1, d2] => { results := [.lit (.bool true)], args := [d1, d2] }
  | _ => none }
def mergeMergesRow : OpenClaim := { program := "ytemckkcbakccnaa", sum := "275992435334b097044aef641ea8362c6760773c26c6e797884ba1a95dc5428b", func := "rolodex/rolodexlaw10.MergeMerges", spec := "mergeMerges", unfollowed := true, recurses := true, apart := false }
def MergeMergesSaid : Prop := mergeMergesRow.holds Try.pinned (OpenSpec.ofChange mergeMergesSpec)

/-- ITS FALSE NEIGHBOUR: 'it returns false'. Refute it at one input. -/
def mergeMergesWrong : ChangeSpec := { name := "mergeMerges", fn := fun _ => fun
  | [d1, d2] => { results := [.lit (.bool false)], args := [d1, d2] }
  | _ => none }
def MergeMergesWrongFalsely : Prop := mergeMergesRow.holds Try.pinned (OpenSpec.ofChange mergeMergesWrong)

/-- 'rolodexlaw10.MergeThins': WHATEVER THE INPUT: true; the input reads as it did. -/
def mergeThinsSpec : ChangeSpec := { name := "mergeThins", fn := fun _ => fun
  | [d1, d2, d3, d4] => { results := [.lit (.bool true)], args := [d1, d2, d3, d4] }
  | _ => none }
def mergeThinsRow : OpenClaim := { program := "ytemckkcbakccnaa", sum := "275992435334b097044aef641ea8362c6760773c26c6e797884ba1a95dc5428b", func := "rolodex/rolodexlaw10.MergeThins", spec := "mergeThins", unfollowed := true, recurses := true, apart := false }
def MergeThinsSaid : Prop := mergeThinsRow.holds Try.pinned (OpenSpec.ofChange mergeThinsSpec)

/-- ITS FALSE NEIGHBOUR: 'it returns false'. Refute it at one input. -/
def mergeThinsWrong : ChangeSpec := { name := "mergeThins", fn := fun _ => fun
  | [d1, d2, d3, d4] => { results := [.lit (.bool false)], args := [d1, d2, d3, d4] }
  | _ => none }
def MergeThinsWrongFalsely : Prop := mergeThinsRow.holds Try.pinned (OpenSpec.ofChange mergeThinsWrong)

/-- 'rolodexlaw10.MergeKeeps': WHATEVER THE INPUT: true; the input reads as it did. -/
def mergeKeepsSpec : ChangeSpec := { name := "mergeKeeps", fn := fun _ => fun
  | [d1, d2, d3] => { results := [.lit (.bool true)], args := [d1, d2, d3] }
  | _ => none }
def mergeKeepsRow : OpenClaim := { program := "ytemckkcbakccnaa", sum := "275992435334b097044aef641ea8362c6760773c26c6e797884ba1a95dc5428b", func := "rolodex/rolodexlaw10.MergeKeeps", spec := "mergeKeeps", unfollowed := true, recurses := true, apart := false }
def MergeKeepsSaid : Prop := mergeKeepsRow.holds Try.pinned (OpenSpec.ofChange mergeKeepsSpec)

/-- ITS FALSE NEIGHBOUR: 'it returns false'. Refute it at one input. -/
def mergeKeepsWrong : ChangeSpec := { name := "mergeKeeps", fn := fun _ => fun
  | [d1, d2, d3] => { results := [.lit (.bool false)], args := [d1, d2, d3] }
  | _ => none }
def MergeKeepsWrongFalsely : Prop := mergeKeepsRow.holds Try.pinned (OpenSpec.ofChange mergeKeepsWrong)

/-- 'rolodexlaw10.MergeParts': WHATEVER THE INPUT: true; the input reads as it did. -/
def mergePartsSpec : ChangeSpec := { name := "mergeParts", fn := fun _ => fun
  | [d1, d2, d3] => { results := [.lit (.bool true)], args := [d1, d2, d3] }
  | _ => none }
def mergePartsRow : OpenClaim := { program := "ytemckkcbakccnaa", sum := "275992435334b097044aef641ea8362c6760773c26c6e797884ba1a95dc5428b", func := "rolodex/rolodexlaw10.MergeParts", spec := "mergeParts", unfollowed := true, recurses := true, apart := false }
def MergePartsSaid : Prop := mergePartsRow.holds Try.pinned (OpenSpec.ofChange mergePartsSpec)

/-- ITS FALSE NEIGHBOUR: 'it returns false'. Refute it at one input. -/
def mergePartsWrong : ChangeSpec := { name := "mergeParts", fn := fun _ => fun
  | [d1, d2, d3] => { results := [.lit (.bool false)], args := [d1, d2, d3] }
  | _ => none }
def MergePartsWrongFalsely : Prop := mergePartsRow.holds Try.pinned (OpenSpec.ofChange mergePartsWrong)

/-- 'rolodexlaw10.MergeLess': WHATEVER THE INPUT: true; the input reads as it did. -/
def mergeLessSpec : ChangeSpec := { name := "mergeLess", fn := fun _ => fun
  | [d1, d2, d3] => { results := [.lit (.bool true)], args := [d1, d2, d3] }
  | _ => none }
def mergeLessRow : OpenClaim := { program := "ytemckkcbakccnaa", sum := "275992435334b097044aef641ea8362c6760773c26c6e797884ba1a95dc5428b", func := "rolodex/rolodexlaw10.MergeLess", spec := "mergeLess", unfollowed := true, recurses := true, apart := false }
def MergeLessSaid : Prop := mergeLessRow.holds Try.pinned (OpenSpec.ofChange mergeLessSpec)

/-- ITS FALSE NEIGHBOUR: 'it returns false'. Refute it at one input. -/
def mergeLessWrong : ChangeSpec := { name := "mergeLess", fn := fun _ => fun
  | [d1, d2, d3] => { results := [.lit (.bool false)], args := [d1, d2, d3] }
  | _ => none }
def MergeLessWrongFalsely : Prop := mergeLessRow.holds Try.pinned (OpenSpec.ofChange mergeLessWrong)

/- THE SECOND FORM. 'bulk': how many values and letters a reading holds, each counted each time it is reached (what is shared counts as often as it is met; a slice's spare places count too). A statement '..UptoSaid' is the law's where the arguments, and the package variables that the reading takes, are together of bulk at most 1048576: NARROWER than '..Said'. Prove '..Said' where nothing that the law and all that it calls make is longer than what came in: it says more and counts as full. Else prove '..UptoSaid'. A law counts once. -/
mutual
def uptoBulk {H : Type} : DataW H → Nat
  | .lit (.string bytes) => bytes.length + 1
  | .lit _ => 1
  | .nil => 1
  | .ptr d => uptoBulk d + 1
  | .slice elems spare => uptoBulkAll elems + uptoBulkAll spare + 1
  | .agg parts => uptoBulkAll parts + 1
  | .iface _ d => uptoBulk d + 1
  | .map entries => uptoBulkEntries entries + 1
  | .held _ => 1
def uptoBulkAll {H : Type} : List (DataW H) → Nat
  | [] => 0
  | d :: r => uptoBulk d + uptoBulkAll r
def uptoBulkEntries {H : Type} : List (Lit × DataW H) → Nat
  | [] => 0
  | x :: r => uptoBulkEntry x + uptoBulkEntries r
def uptoBulkEntry {H : Type} : Lit × DataW H → Nat
  | (.string bytes, d) => bytes.length + uptoBulk d + 1
  | (_, d) => uptoBulk d + 1
 end
def uptoSmall : (H : Type) → List (DataW H) → Bool := fun _ ds => decide (uptoBulkAll ds ≤ 1048576)
def OpenSpec.upto (s : _root_.Go.ChangeSpec) : _root_.Go.OpenSpec := { _root_.Go.OpenSpec.ofChange s with cond := some uptoSmall }

/-- 'rolodexlaw10.MergeKnown', WHERE WHAT IT READS IS OF BULK AT MOST 1048576: true; the input reads as it did. -/
def mergeKnownUptoRow : OpenClaim := { program := "ytemckkcbakccnaa", sum := "275992435334b097044aef641ea8362c6760773c26c6e797884ba1a95dc5428b", func := "rolodex/rolodexlaw10.MergeKnown", spec := "mergeKnown", unfollowed := true, recurses := true, apart := false, narrowed := true }
def MergeKnownUptoSaid : Prop := mergeKnownUptoRow.holds Try.pinned (OpenSpec.upto mergeKnownSpec)

/-- 'rolodexlaw10.MergeMerges', WHERE WHAT IT READS IS OF BULK AT MOST 1048576: true; the input reads as it did. -/
def mergeMergesUptoRow : OpenClaim := { program := "ytemckkcbakccnaa", sum := "275992435334b097044aef641ea8362c6760773c26c6e797884ba1a95dc5428b", func := "rolodex/rolodexlaw10.MergeMerges", spec := "mergeMerges", unfollowed := true, recurses := true, apart := false, narrowed := true }
def MergeMergesUptoSaid : Prop := mergeMergesUptoRow.holds Try.pinned (OpenSpec.upto mergeMergesSpec)

/-- 'rolodexlaw10.MergeThins', WHERE WHAT IT READS IS OF BULK AT MOST 1048576: true; the input reads as it did. -/
def mergeThinsUptoRow : OpenClaim := { program := "ytemckkcbakccnaa", sum := "275992435334b097044aef641ea8362c6760773c26c6e797884ba1a95dc5428b", func := "rolodex/rolodexlaw10.MergeThins", spec := "mergeThins", unfollowed := true, recurses := true, apart := false, narrowed := true }
def MergeThinsUptoSaid : Prop := mergeThinsUptoRow.holds Try.pinned (OpenSpec.upto mergeThinsSpec)

/-- 'rolodexlaw10.MergeKeeps', WHERE WHAT IT READS IS OF BULK AT MOST 1048576: true; the input reads as it did. -/
def mergeKeepsUptoRow : OpenClaim := { program := "ytemckkcbakccnaa", sum := "275992435334b097044aef641ea8362c6760773c26c6e797884ba1a95dc5428b", func := "rolodex/rolodexlaw10.MergeKeeps", spec := "mergeKeeps", unfollowed := true, recurses := true, apart := false, narrowed := true }
def MergeKeepsUptoSaid : Prop := mergeKeepsUptoRow.holds Try.pinned (OpenSpec.upto mergeKeepsSpec)

/-- 'rolodexlaw10.MergeParts', WHERE WHAT IT READS IS OF BULK AT MOST 1048576: true; the input reads as it did. -/
def mergePartsUptoRow : OpenClaim := { program := "ytemckkcbakccnaa", sum := "275992435334b097044aef641ea8362c6760773c26c6e797884ba1a95dc5428b", func := "rolodex/rolodexlaw10.MergeParts", spec := "mergeParts", unfollowed := true, recurses := true, apart := false, narrowed := true }
def MergePartsUptoSaid : Prop := mergePartsUptoRow.holds Try.pinned (OpenSpec.upto mergePartsSpec)

/-- 'rolodexlaw10.MergeLess', WHERE WHAT IT READS IS OF BULK AT MOST 1048576: true; the input reads as it did. -/
def mergeLessUptoRow : OpenClaim := { program := "ytemckkcbakccnaa", sum := "275992435334b097044aef641ea8362c6760773c26c6e797884ba1a95dc5428b", func := "rolodex/rolodexlaw10.MergeLess", spec := "mergeLess", unfollowed := true, recurses := true, apart := false, narrowed := true }
def MergeLessUptoSaid : Prop := mergeLessUptoRow.holds Try.pinned (OpenSpec.upto mergeLessSpec)

end Rows
end Go.Proofs.Ytemckkcbakccnaa
