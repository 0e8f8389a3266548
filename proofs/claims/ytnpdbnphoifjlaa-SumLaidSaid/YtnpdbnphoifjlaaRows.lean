/-
  No cell of these rows narrows 'for every input' (looked for: loops, veiled, ifaces, maps, wideKeys, modest, calm, conditions, laid).
  DERIVED. THE GIVEN ROWS OF THIS SEAT. 6 by the template 'for every input the law returns true; each argument reads behind the call as it read before'; 0 by the template 'total and deterministic' (their statements: YtnpdbnphoifjlaaTotals.lean).
  GIVEN WITH THE SEED: the statements are not yours to turn. If you find one false, say at which input.
  Laid BY PROGRAM, IN A SANDBOX (cutbox-rows.mjs): the forced cells as the released guide's own fill.sh prints them over the translation 29c2bc643c7d1c71… (all of the seat's roots in one cut). By AI agents, Wed Nov 11 2026. No macro, syntax, notation, axiom, sorry.
-/
import Derived.Test.YtnpdbnphoifjlaaChecked
import GoSem.Claim
import GoSem.ClaimJoined
import GoSem.ClaimMapViews
import Derived.JoinedTies
import Derived.KernelRfl
namespace Go.Proofs.Ytnpdbnphoifjlaa
/- THE CELL 'sum', in the pinned program and in every row, IS THE sha256 OF THE DUMP (.gsa) THAT YtnpdbnphoifjlaaProg.lean LOADS. Nothing in Lean hashes anything: it is a label: what it is worth is what the hold of that sum in a sandbox is worth. -/
noncomputable def Try.pinned : Pinned := { name := "ytnpdbnphoifjlaa", sum := "29c2bc643c7d1c71c0999aa4e2caac862aef06ce0204a91cf61b2ef25507ccca", checked := Try.checked }
namespace Rows
def none {H : Type} : Left H := { results := [], args := [] }

/-- 'marsheslaw02.SumSums': WHATEVER THE INPUT: true; the input reads as it did. -/
def sumSumsSpec : ChangeSpec := { name := "sumSums", fn := fun _ => fun
  | [d1, d2, d3, d4] => { results := [.lit (.bool true)], args := [d1, d2, d3, d4] }
  | _ => none }
def sumSumsRow : OpenClaim := { program := "ytnpdbnphoifjlaa", sum := "29c2bc643c7d1c71c0999aa4e2caac862aef06ce0204a91cf61b2ef25507ccca", func := "marshes/marsheslaw02.SumSums", spec := "sumSums", unfollowed := true, recurses := true, apart := false }
def SumSumsSaid : Prop := sumSumsRow.holds Try.pinned (OpenSpec.ofChange sumSumsSpec)

/-- ITS FALSE NEIGHBOUR: 'it returns false'. Refute it at one input. -/
def sumSumsWrong : ChangeSpec := { name := "sumSums", fn := fun _ => fun
  | [d1, d2, d3, d4] => { results := [.lit (.bool false)], args := [d1, d2, d3, d4] }
  | _ => none }
def SumSumsWrongFalsely : Prop := sumSumsRow.holds Try.pinned (OpenSpec.ofChange sumSumsWrong)

/-- 'marsheslaw02.SumLaid': WHATEVER THE INPUT: true; the input reads as it did. -/
def sumLaidSpec : ChangeSpec := { name := "sumLaid", fn := fun _ => fun
  | [d1, d2, d3, d4] => { results := [.lit (.bool true)], args := [d1, d2, d3, d4] }
  | _ => none }
def sumLaidRow : OpenClaim := { program := "ytnpdbnphoifjlaa", sum := "29c2bc643c7d1c71c0999aa4e2caac862aef06ce0204a91cf61b2ef25507ccca", func := "marshes/marsheslaw02.SumLaid", spec := "sumLaid", inPlace := ["internal/bytealg.MakeNoZero"], unfollowed := true, recurses := true, apart := false }
def SumLaidSaid : Prop := sumLaidRow.holds Try.pinned (OpenSpec.ofChange sumLaidSpec)

/-- ITS FALSE NEIGHBOUR: 'it returns false'. Refute it at one input. -/
def sumLaidWrong : ChangeSpec := { name := "sumLaid", fn := fun _ => fun
  | [d1, d2, d3, d4] => { results := [.lit (.bool false)], args := [d1, d2, d3, d4] }
  | _ => none }
def SumLaidWrongFalsely : Prop := sumLaidRow.holds Try.pinned (OpenSpec.ofChange sumLaidWrong)

/-- 'marsheslaw02.SumStream': WHATEVER THE INPUT: true; the input reads as it did. -/
def sumStreamSpec : ChangeSpec := { name := "sumStream", fn := fun _ => fun
  | [d1, d2] => { results := [.lit (.bool true)], args := [d1, d2] }
  | _ => none }
def sumStreamRow : OpenClaim := { program := "ytnpdbnphoifjlaa", sum := "29c2bc643c7d1c71c0999aa4e2caac862aef06ce0204a91cf61b2ef25507ccca", func := "marshes/marsheslaw02.SumStream", spec := "sumStream", inPlace := ["internal/bytealg.MakeNoZero"], unfollowed := true, recurses := true, apart := false }
def SumStreamSaid : Prop := sumStreamRow.holds Try.pinned (OpenSpec.ofChange sumStreamSpec)

/-- ITS FALSE NEIGHBOUR: 'it returns false'. Refute it at one input. -/
def sumStreamWrong : ChangeSpec := { name := "sumStream", fn := fun _ => fun
  | [d1, d2] => { results := [.lit (.bool false)], args := [d1, d2] }
  | _ => none }
def SumStreamWrongFalsely : Prop := sumStreamRow.holds Try.pinned (OpenSpec.ofChange sumStreamWrong)

/-- 'marsheslaw02.SumWraps': WHATEVER THE INPUT: true; the input reads as it did. -/
def sumWrapsSpec : ChangeSpec := { name := "sumWraps", fn := fun _ => fun
  | [d] => { results := [.lit (.bool true)], args := [d] }
  | _ => none }
def sumWrapsRow : OpenClaim := { program := "ytnpdbnphoifjlaa", sum := "29c2bc643c7d1c71c0999aa4e2caac862aef06ce0204a91cf61b2ef25507ccca", func := "marshes/marsheslaw02.SumWraps", spec := "sumWraps", inPlace := ["internal/bytealg.MakeNoZero"], unfollowed := true, recurses := true, apart := false }
def SumWrapsSaid : Prop := sumWrapsRow.holds Try.pinned (OpenSpec.ofChange sumWrapsSpec)

/-- ITS FALSE NEIGHBOUR: 'it returns false'. Refute it at one input. -/
def sumWrapsWrong : ChangeSpec := { name := "sumWraps", fn := fun _ => fun
  | [d] => { results := [.lit (.bool false)], args := [d] }
  | _ => none }
def SumWrapsWrongFalsely : Prop := sumWrapsRow.holds Try.pinned (OpenSpec.ofChange sumWrapsWrong)

/-- 'marsheslaw02.SumRuns': WHATEVER THE INPUT: true; the input reads as it did. -/
def sumRunsSpec : ChangeSpec := { name := "sumRuns", fn := fun _ => fun
  | [d1, d2, d3, d4, d5] => { results := [.lit (.bool true)], args := [d1, d2, d3, d4, d5] }
  | _ => none }
def sumRunsRow : OpenClaim := { program := "ytnpdbnphoifjlaa", sum := "29c2bc643c7d1c71c0999aa4e2caac862aef06ce0204a91cf61b2ef25507ccca", func := "marshes/marsheslaw02.SumRuns", spec := "sumRuns", inPlace := ["internal/bytealg.MakeNoZero"], unfollowed := true, recurses := true, apart := false }
def SumRunsSaid : Prop := sumRunsRow.holds Try.pinned (OpenSpec.ofChange sumRunsSpec)

/-- ITS FALSE NEIGHBOUR: 'it returns false'. Refute it at one input. -/
def sumRunsWrong : ChangeSpec := { name := "sumRuns", fn := fun _ => fun
  | [d1, d2, d3, d4, d5] => { results := [.lit (.bool false)], args := [d1, d2, d3, d4, d5] }
  | _ => none }
def SumRunsWrongFalsely : Prop := sumRunsRow.holds Try.pinned (OpenSpec.ofChange sumRunsWrong)

/-- 'marsheslaw02.SumNames': WHATEVER THE INPUT: true; the input reads as it did. -/
def sumNamesSpec : ChangeSpec := { name := "sumNames", fn := fun _ => fun
  | [] => { results := [.lit (.bool true)], args := [] }
  | _ => none }
def sumNamesRow : OpenClaim := { program := "ytnpdbnphoifjlaa", sum := "29c2bc643c7d1c71c0999aa4e2caac862aef06ce0204a91cf61b2ef25507ccca", func := "marshes/marsheslaw02.SumNames", spec := "sumNames", inPlace := ["internal/bytealg.MakeNoZero"], unfollowed := true, recurses := true, apart := false }
def SumNamesSaid : Prop := sumNamesRow.holds Try.pinned (OpenSpec.ofChange sumNamesSpec)

/-- ITS FALSE NEIGHBOUR: 'it returns false'. Refute it at one input. -/
def sumNamesWrong : ChangeSpec := { name := "sumNames", fn := fun _ => fun
  | [] => { results := [.lit (.bool false)], args := [] }
  | _ => none }
def SumNamesWrongFalsely : Prop := sumNamesRow.holds Try.pinned (OpenSpec.ofChange sumNamesWrong)

/- THE SECOND FORM. 'bulk': how many values and letters a reading holds, each counted each time it is reached (what is shared counts as often as it is met; a slice's spare places count too). A statement '..UptoSaid' is the law's where the arguments, and the package variables that the reading takes, are together of bulk at most 1048576: NARROWER than '..Said'. Prove '..Said' where nothing that the law and all that it calls make is longer than what came in: it says more and counts as full. Else prove '..UptoSaid'. A law counts once. -/
mutual
def uptoBulk {H : Type} : DataW H → Nat
  | .lit (.string bytes) => bytes.length + 1
  | .lit _ => 1
  | .nil => 1
  | .ptr d => uptoBulk d + 1
  | .slice elems spare => uptoBulkAll elems + uptoBulkAll spare + 1
  | .agg parts => uptoBulkAll parts + 1
  | .iface _ d => uptoBulk d + 1
  | .map entries => uptoBulkEntries entries + 1
  | .held _ => 1
def uptoBulkAll {H : Type} : List (DataW H) → Nat
  | [] => 0
  | d :: r => uptoBulk d + uptoBulkAll r
def uptoBulkEntries {H : Type} : List (Lit × DataW H) → Nat
  | [] => 0
  | x :: r => uptoBulkEntry x + uptoBulkEntries r
def uptoBulkEntry {H : Type} : Lit × DataW H → Nat
  | (.string bytes, d) => bytes.length + uptoBulk d + 1
  | (_, d) => uptoBulk d + 1
 end
def uptoSmall : (H : Type) → List (DataW H) → Bool := fun _ ds => decide (uptoBulkAll ds ≤ 1048576)
def OpenSpec.upto (s : _root_.Go.ChangeSpec) : _root_.Go.OpenSpec := { _root_.Go.OpenSpec.ofChange s with cond := some uptoSmall }

/-- 'marsheslaw02.SumSums', WHERE WHAT IT READS IS OF BULK AT MOST 1048576: true; the input reads as it did. -/
def sumSumsUptoRow : OpenClaim := { program := "ytnpdbnphoifjlaa", sum := "29c2bc643c7d1c71c0999aa4e2caac862aef06ce0204a91cf61b2ef25507ccca", func := "marshes/marsheslaw02.SumSums", spec := "sumSums", unfollowed := true, recurses := true, apart := false, narrowed := true }
def SumSumsUptoSaid : Prop := sumSumsUptoRow.holds Try.pinned (OpenSpec.upto sumSumsSpec)

/-- 'marsheslaw02.SumLaid', WHERE WHAT IT READS IS OF BULK AT MOST 1048576: true; the input reads as it did. -/
def sumLaidUptoRow : OpenClaim := { program := "ytnpdbnphoifjlaa", sum := "29c2bc643c7d1c71c0999aa4e2caac862aef06ce0204a91cf61b2ef25507ccca", func := "marshes/marsheslaw02.SumLaid", spec := "sumLaid", inPlace := ["internal/bytealg.MakeNoZero"], unfollowed := true, recurses := true, apart := false, narrowed := true }
def SumLaidUptoSaid : Prop := sumLaidUptoRow.holds Try.pinned (OpenSpec.upto sumLaidSpec)

/-- 'marsheslaw02.SumStream', WHERE WHAT IT READS IS OF BULK AT MOST 1048576: true; the input reads as it did. -/
def sumStreamUptoRow : OpenClaim := { program := "ytnpdbnphoifjlaa", sum := "29c2bc643c7d1c71c0999aa4e2caac862aef06ce0204a91cf61b2ef25507ccca", func := "marshes/marsheslaw02.SumStream", spec := "sumStream", inPlace := ["internal/bytealg.MakeNoZero"], unfollowed := true, recurses := true, apart := false, narrowed := true }
def SumStreamUptoSaid : Prop := sumStreamUptoRow.holds Try.pinned (OpenSpec.upto sumStreamSpec)

/-- 'marsheslaw02.SumWraps', WHERE WHAT IT READS IS OF BULK AT MOST 1048576: true; the input reads as it did. -/
def sumWrapsUptoRow : OpenClaim := { program := "ytnpdbnphoifjlaa", sum := "29c2bc643c7d1c71c0999aa4e2caac862aef06ce0204a91cf61b2ef25507ccca", func := "marshes/marsheslaw02.SumWraps", spec := "sumWraps", inPlace := ["internal/bytealg.MakeNoZero"], unfollowed := true, recurses := true, apart := false, narrowed := true }
def SumWrapsUptoSaid : Prop := sumWrapsUptoRow.holds Try.pinned (OpenSpec.upto sumWrapsSpec)

/-- 'marsheslaw02.SumRuns', WHERE WHAT IT READS IS OF BULK AT MOST 1048576: true; the input reads as it did. -/
def sumRunsUptoRow : OpenClaim := { program := "ytnpdbnphoifjlaa", sum := "29c2bc643c7d1c71c0999aa4e2caac862aef06ce0204a91cf61b2ef25507ccca", func := "marshes/marsheslaw02.SumRuns", spec := "sumRuns", inPlace := ["internal/bytealg.MakeNoZero"], unfollowed := true, recurses := true, apart := false, narrowed := true }
def SumRunsUptoSaid : Prop := sumRunsUptoRow.holds Try.pinned (OpenSpec.upto sumRunsSpec)

/-- 'marsheslaw02.SumNames', WHERE WHAT IT READS IS OF BULK AT MOST 1048576: true; the input reads as it did. -/
def sumNamesUptoRow : OpenClaim := { program := "ytnpdbnphoifjlaa", sum := "29c2bc643c7d1c71c0999aa4e2caac862aef06ce0204a91cf61b2ef25507ccca", func := "marshes/marsheslaw02.SumNames", spec := "sumNames", inPlace := ["internal/bytealg.MakeNoZero"], unfollowed := true, recurses := true, apart := false, narrowed := true }
def SumNamesUptoSaid : Prop := sumNamesUptoRow.holds Try.pinned (OpenSpec.upto sumNamesSpec)

end Rows
end Go.Proofs.Ytnpdbnphoifjlaa
