/-
  No cell of these rows narrows 'for every input' (looked for: loops, veiled, ifaces, maps, wideKeys, modest, calm, conditions, laid).
  DERIVED. THE GIVEN ROWS OF THIS SEAT. 7 by the template 'for every input the law returns true; each argument reads behind the call as it read before'; 0 by the template 'total and deterministic' (their statements: YtokfenogiajcgaaTotals.lean).
  GIVEN WITH THE SEED: the statements are not yours to turn. If you find one false, say at which input.
  Laid BY PROGRAM, IN A SANDBOX (cutbox-rows.mjs): the forced cells as the released guide's own fill.sh prints them over the translation aa26d922f62360e7… (all of the seat's roots in one cut). By AI agents, Wed Nov 11 2026. No macro, syntax, notation, axiom, sorry.
-/
import Derived.Test.YtokfenogiajcgaaChecked
import GoSem.Claim
import GoSem.ClaimJoined
import GoSem.ClaimMapViews
import Derived.JoinedTies
import Derived.KernelRfl
namespace Go.Proofs.Ytokfenogiajcgaa
/- THE CELL 'sum', in the pinned program and in every row, IS THE sha256 OF THE DUMP (.gsa) THAT YtokfenogiajcgaaProg.lean LOADS. Nothing in Lean hashes anything: it is a label: what it is worth is what the hold of that sum in a sandbox is worth. -/
noncomputable def Try.pinned : Pinned := { name := "ytokfenogiajcgaa", sum := "aa26d922f62360e72eb8804dcf8193d20f7712ca4782bfc625c4a68d60b8a725", checked := Try.checked }
namespace Rows
def none {H : Type} : Left H := { results := [], args := [] }

/-- 'marsheslaw01.LebWrites': WHATEVER THE INPUT: true; the input reads as it did. -/
def lebWritesSpec : ChangeSpec := { name := "lebWrites", fn := fun _ => fun
  | [d] => { results := [.lit (.bool true)], args := [d] }
  | _ => none }
def lebWritesRow : OpenClaim := { program := "ytokfenogiajcgaa", sum := "aa26d922f62360e72eb8804dcf8193d20f7712ca4782bfc625c4a68d60b8a725", func := "marshes/marsheslaw01.LebWrites", spec := "lebWrites", unfollowed := true, recurses := true, apart := false }
def LebWritesSaid : Prop := lebWritesRow.holds Try.pinned (OpenSpec.ofChange lebWritesSpec)

/-- ITS FALSE NEIGHBOUR: 'it returns false'. Refute it at one input. -/
def lebWritesWrong : ChangeSpec := { name := "lebWrites", fn := fun _ => fun
  | [d] => { results := [.lit (.bool false)], args := [d] }
  | _ => none }
def LebWritesWrongFalsely : Prop := lebWritesRow.holds Try.pinned (OpenSpec.ofChange lebWritesWrong)

/-- 'marsheslaw01.LebReads': WHATEVER THE INPUT: true; the input reads as it did. -/
def lebReadsSpec : ChangeSpec := { name := "lebReads", fn := fun _ => fun
  | [d1, d2] => { results := [.lit (.bool true)], args := [d1, d2] }
  | _ => none }
def lebReadsRow : OpenClaim := { program := "ytokfenogiajcgaa", sum := "aa26d922f62360e72eb8804dcf8193d20f7712ca4782bfc625c4a68d60b8a725", func := "marshes/marsheslaw01.LebReads", spec := "lebReads", unfollowed := true, recurses := true, apart := false }
def LebReadsSaid : Prop := lebReadsRow.holds Try.pinned (OpenSpec.ofChange lebReadsSpec)

/-- ITS FALSE NEIGHBOUR: 'it returns false'. Refute it at one input. -/
def lebReadsWrong : ChangeSpec := { name := "lebReads", fn := fun _ => fun
  | [d1, d2] => { results := [.lit (.bool false)], args := [d1, d2] }
  | _ => none }
def LebReadsWrongFalsely : Prop := lebReadsRow.holds Try.pinned (OpenSpec.ofChange lebReadsWrong)

/-- 'marsheslaw01.LebFirst': WHATEVER THE INPUT: true; the input reads as it did. -/
def lebFirstSpec : ChangeSpec := { name := "lebFirst", fn := fun _ => fun
  | [d1, d2, d3] => { results := [.lit (.bool true)], args := [d1, d2, d3] }
  | _ => none }
def lebFirstRow : OpenClaim := { program := "ytokfenogiajcgaa", sum := "aa26d922f62360e72eb8804dcf8193d20f7712ca4782bfc625c4a68d60b8a725", func := "marshes/marsheslaw01.LebFirst", spec := "lebFirst", unfollowed := true, recurses := true, apart := false }
def LebFirstSaid : Prop := lebFirstRow.holds Try.pinned (OpenSpec.ofChange lebFirstSpec)

/-- ITS FALSE NEIGHBOUR: 'it returns false'. Refute it at one input. -/
def lebFirstWrong : ChangeSpec := { name := "lebFirst", fn := fun _ => fun
  | [d1, d2, d3] => { results := [.lit (.bool false)], args := [d1, d2, d3] }
  | _ => none }
def LebFirstWrongFalsely : Prop := lebFirstRow.holds Try.pinned (OpenSpec.ofChange lebFirstWrong)

/-- 'marsheslaw01.LebBack': WHATEVER THE INPUT: true; the input reads as it did. -/
def lebBackSpec : ChangeSpec := { name := "lebBack", fn := fun _ => fun
  | [d] => { results := [.lit (.bool true)], args := [d] }
  | _ => none }
def lebBackRow : OpenClaim := { program := "ytokfenogiajcgaa", sum := "aa26d922f62360e72eb8804dcf8193d20f7712ca4782bfc625c4a68d60b8a725", func := "marshes/marsheslaw01.LebBack", spec := "lebBack", unfollowed := true, recurses := true, apart := false }
def LebBackSaid : Prop := lebBackRow.holds Try.pinned (OpenSpec.ofChange lebBackSpec)

/-- ITS FALSE NEIGHBOUR: 'it returns false'. Refute it at one input. -/
def lebBackWrong : ChangeSpec := { name := "lebBack", fn := fun _ => fun
  | [d] => { results := [.lit (.bool false)], args := [d] }
  | _ => none }
def LebBackWrongFalsely : Prop := lebBackRow.holds Try.pinned (OpenSpec.ofChange lebBackWrong)

/-- 'marsheslaw01.LebCut': WHATEVER THE INPUT: true; the input reads as it did. -/
def lebCutSpec : ChangeSpec := { name := "lebCut", fn := fun _ => fun
  | [d1, d2] => { results := [.lit (.bool true)], args := [d1, d2] }
  | _ => none }
def lebCutRow : OpenClaim := { program := "ytokfenogiajcgaa", sum := "aa26d922f62360e72eb8804dcf8193d20f7712ca4782bfc625c4a68d60b8a725", func := "marshes/marsheslaw01.LebCut", spec := "lebCut", unfollowed := true, recurses := true, apart := false }
def LebCutSaid : Prop := lebCutRow.holds Try.pinned (OpenSpec.ofChange lebCutSpec)

/-- ITS FALSE NEIGHBOUR: 'it returns false'. Refute it at one input. -/
def lebCutWrong : ChangeSpec := { name := "lebCut", fn := fun _ => fun
  | [d1, d2] => { results := [.lit (.bool false)], args := [d1, d2] }
  | _ => none }
def LebCutWrongFalsely : Prop := lebCutRow.holds Try.pinned (OpenSpec.ofChange lebCutWrong)

/-- 'marsheslaw01.LebStays': WHATEVER THE INPUT: true; the input reads as it did. -/
def lebStaysSpec : ChangeSpec := { name := "lebStays", fn := fun _ => fun
  | [d1, d2, d3] => { results := [.lit (.bool true)], args := [d1, d2, d3] }
  | _ => none }
def lebStaysRow : OpenClaim := { program := "ytokfenogiajcgaa", sum := "aa26d922f62360e72eb8804dcf8193d20f7712ca4782bfc625c4a68d60b8a725", func := "marshes/marsheslaw01.LebStays", spec := "lebStays", unfollowed := true, recurses := true, apart := false }
def LebStaysSaid : Prop := lebStaysRow.holds Try.pinned (OpenSpec.ofChange lebStaysSpec)

/-- ITS FALSE NEIGHBOUR: 'it returns false'. Refute it at one input. -/
def lebStaysWrong : ChangeSpec := { name := "lebStays", fn := fun _ => fun
  | [d1, d2, d3] => { results := [.lit (.bool false)], args := [d1, d2, d3] }
  | _ => none }
def LebStaysWrongFalsely : Prop := lebStaysRow.holds Try.pinned (OpenSpec.ofChange lebStaysWrong)

/-- 'marsheslaw01.LebNames': WHATEVER THE INPUT: true; the input reads as it did. -/
def lebNamesSpec : ChangeSpec := { name := "lebNames", fn := fun _ => fun
  | [] => { results := [.lit (.bool true)], args := [] }
  | _ => none }
def lebNamesRow : OpenClaim := { program := "ytokfenogiajcgaa", sum := "aa26d922f62360e72eb8804dcf8193d20f7712ca4782bfc625c4a68d60b8a725", func := "marshes/marsheslaw01.LebNames", spec := "lebNames", unfollowed := true, recurses := true, apart := false }
def LebNamesSaid : Prop := lebNamesRow.holds Try.pinned (OpenSpec.ofChange lebNamesSpec)

/-- ITS FALSE NEIGHBOUR: 'it returns false'. Refute it at one input. -/
def lebNamesWrong : ChangeSpec := { name := "lebNames", fn := fun _ => fun
  | [] => { results := [.lit (.bool false)], args := [] }
  | _ => none }
def LebNamesWrongFalsely : Prop := lebNamesRow.holds Try.pinned (OpenSpec.ofChange lebNamesWrong)

/- THE SECOND FORM. 'bulk': how many values and letters a reading holds, each counted each time it is reached (what is shared counts as often as it is met; a slice's spare places count too). A statement '..UptoSaid' is the law's where the arguments, and the package variables that the reading takes, are together of bulk at most 1048576: NARROWER than '..Said'. Prove '..Said' where nothing that the law and all that it calls make is longer than what came in: it says more and counts as full. Else prove '..UptoSaid'. A law counts once. -/
mutual
def uptoBulk {H : Type} : DataW H → Nat
  | .lit (.string bytes) => bytes.length + 1
  | .lit _ => 1
  | .nil => 1
  | .ptr d => uptoBulk d + 1
  | .slice elems spare => uptoBulkAll elems + uptoBulkAll spare + 1
  | .agg parts => uptoBulkAll parts + 1
  | .iface _ d => uptoBulk d + 1
  | .map entries => uptoBulkEntries entries + 1
  | .held _ => 1
def uptoBulkAll {H : Type} : List (DataW H) → Nat
  | [] => 0
  | d :: r => uptoBulk d + uptoBulkAll r
def uptoBulkEntries {H : Type} : List (Lit × DataW H) → Nat
  | [] => 0
  | x :: r => uptoBulkEntry x + uptoBulkEntries r
def uptoBulkEntry {H : Type} : Lit × DataW H → Nat
  | (.string bytes, d) => bytes.length + uptoBulk d + 1
  | (_, d) => uptoBulk d + 1
 end
def uptoSmall : (H : Type) → List (DataW H) → Bool := fun _ ds => decide (uptoBulkAll ds ≤ 1048576)
def OpenSpec.upto (s : _root_.Go.ChangeSpec) : _root_.Go.OpenSpec := { _root_.Go.OpenSpec.ofChange s with cond := some uptoSmall }

/-- 'marsheslaw01.LebWrites', WHERE WHAT IT READS IS OF BULK AT MOST 1048576: true; the input reads as it did. -/
def lebWritesUptoRow : OpenClaim := { program := "ytokfenogiajcgaa", sum := "aa26d922f62360e72eb8804dcf8193d20f7712ca4782bfc625c4a68d60b8a725", func := "marshes/marsheslaw01.LebWrites", spec := "lebWrites", unfollowed := true, recurses := true, apart := false, narrowed := true }
def LebWritesUptoSaid : Prop := lebWritesUptoRow.holds Try.pinned (OpenSpec.upto lebWritesSpec)

/-- 'marsheslaw01.LebReads', WHERE WHAT IT READS IS OF BULK AT MOST 1048576: true; the input reads as it did. -/
def lebReadsUptoRow : OpenClaim := { program := "ytokfenogiajcgaa", sum := "aa26d922f62360e72eb8804dcf8193d20f7712ca4782bfc625c4a68d60b8a725", func := "marshes/marsheslaw01.LebReads", spec := "lebReads", unfollowed := true, recurses := true, apart := false, narrowed := true }
def LebReadsUptoSaid : Prop := lebReadsUptoRow.holds Try.pinned (OpenSpec.upto lebReadsSpec)

/-- 'marsheslaw01.LebFirst', WHERE WHAT IT READS IS OF BULK AT MOST 1048576: true; the input reads as it did. -/
def lebFirstUptoRow : OpenClaim := { program := "ytokfenogiajcgaa", sum := "aa26d922f62360e72eb8804dcf8193d20f7712ca4782bfc625c4a68d60b8a725", func := "marshes/marsheslaw01.LebFirst", spec := "lebFirst", unfollowed := true, recurses := true, apart := false, narrowed := true }
def LebFirstUptoSaid : Prop := lebFirstUptoRow.holds Try.pinned (OpenSpec.upto lebFirstSpec)

/-- 'marsheslaw01.LebBack', WHERE WHAT IT READS IS OF BULK AT MOST 1048576: true; the input reads as it did. -/
def lebBackUptoRow : OpenClaim := { program := "ytokfenogiajcgaa", sum := "aa26d922f62360e72eb8804dcf8193d20f7712ca4782bfc625c4a68d60b8a725", func := "marshes/marsheslaw01.LebBack", spec := "lebBack", unfollowed := true, recurses := true, apart := false, narrowed := true }
def LebBackUptoSaid : Prop := lebBackUptoRow.holds Try.pinned (OpenSpec.upto lebBackSpec)

/-- 'marsheslaw01.LebCut', WHERE WHAT IT READS IS OF BULK AT MOST 1048576: true; the input reads as it did. -/
def lebCutUptoRow : OpenClaim := { program := "ytokfenogiajcgaa", sum := "aa26d922f62360e72eb8804dcf8193d20f7712ca4782bfc625c4a68d60b8a725", func := "marshes/marsheslaw01.LebCut", spec := "lebCut", unfollowed := true, recurses := true, apart := false, narrowed := true }
def LebCutUptoSaid : Prop := lebCutUptoRow.holds Try.pinned (OpenSpec.upto lebCutSpec)

/-- 'marsheslaw01.LebStays', WHERE WHAT IT READS IS OF BULK AT MOST 1048576: true; the input reads as it did. -/
def lebStaysUptoRow : OpenClaim := { program := "ytokfenogiajcgaa", sum := "aa26d922f62360e72eb8804dcf8193d20f7712ca4782bfc625c4a68d60b8a725", func := "marshes/marsheslaw01.LebStays", spec := "lebStays", unfollowed := true, recurses := true, apart := false, narrowed := true }
def LebStaysUptoSaid : Prop := lebStaysUptoRow.holds Try.pinned (OpenSpec.upto lebStaysSpec)

/-- 'marsheslaw01.LebNames', WHERE WHAT IT READS IS OF BULK AT MOST 1048576: true; the input reads as it did. -/
def lebNamesUptoRow : OpenClaim := { program := "ytokfenogiajcgaa", sum := "aa26d922f62360e72eb8804dcf8193d20f7712ca4782bfc625c4a68d60b8a725", func := "marshes/marsheslaw01.LebNames", spec := "lebNames", unfollowed := true, recurses := true, apart := false, narrowed := true }
def LebNamesUptoSaid : Prop := lebNamesUptoRow.holds Try.pinned (OpenSpec.upto lebNamesSpec)

end Rows
end Go.Proofs.Ytokfenogiajcgaa
