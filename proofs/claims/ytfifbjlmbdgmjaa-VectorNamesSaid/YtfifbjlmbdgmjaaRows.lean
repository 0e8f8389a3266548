/-
  No cell of these rows narrows 'for every input' (looked for: loops, veiled, ifaces, maps, wideKeys, modest, calm, conditions, laid).
  DERIVED. THE GIVEN ROWS OF THIS SEAT. 7 by the template 'for every input the law returns true; each argument reads behind the call as it read before'; 0 by the template 'total and deterministic' (their statements: YtfifbjlmbdgmjaaTotals.lean).
  GIVEN WITH THE SEED: the statements are not yours to turn. If you find one false, say at which input.
  Laid BY PROGRAM, IN A SANDBOX (cutbox-rows.mjs): the forced cells as the released guide's own fill.sh prints them over the translation 202f2ad0644ff970… (all of the seat's roots in one cut). By AI agents, Wed Nov 11 2026. No macro, syntax, notation, axiom, sorry.
-/
import Derived.Test.YtfifbjlmbdgmjaaChecked
import GoSem.Claim
import GoSem.ClaimJoined
import GoSem.ClaimMapViews
import Derived.JoinedTies
import Derived.KernelRfl
namespace Go.Proofs.Ytfifbjlmbdgmjaa
/- THE CELL 'sum', in the pinned program and in every row, IS THE sha256 OF THE DUMP (.gsa) THAT YtfifbjlmbdgmjaaProg.lean LOADS. Nothing in Lean hashes anything: it is a label: what it is worth is what the hold of that sum in a sandbox is worth. -/
noncomputable def Try.pinned : Pinned := { name := "ytfifbjlmbdgmjaa", sum := "202f2ad0644ff97082f2c1f5e1cb6c4c2c805cefd87c700fc831e6734d679f21", checked := Try.checked }
namespace Rows
def none {H : Type} : Left H := { results := [], args := [] }

/-- 'marsheslaw06.VectorLattice': WHATEVER THE INPUT: true; the input reads as it did. -/
def vectorLatticeSpec : ChangeSpec := { name := "vectorLattice", fn := fun _ => fun
  | [d1, d2, d3] => { results := [.lit (.bool true)], args := [d1, d2, d3] }
  | _ => none }
def vectorLatticeRow : OpenClaim := { program := "ytfifbjlmbdgmjaa", sum := "202f2ad0644ff97082f2c1f5e1cb6c4c2c805cefd87c700fc831e6734d679f21", func := "marshes/marsheslaw06.VectorLattice", spec := "vectorLattice", unfollowed := true, recurses := true, apart := false }
def VectorLatticeSaid : Prop := vectorLatticeRow.holds Try.pinned (OpenSpec.ofChange vectorLatticeSpec)

/-- ITS FALSE NEIGHBOUR: 'it returns false'. Refute it at one input. -/
def vectorLatticeWrong : ChangeSpec := { name := "vectorLattice", fn := fun _ => fun
  | [d1, d2, d3] => { results := [.lit (.bool false)], args := [d1, d2, d3] }
  | _ => none }
def VectorLatticeWrongFalsely : Prop := vectorLatticeRow.holds Try.pinned (OpenSpec.ofChange vectorLatticeWrong)

/-- 'marsheslaw06.VectorStands': WHATEVER THE INPUT: true; the input reads as it did. -/
def vectorStandsSpec : ChangeSpec := { name := "vectorStands", fn := fun _ => fun
  | [d1, d2, d3] => { results := [.lit (.bool true)], args := [d1, d2, d3] }
  | _ => none }
def vectorStandsRow : OpenClaim := { program := "ytfifbjlmbdgmjaa", sum := "202f2ad0644ff97082f2c1f5e1cb6c4c2c805cefd87c700fc831e6734d679f21", func := "marshes/marsheslaw06.VectorStands", spec := "vectorStands", unfollowed := true, recurses := true, apart := false }
def VectorStandsSaid : Prop := vectorStandsRow.holds Try.pinned (OpenSpec.ofChange vectorStandsSpec)

/-- ITS FALSE NEIGHBOUR: 'it returns false'. Refute it at one input. -/
def vectorStandsWrong : ChangeSpec := { name := "vectorStands", fn := fun _ => fun
  | [d1, d2, d3] => { results := [.lit (.bool false)], args := [d1, d2, d3] }
  | _ => none }
def VectorStandsWrongFalsely : Prop := vectorStandsRow.holds Try.pinned (OpenSpec.ofChange vectorStandsWrong)

/-- 'marsheslaw06.VectorDots': WHATEVER THE INPUT: true; the input reads as it did. -/
def vectorDotsSpec : ChangeSpec := { name := "vectorDots", fn := fun _ => fun
  | [d1, d2, d3] => { results := [.lit (.bool true)], args := [d1, d2, d3] }
  | _ => none }
def vectorDotsRow : OpenClaim := { program := "ytfifbjlmbdgmjaa", sum := "202f2ad0644ff97082f2c1f5e1cb6c4c2c805cefd87c700fc831e6734d679f21", func := "marshes/marsheslaw06.VectorDots", spec := "vectorDots", unfollowed := true, recurses := true, apart := false }
def VectorDotsSaid : Prop := vectorDotsRow.holds Try.pinned (OpenSpec.ofChange vectorDotsSpec)

/-- ITS FALSE NEIGHBOUR: 'it returns false'. Refute it at one input. -/
def vectorDotsWrong : ChangeSpec := { name := "vectorDots", fn := fun _ => fun
  | [d1, d2, d3] => { results := [.lit (.bool false)], args := [d1, d2, d3] }
  | _ => none }
def VectorDotsWrongFalsely : Prop := vectorDotsRow.holds Try.pinned (OpenSpec.ofChange vectorDotsWrong)

/-- 'marsheslaw06.VectorAsks': WHATEVER THE INPUT: true; the input reads as it did. -/
def vectorAsksSpec : ChangeSpec := { name := "vectorAsks", fn := fun _ => fun
  | [d1, d2, d3, d4, d5] => { results := [.lit (.bool true)], args := [d1, d2, d3, d4, d5] }
  | _ => none }
def vectorAsksRow : OpenClaim := { program := "ytfifbjlmbdgmjaa", sum := "202f2ad0644ff97082f2c1f5e1cb6c4c2c805cefd87c700fc831e6734d679f21", func := "marshes/marsheslaw06.VectorAsks", spec := "vectorAsks", unfollowed := true, recurses := true, apart := false }
def VectorAsksSaid : Prop := vectorAsksRow.holds Try.pinned (OpenSpec.ofChange vectorAsksSpec)

/-- ITS FALSE NEIGHBOUR: 'it returns false'. Refute it at one input. -/
def vectorAsksWrong : ChangeSpec := { name := "vectorAsks", fn := fun _ => fun
  | [d1, d2, d3, d4, d5] => { results := [.lit (.bool false)], args := [d1, d2, d3, d4, d5] }
  | _ => none }
def VectorAsksWrongFalsely : Prop := vectorAsksRow.holds Try.pinned (OpenSpec.ofChange vectorAsksWrong)

/-- 'marsheslaw06.VectorForms': WHATEVER THE INPUT: true; the input reads as it did. -/
def vectorFormsSpec : ChangeSpec := { name := "vectorForms", fn := fun _ => fun
  | [d1, d2] => { results := [.lit (.bool true)], args := [d1, d2] }
  | _ => none }
def vectorFormsRow : OpenClaim := { program := "ytfifbjlmbdgmjaa", sum := "202f2ad0644ff97082f2c1f5e1cb6c4c2c805cefd87c700fc831e6734d679f21", func := "marshes/marsheslaw06.VectorForms", spec := "vectorForms", unfollowed := true, recurses := true, apart := false }
def VectorFormsSaid : Prop := vectorFormsRow.holds Try.pinned (OpenSpec.ofChange vectorFormsSpec)

/-- ITS FALSE NEIGHBOUR: 'it returns false'. Refute it at one input. -/
def vectorFormsWrong : ChangeSpec := { name := "vectorForms", fn := fun _ => fun
  | [d1, d2] => { results := [.lit (.bool false)], args := [d1, d2] }
  | _ => none }
def VectorFormsWrongFalsely : Prop := vectorFormsRow.holds Try.pinned (OpenSpec.ofChange vectorFormsWrong)

/-- 'marsheslaw06.VectorBack': WHATEVER THE INPUT: true; the input reads as it did. -/
def vectorBackSpec : ChangeSpec := { name := "vectorBack", fn := fun _ => fun
  | [d1, d2] => { results := [.lit (.bool true)], args := [d1, d2] }
  | _ => none }
def vectorBackRow : OpenClaim := { program := "ytfifbjlmbdgmjaa", sum := "202f2ad0644ff97082f2c1f5e1cb6c4c2c805cefd87c700fc831e6734d679f21", func := "marshes/marsheslaw06.VectorBack", spec := "vectorBack", unfollowed := true, recurses := true, apart := false }
def VectorBackSaid : Prop := vectorBackRow.holds Try.pinned (OpenSpec.ofChange vectorBackSpec)

/-- ITS FALSE NEIGHBOUR: 'it returns false'. Refute it at one input. -/
def vectorBackWrong : ChangeSpec := { name := "vectorBack", fn := fun _ => fun
  | [d1, d2] => { results := [.lit (.bool false)], args := [d1, d2] }
  | _ => none }
def VectorBackWrongFalsely : Prop := vectorBackRow.holds Try.pinned (OpenSpec.ofChange vectorBackWrong)

/-- 'marsheslaw06.VectorNames': WHATEVER THE INPUT: true; the input reads as it did. -/
def vectorNamesSpec : ChangeSpec := { name := "vectorNames", fn := fun _ => fun
  | [] => { results := [.lit (.bool true)], args := [] }
  | _ => none }
def vectorNamesRow : OpenClaim := { program := "ytfifbjlmbdgmjaa", sum := "202f2ad0644ff97082f2c1f5e1cb6c4c2c805cefd87c700fc831e6734d679f21", func := "marshes/marsheslaw06.VectorNames", spec := "vectorNames", unfollowed := true, recurses := true, apart := false }
def VectorNamesSaid : Prop := vectorNamesRow.holds Try.pinned (OpenSpec.ofChange vectorNamesSpec)

/-- ITS FALSE NEIGHBOUR: 'it returns false'. Refute it at one input. -/
def vectorNamesWrong : ChangeSpec := { name := "vectorNames", fn := fun _ => fun
  | [] => { results := [.lit (.bool false)], args := [] }
  | _ => none }
def VectorNamesWrongFalsely : Prop := vectorNamesRow.holds Try.pinned (OpenSpec.ofChange vectorNamesWrong)

/- THE SECOND FORM. 'bulk': how many values and letters a reading holds, each counted each time it is reached (what is shared counts as often as it is met; a slice's spare places count too). A statement '..UptoSaid' is the law's where the arguments, and the package variables that the reading takes, are together of bulk at most 1048576: NARROWER than '..Said'. Prove '..Said' where nothing that the law and all that it calls make is longer than what came in: it says more and counts as full. Else prove '..UptoSaid'. A law counts once. -/
mutual
def uptoBulk {H : Type} : DataW H → Nat
  | .lit (.string bytes) => bytes.length + 1
  | .lit _ => 1
  | .nil => 1
  | .ptr d => uptoBulk d + 1
  | .slice elems spare => uptoBulkAll elems + uptoBulkAll spare + 1
  | .agg parts => uptoBulkAll parts + 1
  | .iface _ d => uptoBulk d + 1
  | .map entries => uptoBulkEntries entries + 1
  | .held _ => 1
def uptoBulkAll {H : Type} : List (DataW H) → Nat
  | [] => 0
  | d :: r => uptoBulk d + uptoBulkAll r
def uptoBulkEntries {H : Type} : List (Lit × DataW H) → Nat
  | [] => 0
  | x :: r => uptoBulkEntry x + uptoBulkEntries r
def uptoBulkEntry {H : Type} : Lit × DataW H → Nat
  | (.string bytes, d) => bytes.length + uptoBulk d + 1
  | (_, d) => uptoBulk d + 1
 end
def uptoSmall : (H : Type) → List (DataW H) → Bool := fun _ ds => decide (uptoBulkAll ds ≤ 1048576)
def OpenSpec.upto (s : _root_.Go.ChangeSpec) : _root_.Go.OpenSpec := { _root_.Go.OpenSpec.ofChange s with cond := some uptoSmall }

/-- 'marsheslaw06.VectorLattice', WHERE WHAT IT READS IS OF BULK AT MOST 1048576: true; the input reads as it did. -/
def vectorLatticeUptoRow : OpenClaim := { program := "ytfifbjlmbdgmjaa", sum := "202f2ad0644ff97082f2c1f5e1cb6c4c2c805cefd87c700fc831e6734d679f21", func := "marshes/marsheslaw06.VectorLattice", spec := "vectorLattice", unfollowed := true, recurses := true, apart := false, narrowed := true }
def VectorLatticeUptoSaid : Prop := vectorLatticeUptoRow.holds Try.pinned (OpenSpec.upto vectorLatticeSpec)

/-- 'marsheslaw06.VectorStands', WHERE WHAT IT READS IS OF BULK AT MOST 1048576: true; the input reads as it did. -/
def vectorStandsUptoRow : OpenClaim := { program := "ytfifbjlmbdgmjaa", sum := "202f2ad0644ff97082f2c1f5e1cb6c4c2c805cefd87c700fc831e6734d679f21", func := "marshes/marsheslaw06.VectorStands", spec := "vectorStands", unfollowed := true, recurses := true, apart := false, narrowed := true }
def VectorStandsUptoSaid : Prop := vectorStandsUptoRow.holds Try.pinned (OpenSpec.upto vectorStandsSpec)

/-- 'marsheslaw06.VectorDots', WHERE WHAT IT READS IS OF BULK AT MOST 1048576: true; the input reads as it did. -/
def vectorDotsUptoRow : OpenClaim := { program := "ytfifbjlmbdgmjaa", sum := "202f2ad0644ff97082f2c1f5e1cb6c4c2c805cefd87c700fc831e6734d679f21", func := "marshes/marsheslaw06.VectorDots", spec := "vectorDots", unfollowed := true, recurses := true, apart := false, narrowed := true }
def VectorDotsUptoSaid : Prop := vectorDotsUptoRow.holds Try.pinned (OpenSpec.upto vectorDotsSpec)

/-- 'marsheslaw06.VectorAsks', WHERE WHAT IT READS IS OF BULK AT MOST 1048576: true; the input reads as it did. -/
def vectorAsksUptoRow : OpenClaim := { program := "ytfifbjlmbdgmjaa", sum := "202f2ad0644ff97082f2c1f5e1cb6c4c2c805cefd87c700fc831e6734d679f21", func := "marshes/marsheslaw06.VectorAsks", spec := "vectorAsks", unfollowed := true, recurses := true, apart := false, narrowed := true }
def VectorAsksUptoSaid : Prop := vectorAsksUptoRow.holds Try.pinned (OpenSpec.upto vectorAsksSpec)

/-- 'marsheslaw06.VectorForms', WHERE WHAT IT READS IS OF BULK AT MOST 1048576: true; the input reads as it did. -/
def vectorFormsUptoRow : OpenClaim := { program := "ytfifbjlmbdgmjaa", sum := "202f2ad0644ff97082f2c1f5e1cb6c4c2c805cefd87c700fc831e6734d679f21", func := "marshes/marsheslaw06.VectorForms", spec := "vectorForms", unfollowed := true, recurses := true, apart := false, narrowed := true }
def VectorFormsUptoSaid : Prop := vectorFormsUptoRow.holds Try.pinned (OpenSpec.upto vectorFormsSpec)

/-- 'marsheslaw06.VectorBack', WHERE WHAT IT READS IS OF BULK AT MOST 1048576: true; the input reads as it did. -/
def vectorBackUptoRow : OpenClaim := { program := "ytfifbjlmbdgmjaa", sum := "202f2ad0644ff97082f2c1f5e1cb6c4c2c805cefd87c700fc831e6734d679f21", func := "marshes/marsheslaw06.VectorBack", spec := "vectorBack", unfollowed := true, recurses := true, apart := false, narrowed := true }
def VectorBackUptoSaid : Prop := vectorBackUptoRow.holds Try.pinned (OpenSpec.upto vectorBackSpec)

/-- 'marsheslaw06.VectorNames', WHERE WHAT IT READS IS OF BULK AT MOST 1048576: true; the input reads as it did. -/
def vectorNamesUptoRow : OpenClaim := { program := "ytfifbjlmbdgmjaa", sum := "202f2ad0644ff97082f2c1f5e1cb6c4c2c805cefd87c700fc831e6734d679f21", func := "marshes/marsheslaw06.VectorNames", spec := "vectorNames", unfollowed := true, recurses := true, apart := false, narrowed := true }
def VectorNamesUptoSaid : Prop := vectorNamesUptoRow.holds Try.pinned (OpenSpec.upto vectorNamesSpec)

end Rows
end Go.Proofs.Ytfifbjlmbdgmjaa
