/-
  NARROWER THAN 'FOR EVERY INPUT', by the rows' own cells (each row's printed sentence says how): RefnameRules: laid · RefnameConflicts: laid · RefnameApart: laid · RefnameSplits: laid · RefnameParts: laid · RefnameNames: laid.
  DERIVED. THE GIVEN ROWS OF THIS SEAT. 6 by the template 'for every input the law returns true; each argument reads behind the call as it read before'; 0 by the template 'total and deterministic' (their statements: YtmfncojkpkoijaaDoorTotals.lean).
  GIVEN WITH THE SEED: the statements are not yours to turn. If you find one false, say at which input.
  Laid BY PROGRAM, IN A SANDBOX (cutbox-rows.mjs): the forced cells as the released guide's own fill.sh prints them over the translation f60c1c41277eba02… (all of the seat's roots in one cut). By AI agents, Wed Nov 11 2026. No macro, syntax, notation, axiom, sorry.
-/
import Derived.Test.YtmfncojkpkoijaaDoorChecked
import GoSem.PinnedTables
import GoSem.Claim
import GoSem.ClaimJoined
import GoSem.ClaimMapViews
import Derived.JoinedTies
import Derived.KernelRfl
namespace Go.Proofs.YtmfncojkpkoijaaDoor
/- THE CELL 'sum', in the pinned program and in every row, IS THE sha256 OF THE DUMP (.gsa) THAT YtmfncojkpkoijaaDoorProg.lean LOADS. Nothing in Lean hashes anything: it is a label: what it is worth is what the hold of that sum in a sandbox is worth. -/
noncomputable def Tryd.pinned : Pinned := { name := "ytmfncojkpkoijaadoor", sum := "f60c1c41277eba02624c6daf0288c461ec4e1c28764a269e6b888f6195e338de", checked := Tryd.checked }
namespace Rows
def none {H : Type} : Left H := { results := [], args := [] }

/- WHAT THE LISTED PACKAGE-LEVEL VARIABLES READ AS WHEN THE CALL BEGINS. Each datum BY PROGRAM (the guide's laid-datum.mjs) off the statement by which the dump's own 'gosem.cut.vars' lays the variable. In a bare row this is a premise. The card (YtmfncojkpkoijaaDoorCards.lean) ties it to the program's text. -/
def laid_unicode_utf8_acceptRanges {H : Type} : DataW H := .agg [.agg [.lit (.int .u8 128), .lit (.int .u8 191)], .agg [.lit (.int .u8 160), .lit (.int .u8 191)], .agg [.lit (.int .u8 128), .lit (.int .u8 159)], .agg [.lit (.int .u8 144), .lit (.int .u8 191)], .agg [.lit (.int .u8 128), .lit (.int .u8 143)], .agg [.lit (.int .u8 0), .lit (.int .u8 0)], .agg [.lit (.int .u8 0), .lit (.int .u8 0)], .agg [.lit (.int .u8 0), .lit (.int .u8 0)], .agg [.lit (.int .u8 0), .lit (.int .u8 0)], .agg [.lit (.int .u8 0), .lit (.int .u8 0)], .agg [.lit (.int .u8 0), .lit (.int .u8 0)], .agg [.lit (.int .u8 0), .lit (.int .u8 0)], .agg [.lit (.int .u8 0), .lit (.int .u8 0)], .agg [.lit (.int .u8 0), .lit (.int .u8 0)], .agg [.lit (.int .u8 0), .lit (.int .u8 0)], .agg [.lit (.int .u8 0), .lit (.int .u8 0)]]
/-- One of Go's own tables, pinned by name: the form's constant. -/
def laid_unicode_utf8_first : DataW Unit := Go.Pinned.utf8First
/-- One of Go's own tables, pinned by name: the form's constant. -/
def laid_unicode_CaseRanges : DataW Unit := Go.Pinned.caseRanges

/-- 'marsheslaw04.RefnameRules': WHATEVER THE INPUT: true; the input reads as it did. -/
def refnameRulesSpec : ChangeSpec := { name := "refnameRules", fn := fun _ => fun
  | [d1, d2] => { results := [.lit (.bool true)], args := [d1, d2] }
  | _ => none }
def refnameRulesRow : OpenClaim := { program := "ytmfncojkpkoijaadoor", sum := "f60c1c41277eba02624c6daf0288c461ec4e1c28764a269e6b888f6195e338de", func := "marshes/marsheslaw04.RefnameRules", spec := "refnameRules", inPlace := ["internal/bytealg.IndexByteString", "internal/bytealg.IndexString", "internal/bytealg.CountString"], unfollowed := true, recurses := true, named := ["internal/bytealg.MaxLen", "unicode/utf8.first", "unicode/utf8.acceptRanges"], apart := false, laid := [("unicode/utf8.acceptRanges", laid_unicode_utf8_acceptRanges), ("unicode/utf8.first", laid_unicode_utf8_first)] }
def RefnameRulesSaid : Prop := refnameRulesRow.holds Tryd.pinned (OpenSpec.ofChange refnameRulesSpec)

/-- ITS FALSE NEIGHBOUR: 'it returns false'. Refute it at one input. -/
def refnameRulesWrong : ChangeSpec := { name := "refnameRules", fn := fun _ => fun
  | [d1, d2] => { results := [.lit (.bool false)], args := [d1, d2] }
  | _ => none }
def RefnameRulesWrongFalsely : Prop := refnameRulesRow.holds Tryd.pinned (OpenSpec.ofChange refnameRulesWrong)

/-- 'marsheslaw04.RefnameConflicts': WHATEVER THE INPUT: true; the input reads as it did. -/
def refnameConflictsSpec : ChangeSpec := { name := "refnameConflicts", fn := fun _ => fun
  | [d1, d2, d3] => { results := [.lit (.bool true)], args := [d1, d2, d3] }
  | _ => none }
def refnameConflictsRow : OpenClaim := { program := "ytmfncojkpkoijaadoor", sum := "f60c1c41277eba02624c6daf0288c461ec4e1c28764a269e6b888f6195e338de", func := "marshes/marsheslaw04.RefnameConflicts", spec := "refnameConflicts", inPlace := ["internal/bytealg.IndexByteString", "internal/bytealg.IndexString", "internal/bytealg.CountString", "internal/bytealg.IndexByte"], unfollowed := true, recurses := true, named := ["internal/bytealg.MaxLen", "unicode/utf8.first", "unicode/utf8.acceptRanges"], apart := false, laid := [("unicode/utf8.acceptRanges", laid_unicode_utf8_acceptRanges), ("unicode/utf8.first", laid_unicode_utf8_first)] }
def RefnameConflictsSaid : Prop := refnameConflictsRow.holds Tryd.pinned (OpenSpec.ofChange refnameConflictsSpec)

/-- ITS FALSE NEIGHBOUR: 'it returns false'. Refute it at one input. -/
def refnameConflictsWrong : ChangeSpec := { name := "refnameConflicts", fn := fun _ => fun
  | [d1, d2, d3] => { results := [.lit (.bool false)], args := [d1, d2, d3] }
  | _ => none }
def RefnameConflictsWrongFalsely : Prop := refnameConflictsRow.holds Tryd.pinned (OpenSpec.ofChange refnameConflictsWrong)

/-- 'marsheslaw04.RefnameApart': WHATEVER THE INPUT: true; the input reads as it did. -/
def refnameApartSpec : ChangeSpec := { name := "refnameApart", fn := fun _ => fun
  | [d1, d2, d3, d4] => { results := [.lit (.bool true)], args := [d1, d2, d3, d4] }
  | _ => none }
def refnameApartRow : OpenClaim := { program := "ytmfncojkpkoijaadoor", sum := "f60c1c41277eba02624c6daf0288c461ec4e1c28764a269e6b888f6195e338de", func := "marshes/marsheslaw04.RefnameApart", spec := "refnameApart", inPlace := ["internal/bytealg.IndexByteString", "internal/bytealg.IndexString", "internal/bytealg.CountString", "internal/bytealg.IndexByte"], unfollowed := true, recurses := true, named := ["internal/bytealg.MaxLen", "unicode/utf8.first", "unicode/utf8.acceptRanges"], apart := false, laid := [("unicode/utf8.acceptRanges", laid_unicode_utf8_acceptRanges), ("unicode/utf8.first", laid_unicode_utf8_first)] }
def RefnameApartSaid : Prop := refnameApartRow.holds Tryd.pinned (OpenSpec.ofChange refnameApartSpec)

/-- ITS FALSE NEIGHBOUR: 'it returns false'. Refute it at one input. -/
def refnameApartWrong : ChangeSpec := { name := "refnameApart", fn := fun _ => fun
  | [d1, d2, d3, d4] => { results := [.lit (.bool false)], args := [d1, d2, d3, d4] }
  | _ => none }
def RefnameApartWrongFalsely : Prop := refnameApartRow.holds Tryd.pinned (OpenSpec.ofChange refnameApartWrong)

/-- 'marsheslaw04.RefnameSplits': WHATEVER THE INPUT: true; the input reads as it did. -/
def refnameSplitsSpec : ChangeSpec := { name := "refnameSplits", fn := fun _ => fun
  | [d] => { results := [.lit (.bool true)], args := [d] }
  | _ => none }
def refnameSplitsRow : OpenClaim := { program := "ytmfncojkpkoijaadoor", sum := "f60c1c41277eba02624c6daf0288c461ec4e1c28764a269e6b888f6195e338de", func := "marshes/marsheslaw04.RefnameSplits", spec := "refnameSplits", inPlace := ["internal/bytealg.IndexByteString", "internal/bytealg.IndexString", "internal/bytealg.CountString", "internal/bytealg.IndexByte"], unfollowed := true, recurses := true, named := ["internal/bytealg.MaxLen", "unicode/utf8.first", "unicode/utf8.acceptRanges"], apart := false, laid := [("unicode/utf8.acceptRanges", laid_unicode_utf8_acceptRanges), ("unicode/utf8.first", laid_unicode_utf8_first)] }
def RefnameSplitsSaid : Prop := refnameSplitsRow.holds Tryd.pinned (OpenSpec.ofChange refnameSplitsSpec)

/-- ITS FALSE NEIGHBOUR: 'it returns false'. Refute it at one input. -/
def refnameSplitsWrong : ChangeSpec := { name := "refnameSplits", fn := fun _ => fun
  | [d] => { results := [.lit (.bool false)], args := [d] }
  | _ => none }
def RefnameSplitsWrongFalsely : Prop := refnameSplitsRow.holds Tryd.pinned (OpenSpec.ofChange refnameSplitsWrong)

/-- 'marsheslaw04.RefnameParts': WHATEVER THE INPUT: true; the input reads as it did. -/
def refnamePartsSpec : ChangeSpec := { name := "refnameParts", fn := fun _ => fun
  | [d] => { results := [.lit (.bool true)], args := [d] }
  | _ => none }
def refnamePartsRow : OpenClaim := { program := "ytmfncojkpkoijaadoor", sum := "f60c1c41277eba02624c6daf0288c461ec4e1c28764a269e6b888f6195e338de", func := "marshes/marsheslaw04.RefnameParts", spec := "refnameParts", inPlace := ["internal/bytealg.IndexByteString", "internal/bytealg.IndexString", "internal/bytealg.CountString", "internal/abi.NoEscape", "internal/bytealg.MakeNoZero"], unfollowed := true, recurses := true, named := ["internal/bytealg.MaxLen", "unicode/utf8.first", "unicode/utf8.acceptRanges"], apart := false, laid := [("unicode/utf8.acceptRanges", laid_unicode_utf8_acceptRanges), ("unicode/utf8.first", laid_unicode_utf8_first)] }
def RefnamePartsSaid : Prop := refnamePartsRow.holds Tryd.pinned (OpenSpec.ofChange refnamePartsSpec)

/-- ITS FALSE NEIGHBOUR: 'it returns false'. Refute it at one input. -/
def refnamePartsWrong : ChangeSpec := { name := "refnameParts", fn := fun _ => fun
  | [d] => { results := [.lit (.bool false)], args := [d] }
  | _ => none }
def RefnamePartsWrongFalsely : Prop := refnamePartsRow.holds Tryd.pinned (OpenSpec.ofChange refnamePartsWrong)

/-- 'marsheslaw04.RefnameNames': WHATEVER THE INPUT: true; the input reads as it did. -/
def refnameNamesSpec : ChangeSpec := { name := "refnameNames", fn := fun _ => fun
  | [] => { results := [.lit (.bool true)], args := [] }
  | _ => none }
def refnameNamesRow : OpenClaim := { program := "ytmfncojkpkoijaadoor", sum := "f60c1c41277eba02624c6daf0288c461ec4e1c28764a269e6b888f6195e338de", func := "marshes/marsheslaw04.RefnameNames", spec := "refnameNames", inPlace := ["internal/abi.NoEscape", "internal/bytealg.MakeNoZero", "internal/bytealg.IndexByteString", "internal/bytealg.IndexString", "internal/bytealg.CountString", "internal/bytealg.IndexByte"], unfollowed := true, recurses := true, named := ["internal/bytealg.MaxLen", "unicode/utf8.first", "unicode/utf8.acceptRanges", "unicode.CaseRanges"], apart := false, laid := [("unicode/utf8.acceptRanges", laid_unicode_utf8_acceptRanges), ("unicode.CaseRanges", laid_unicode_CaseRanges), ("unicode/utf8.first", laid_unicode_utf8_first)] }
def RefnameNamesSaid : Prop := refnameNamesRow.holds Tryd.pinned (OpenSpec.ofChange refnameNamesSpec)

/-- ITS FALSE NEIGHBOUR: 'it returns false'. Refute it at one input. -/
def refnameNamesWrong : ChangeSpec := { name := "refnameNames", fn := fun _ => fun
  | [] => { results := [.lit (.bool false)], args := [] }
  | _ => none }
def RefnameNamesWrongFalsely : Prop := refnameNamesRow.holds Tryd.pinned (OpenSpec.ofChange refnameNamesWrong)

/- THE SECOND FORM. 'bulk': how many values and letters a reading holds, each counted each time it is reached (what is shared counts as often as it is met; a slice's spare places count too). A statement '..UptoSaid' is the law's where the arguments, and the package variables that the reading takes, are together of bulk at most 1048576: NARROWER than '..Said'. Prove '..Said' where nothing that the law and all that it calls make is longer than what came in: it says more and counts as full. Else prove '..UptoSaid'. A law counts once. -/
mutual
def uptoBulk {H : Type} : DataW H → Nat
  | .lit (.string bytes) => bytes.length + 1
  | .lit _ => 1
  | .nil => 1
  | .ptr d => uptoBulk d + 1
  | .slice elems spare => uptoBulkAll elems + uptoBulkAll spare + 1
  | .agg parts => uptoBulkAll parts + 1
  | .iface _ d => uptoBulk d + 1
  | .map entries => uptoBulkEntries entries + 1
  | .held _ => 1
def uptoBulkAll {H : Type} : List (DataW H) → Nat
  | [] => 0
  | d :: r => uptoBulk d + uptoBulkAll r
def uptoBulkEntries {H : Type} : List (Lit × DataW H) → Nat
  | [] => 0
  | x :: r => uptoBulkEntry x + uptoBulkEntries r
def uptoBulkEntry {H : Type} : Lit × DataW H → Nat
  | (.string bytes, d) => bytes.length + uptoBulk d + 1
  | (_, d) => uptoBulk d + 1
 end
def uptoSmall : (H : Type) → List (DataW H) → Bool := fun _ ds => decide (uptoBulkAll ds ≤ 1048576)
def OpenSpec.upto (s : _root_.Go.ChangeSpec) : _root_.Go.OpenSpec := { _root_.Go.OpenSpec.ofChange s with cond := some uptoSmall }

/-- 'marsheslaw04.RefnameRules', WHERE WHAT IT READS IS OF BULK AT MOST 1048576: true; the input reads as it did. -/
def refnameRulesUptoRow : OpenClaim := { program := "ytmfncojkpkoijaadoor", sum := "f60c1c41277eba02624c6daf0288c461ec4e1c28764a269e6b888f6195e338de", func := "marshes/marsheslaw04.RefnameRules", spec := "refnameRules", inPlace := ["internal/bytealg.IndexByteString", "internal/bytealg.IndexString", "internal/bytealg.CountString"], unfollowed := true, recurses := true, named := ["internal/bytealg.MaxLen", "unicode/utf8.first", "unicode/utf8.acceptRanges"], apart := false, laid := [("unicode/utf8.acceptRanges", laid_unicode_utf8_acceptRanges), ("unicode/utf8.first", laid_unicode_utf8_first)], narrowed := true }
def RefnameRulesUptoSaid : Prop := refnameRulesUptoRow.holds Tryd.pinned (OpenSpec.upto refnameRulesSpec)

/-- 'marsheslaw04.RefnameConflicts', WHERE WHAT IT READS IS OF BULK AT MOST 1048576: true; the input reads as it did. -/
def refnameConflictsUptoRow : OpenClaim := { program := "ytmfncojkpkoijaadoor", sum := "f60c1c41277eba02624c6daf0288c461ec4e1c28764a269e6b888f6195e338de", func := "marshes/marsheslaw04.RefnameConflicts", spec := "refnameConflicts", inPlace := ["internal/bytealg.IndexByteString", "internal/bytealg.IndexString", "internal/bytealg.CountString", "internal/bytealg.IndexByte"], unfollowed := true, recurses := true, named := ["internal/bytealg.MaxLen", "unicode/utf8.first", "unicode/utf8.acceptRanges"], apart := false, laid := [("unicode/utf8.acceptRanges", laid_unicode_utf8_acceptRanges), ("unicode/utf8.first", laid_unicode_utf8_first)], narrowed := true }
def RefnameConflictsUptoSaid : Prop := refnameConflictsUptoRow.holds Tryd.pinned (OpenSpec.upto refnameConflictsSpec)

/-- 'marsheslaw04.RefnameApart', WHERE WHAT IT READS IS OF BULK AT MOST 1048576: true; the input reads as it did. -/
def refnameApartUptoRow : OpenClaim := { program := "ytmfncojkpkoijaadoor", sum := "f60c1c41277eba02624c6daf0288c461ec4e1c28764a269e6b888f6195e338de", func := "marshes/marsheslaw04.RefnameApart", spec := "refnameApart", inPlace := ["internal/bytealg.IndexByteString", "internal/bytealg.IndexString", "internal/bytealg.CountString", "internal/bytealg.IndexByte"], unfollowed := true, recurses := true, named := ["internal/bytealg.MaxLen", "unicode/utf8.first", "unicode/utf8.acceptRanges"], apart := false, laid := [("unicode/utf8.acceptRanges", laid_unicode_utf8_acceptRanges), ("unicode/utf8.first", laid_unicode_utf8_first)], narrowed := true }
def RefnameApartUptoSaid : Prop := refnameApartUptoRow.holds Tryd.pinned (OpenSpec.upto refnameApartSpec)

/-- 'marsheslaw04.RefnameSplits', WHERE WHAT IT READS IS OF BULK AT MOST 1048576: true; the input reads as it did. -/
def refnameSplitsUptoRow : OpenClaim := { program := "ytmfncojkpkoijaadoor", sum := "f60c1c41277eba02624c6daf0288c461ec4e1c28764a269e6b888f6195e338de", func := "marshes/marsheslaw04.RefnameSplits", spec := "refnameSplits", inPlace := ["internal/bytealg.IndexByteString", "internal/bytealg.IndexString", "internal/bytealg.CountString", "internal/bytealg.IndexByte"], unfollowed := true, recurses := true, named := ["internal/bytealg.MaxLen", "unicode/utf8.first", "unicode/utf8.acceptRanges"], apart := false, laid := [("unicode/utf8.acceptRanges", laid_unicode_utf8_acceptRanges), ("unicode/utf8.first", laid_unicode_utf8_first)], narrowed := true }
def RefnameSplitsUptoSaid : Prop := refnameSplitsUptoRow.holds Tryd.pinned (OpenSpec.upto refnameSplitsSpec)

/-- 'marsheslaw04.RefnameParts', WHERE WHAT IT READS IS OF BULK AT MOST 1048576: true; the input reads as it did. -/
def refnamePartsUptoRow : OpenClaim := { program := "ytmfncojkpkoijaadoor", sum := "f60c1c41277eba02624c6daf0288c461ec4e1c28764a269e6b888f6195e338de", func := "marshes/marsheslaw04.RefnameParts", spec := "refnameParts", inPlace := ["internal/bytealg.IndexByteString", "internal/bytealg.IndexString", "internal/bytealg.CountString", "internal/abi.NoEscape", "internal/bytealg.MakeNoZero"], unfollowed := true, recurses := true, named := ["internal/bytealg.MaxLen", "unicode/utf8.first", "unicode/utf8.acceptRanges"], apart := false, laid := [("unicode/utf8.acceptRanges", laid_unicode_utf8_acceptRanges), ("unicode/utf8.first", laid_unicode_utf8_first)], narrowed := true }
def RefnamePartsUptoSaid : Prop := refnamePartsUptoRow.holds Tryd.pinned (OpenSpec.upto refnamePartsSpec)

/-- 'marsheslaw04.RefnameNames', WHERE WHAT IT READS IS OF BULK AT MOST 1048576: true; the input reads as it did. -/
def refnameNamesUptoRow : OpenClaim := { program := "ytmfncojkpkoijaadoor", sum := "f60c1c41277eba02624c6daf0288c461ec4e1c28764a269e6b888f6195e338de", func := "marshes/marsheslaw04.RefnameNames", spec := "refnameNames", inPlace := ["internal/abi.NoEscape", "internal/bytealg.MakeNoZero", "internal/bytealg.IndexByteString", "internal/bytealg.IndexString", "internal/bytealg.CountString", "internal/bytealg.IndexByte"], unfollowed := true, recurses := true, named := ["internal/bytealg.MaxLen", "unicode/utf8.first", "unicode/utf8.acceptRanges", "unicode.CaseRanges"], apart := false, laid := [("unicode/utf8.acceptRanges", laid_unicode_utf8_acceptRanges), ("unicode.CaseRanges", laid_unicode_CaseRanges), ("unicode/utf8.first", laid_unicode_utf8_first)], narrowed := true }
def RefnameNamesUptoSaid : Prop := refnameNamesUptoRow.holds Tryd.pinned (OpenSpec.upto refnameNamesSpec)

end Rows
end Go.Proofs.YtmfncojkpkoijaaDoor
