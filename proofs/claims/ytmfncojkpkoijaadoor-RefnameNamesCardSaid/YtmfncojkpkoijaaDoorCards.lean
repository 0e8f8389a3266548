/-
  DERIVED. GIVEN WITH THE SEED: THE CARDS: each row of YtmfncojkpkoijaaDoorRows.lean that lists a variable, with what it lists TIED to the program's text (the seventh form; the later family's looks); each row that meets fmt, with fmt's text TOLD by the authors' own Lean function (tested against real Go, not proved from fmt's source: count such statements apart). THE CARD IS WHAT COUNTS. Prove the row's statement (the work); the ties are given (YtmfncojkpkoijaaDoorTie.lean); close each card by the builder's one call (the guide's Derived/Test/ToyasCard.lean, 'card_holds'). Laid BY PROGRAM, IN A SANDBOX (cutbox-door.mjs). By AI agents, Wed Nov 11 2026. No macro, syntax, notation, axiom, sorry.
-/
import Derived.Test.YtmfncojkpkoijaaDoorRows
import GoSem.ClaimSeven
namespace Go.Proofs.YtmfncojkpkoijaaDoor
namespace Rows

/-- THE TIED CARD OF 'marsheslaw04.RefnameRules'. -/
def refnameRulesCard : Claim7 := { stood := { row := refnameRulesRow, standIns := [], harness := (true, "66bca3f7cffe4ba164c9da81ff84213444f28b9fd1c0a3105a76e615d34768b8"), looks := false }, kinds := [], alts := [], laidByText := true, laidKinds := [.data, .pinned], laidTests := true, laidLooks := .later }
def RefnameRulesCardSaid : Prop := Claim7.holds Tryd.pinned (.plain (OpenSpec.ofChange refnameRulesSpec)) refnameRulesCard

/-- THE TIED CARD OF 'marsheslaw04.RefnameConflicts'. -/
def refnameConflictsCard : Claim7 := { stood := { row := refnameConflictsRow, standIns := [], harness := (true, "66bca3f7cffe4ba164c9da81ff84213444f28b9fd1c0a3105a76e615d34768b8"), looks := false }, kinds := [], alts := [], laidByText := true, laidKinds := [.data, .pinned], laidTests := true, laidLooks := .later }
def RefnameConflictsCardSaid : Prop := Claim7.holds Tryd.pinned (.plain (OpenSpec.ofChange refnameConflictsSpec)) refnameConflictsCard

/-- THE TIED CARD OF 'marsheslaw04.RefnameApart'. -/
def refnameApartCard : Claim7 := { stood := { row := refnameApartRow, standIns := [], harness := (true, "66bca3f7cffe4ba164c9da81ff84213444f28b9fd1c0a3105a76e615d34768b8"), looks := false }, kinds := [], alts := [], laidByText := true, laidKinds := [.data, .pinned], laidTests := true, laidLooks := .later }
def RefnameApartCardSaid : Prop := Claim7.holds Tryd.pinned (.plain (OpenSpec.ofChange refnameApartSpec)) refnameApartCard

/-- THE TIED CARD OF 'marsheslaw04.RefnameSplits'. -/
def refnameSplitsCard : Claim7 := { stood := { row := refnameSplitsRow, standIns := [], harness := (true, "66bca3f7cffe4ba164c9da81ff84213444f28b9fd1c0a3105a76e615d34768b8"), looks := false }, kinds := [], alts := [], laidByText := true, laidKinds := [.data, .pinned], laidTests := true, laidLooks := .later }
def RefnameSplitsCardSaid : Prop := Claim7.holds Tryd.pinned (.plain (OpenSpec.ofChange refnameSplitsSpec)) refnameSplitsCard

/-- THE TIED CARD OF 'marsheslaw04.RefnameParts'. -/
def refnamePartsCard : Claim7 := { stood := { row := refnamePartsRow, standIns := [], harness := (true, "66bca3f7cffe4ba164c9da81ff84213444f28b9fd1c0a3105a76e615d34768b8"), looks := false }, kinds := [], alts := [], laidByText := true, laidKinds := [.data, .pinned], laidTests := true, laidLooks := .later }
def RefnamePartsCardSaid : Prop := Claim7.holds Tryd.pinned (.plain (OpenSpec.ofChange refnamePartsSpec)) refnamePartsCard

/-- THE TIED CARD OF 'marsheslaw04.RefnameNames'. -/
def refnameNamesCard : Claim7 := { stood := { row := refnameNamesRow, standIns := [], harness := (true, "66bca3f7cffe4ba164c9da81ff84213444f28b9fd1c0a3105a76e615d34768b8"), looks := false }, kinds := [], alts := [], laidByText := true, laidKinds := [.data, .pinned, .pinned], laidTests := true, laidLooks := .later }
def RefnameNamesCardSaid : Prop := Claim7.holds Tryd.pinned (.plain (OpenSpec.ofChange refnameNamesSpec)) refnameNamesCard

/-- THE SECOND FORM's CARD OF 'marsheslaw04.RefnameRules'. -/
def refnameRulesUptoCard : Claim7 := { stood := { row := refnameRulesUptoRow, standIns := [], harness := (true, "66bca3f7cffe4ba164c9da81ff84213444f28b9fd1c0a3105a76e615d34768b8"), looks := false }, kinds := [], alts := [], laidByText := true, laidKinds := [.data, .pinned], laidTests := true, laidLooks := .later }
def RefnameRulesUptoCardSaid : Prop := Claim7.holds Tryd.pinned (.plain (OpenSpec.upto refnameRulesSpec)) refnameRulesUptoCard

/-- THE SECOND FORM's CARD OF 'marsheslaw04.RefnameConflicts'. -/
def refnameConflictsUptoCard : Claim7 := { stood := { row := refnameConflictsUptoRow, standIns := [], harness := (true, "66bca3f7cffe4ba164c9da81ff84213444f28b9fd1c0a3105a76e615d34768b8"), looks := false }, kinds := [], alts := [], laidByText := true, laidKinds := [.data, .pinned], laidTests := true, laidLooks := .later }
def RefnameConflictsUptoCardSaid : Prop := Claim7.holds Tryd.pinned (.plain (OpenSpec.upto refnameConflictsSpec)) refnameConflictsUptoCard

/-- THE SECOND FORM's CARD OF 'marsheslaw04.RefnameApart'. -/
def refnameApartUptoCard : Claim7 := { stood := { row := refnameApartUptoRow, standIns := [], harness := (true, "66bca3f7cffe4ba164c9da81ff84213444f28b9fd1c0a3105a76e615d34768b8"), looks := false }, kinds := [], alts := [], laidByText := true, laidKinds := [.data, .pinned], laidTests := true, laidLooks := .later }
def RefnameApartUptoCardSaid : Prop := Claim7.holds Tryd.pinned (.plain (OpenSpec.upto refnameApartSpec)) refnameApartUptoCard

/-- THE SECOND FORM's CARD OF 'marsheslaw04.RefnameSplits'. -/
def refnameSplitsUptoCard : Claim7 := { stood := { row := refnameSplitsUptoRow, standIns := [], harness := (true, "66bca3f7cffe4ba164c9da81ff84213444f28b9fd1c0a3105a76e615d34768b8"), looks := false }, kinds := [], alts := [], laidByText := true, laidKinds := [.data, .pinned], laidTests := true, laidLooks := .later }
def RefnameSplitsUptoCardSaid : Prop := Claim7.holds Tryd.pinned (.plain (OpenSpec.upto refnameSplitsSpec)) refnameSplitsUptoCard

/-- THE SECOND FORM's CARD OF 'marsheslaw04.RefnameParts'. -/
def refnamePartsUptoCard : Claim7 := { stood := { row := refnamePartsUptoRow, standIns := [], harness := (true, "66bca3f7cffe4ba164c9da81ff84213444f28b9fd1c0a3105a76e615d34768b8"), looks := false }, kinds := [], alts := [], laidByText := true, laidKinds := [.data, .pinned], laidTests := true, laidLooks := .later }
def RefnamePartsUptoCardSaid : Prop := Claim7.holds Tryd.pinned (.plain (OpenSpec.upto refnamePartsSpec)) refnamePartsUptoCard

/-- THE SECOND FORM's CARD OF 'marsheslaw04.RefnameNames'. -/
def refnameNamesUptoCard : Claim7 := { stood := { row := refnameNamesUptoRow, standIns := [], harness := (true, "66bca3f7cffe4ba164c9da81ff84213444f28b9fd1c0a3105a76e615d34768b8"), looks := false }, kinds := [], alts := [], laidByText := true, laidKinds := [.data, .pinned, .pinned], laidTests := true, laidLooks := .later }
def RefnameNamesUptoCardSaid : Prop := Claim7.holds Tryd.pinned (.plain (OpenSpec.upto refnameNamesSpec)) refnameNamesUptoCard
end Rows
end Go.Proofs.YtmfncojkpkoijaaDoor
