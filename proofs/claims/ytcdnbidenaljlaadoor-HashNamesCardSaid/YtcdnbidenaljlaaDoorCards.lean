/-
  DERIVED. GIVEN WITH THE SEED: THE CARDS: each row of YtcdnbidenaljlaaDoorRows.lean that lists a variable, with what it lists TIED to the program's text (the seventh form; the later family's looks); each row that meets fmt, with fmt's text TOLD by the authors' own Lean function (tested against real Go, not proved from fmt's source: count such statements apart). THE CARD IS WHAT COUNTS. Prove the row's statement (the work); the ties are given (YtcdnbidenaljlaaDoorTie.lean); close each card by the builder's one call (the guide's Derived/Test/ToyasCard.lean, 'card_holds'). Laid BY PROGRAM, IN A SANDBOX (cutbox-door.mjs). By AI agents, Wed Nov 11 2026. No macro, syntax, notation, axiom, sorry.
-/
import Derived.Test.YtcdnbidenaljlaaDoorRows
import GoSem.ClaimSeven
namespace Go.Proofs.YtcdnbidenaljlaaDoor
namespace Rows

/-- THE TIED CARD OF 'marsheslaw03.HashSums'. -/
def hashSumsCard : Claim7 := { stood := { row := hashSumsRow, standIns := [], harness := (true, "a78df2c2f85327a8e813573cab2c3f6d2b022011a7f411735025e7401d9ee64b"), looks := false }, kinds := [], alts := [], laidByText := true, laidKinds := [.data, .data], laidTests := true, laidLooks := .later }
def HashSumsCardSaid : Prop := Claim7.holds Tryd.pinned (.plain (OpenSpec.ofChange hashSumsSpec)) hashSumsCard

/-- THE TIED CARD OF 'marsheslaw03.HashParts'. -/
def hashPartsCard : Claim7 := { stood := { row := hashPartsRow, standIns := [], harness := (true, "a78df2c2f85327a8e813573cab2c3f6d2b022011a7f411735025e7401d9ee64b"), looks := false }, kinds := [], alts := [], laidByText := true, laidKinds := [.data, .data], laidTests := true, laidLooks := .later }
def HashPartsCardSaid : Prop := Claim7.holds Tryd.pinned (.plain (OpenSpec.ofChange hashPartsSpec)) hashPartsCard

/-- THE TIED CARD OF 'marsheslaw03.HashBack'. -/
def hashBackCard : Claim7 := { stood := { row := hashBackRow, standIns := [], harness := (true, "a78df2c2f85327a8e813573cab2c3f6d2b022011a7f411735025e7401d9ee64b"), looks := false }, kinds := [], alts := [], laidByText := true, laidKinds := [.data, .data], laidTests := true, laidLooks := .later }
def HashBackCardSaid : Prop := Claim7.holds Tryd.pinned (.plain (OpenSpec.ofChange hashBackSpec)) hashBackCard

/-- THE TIED CARD OF 'marsheslaw03.HashGroups'. -/
def hashGroupsCard : Claim7 := { stood := { row := hashGroupsRow, standIns := [], harness := (true, "a78df2c2f85327a8e813573cab2c3f6d2b022011a7f411735025e7401d9ee64b"), looks := false }, kinds := [], alts := [], laidByText := true, laidKinds := [.data, .data], laidTests := true, laidLooks := .later }
def HashGroupsCardSaid : Prop := Claim7.holds Tryd.pinned (.plain (OpenSpec.ofChange hashGroupsSpec)) hashGroupsCard

/-- THE TIED CARD OF 'marsheslaw03.HashNames'. -/
def hashNamesCard : Claim7 := { stood := { row := hashNamesRow, standIns := [], harness := (true, "a78df2c2f85327a8e813573cab2c3f6d2b022011a7f411735025e7401d9ee64b"), looks := false }, kinds := [], alts := [], laidByText := true, laidKinds := [.data, .data, .data, .pinned, .pinned], laidTests := true, laidLooks := .later }
def HashNamesCardSaid : Prop := Claim7.holds Tryd.pinned (.plain (OpenSpec.ofChange hashNamesSpec)) hashNamesCard

/-- THE SECOND FORM's CARD OF 'marsheslaw03.HashSums'. -/
def hashSumsUptoCard : Claim7 := { stood := { row := hashSumsUptoRow, standIns := [], harness := (true, "a78df2c2f85327a8e813573cab2c3f6d2b022011a7f411735025e7401d9ee64b"), looks := false }, kinds := [], alts := [], laidByText := true, laidKinds := [.data, .data], laidTests := true, laidLooks := .later }
def HashSumsUptoCardSaid : Prop := Claim7.holds Tryd.pinned (.plain (OpenSpec.upto hashSumsSpec)) hashSumsUptoCard

/-- THE SECOND FORM's CARD OF 'marsheslaw03.HashParts'. -/
def hashPartsUptoCard : Claim7 := { stood := { row := hashPartsUptoRow, standIns := [], harness := (true, "a78df2c2f85327a8e813573cab2c3f6d2b022011a7f411735025e7401d9ee64b"), looks := false }, kinds := [], alts := [], laidByText := true, laidKinds := [.data, .data], laidTests := true, laidLooks := .later }
def HashPartsUptoCardSaid : Prop := Claim7.holds Tryd.pinned (.plain (OpenSpec.upto hashPartsSpec)) hashPartsUptoCard

/-- THE SECOND FORM's CARD OF 'marsheslaw03.HashBack'. -/
def hashBackUptoCard : Claim7 := { stood := { row := hashBackUptoRow, standIns := [], harness := (true, "a78df2c2f85327a8e813573cab2c3f6d2b022011a7f411735025e7401d9ee64b"), looks := false }, kinds := [], alts := [], laidByText := true, laidKinds := [.data, .data], laidTests := true, laidLooks := .later }
def HashBackUptoCardSaid : Prop := Claim7.holds Tryd.pinned (.plain (OpenSpec.upto hashBackSpec)) hashBackUptoCard

/-- THE SECOND FORM's CARD OF 'marsheslaw03.HashGroups'. -/
def hashGroupsUptoCard : Claim7 := { stood := { row := hashGroupsUptoRow, standIns := [], harness := (true, "a78df2c2f85327a8e813573cab2c3f6d2b022011a7f411735025e7401d9ee64b"), looks := false }, kinds := [], alts := [], laidByText := true, laidKinds := [.data, .data], laidTests := true, laidLooks := .later }
def HashGroupsUptoCardSaid : Prop := Claim7.holds Tryd.pinned (.plain (OpenSpec.upto hashGroupsSpec)) hashGroupsUptoCard

/-- THE SECOND FORM's CARD OF 'marsheslaw03.HashNames'. -/
def hashNamesUptoCard : Claim7 := { stood := { row := hashNamesUptoRow, standIns := [], harness := (true, "a78df2c2f85327a8e813573cab2c3f6d2b022011a7f411735025e7401d9ee64b"), looks := false }, kinds := [], alts := [], laidByText := true, laidKinds := [.data, .data, .data, .pinned, .pinned], laidTests := true, laidLooks := .later }
def HashNamesUptoCardSaid : Prop := Claim7.holds Tryd.pinned (.plain (OpenSpec.upto hashNamesSpec)) hashNamesUptoCard
end Rows
end Go.Proofs.YtcdnbidenaljlaaDoor
