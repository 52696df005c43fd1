/-
  DERIVED. GIVEN WITH THE SEED: THE CARDS: each row of YtodeldmdbeocfaaGreatDoorRows.lean that lists a variable, with what it lists TIED to the program's text (the seventh form; the later family's looks); each row that meets fmt, with fmt's text TOLD by the authors' own Lean function (tested against real Go, not proved from fmt's source: count such statements apart). THE CARD IS WHAT COUNTS. Prove the row's statement (the work); the ties are given (YtodeldmdbeocfaaGreatDoorTie.lean); close each card by the builder's one call (the guide's Derived/Test/ToyasCard.lean, 'card_holds'). Laid BY PROGRAM, IN A SANDBOX (cutbox-door.mjs). By AI agents, Wed Nov 11 2026. No macro, syntax, notation, axiom, sorry.
-/
import Derived.Test.YtodeldmdbeocfaaGreatDoorRows
import GoSem.ClaimSeven
namespace Go.Proofs.YtodeldmdbeocfaaGreatDoor
namespace Rows

/-- THE TIED CARD OF 'trellislaw5.NumberPrints'. -/
def numberPrintsCard : Claim7 := { stood := { row := numberPrintsRow, standIns := [], harness := (true, "454ca8f2601a4160a54075a546b2ecd3d6f63c7d2d74609242878239d938827e"), looks := true }, kinds := [], alts := [], laidByText := true, laidKinds := [.data, .data, .widerDeep, .widerDeep, .data, .data, .data, .data, .data, .data, .sentinel, .sentinel, .pinned, .pinned, .pinned], laidTests := true, laidLooks := .later }
def NumberPrintsCardSaid : Prop := Claim7.holds Tryz.pinned (.plain (OpenSpec.ofChange numberPrintsSpec)) numberPrintsCard

/-- THE TIED CARD OF 'trellislaw5.NumberReads'. -/
def numberReadsCard : Claim7 := { stood := { row := numberReadsRow, standIns := [], harness := (true, "454ca8f2601a4160a54075a546b2ecd3d6f63c7d2d74609242878239d938827e"), looks := true }, kinds := [], alts := [], laidByText := true, laidKinds := [.data, .data, .widerDeep, .widerDeep, .data, .data, .data, .data, .data, .data, .sentinel, .sentinel, .pinned, .pinned, .pinned], laidTests := true, laidLooks := .later }
def NumberReadsCardSaid : Prop := Claim7.holds Tryz.pinned (.plain (OpenSpec.ofChange numberReadsSpec)) numberReadsCard

/-- THE TIED CARD OF 'trellislaw5.NumberShort'. -/
def numberShortCard : Claim7 := { stood := { row := numberShortRow, standIns := [], harness := (true, "454ca8f2601a4160a54075a546b2ecd3d6f63c7d2d74609242878239d938827e"), looks := true }, kinds := [], alts := [], laidByText := true, laidKinds := [.data, .data, .widerDeep, .widerDeep, .data, .data, .data, .data, .data, .data, .sentinel, .sentinel, .pinned, .pinned, .pinned], laidTests := true, laidLooks := .later }
def NumberShortCardSaid : Prop := Claim7.holds Tryz.pinned (.plain (OpenSpec.ofChange numberShortSpec)) numberShortCard

/-- THE TIED CARD OF 'trellislaw5.NumberOrder'. -/
def numberOrderCard : Claim7 := { stood := { row := numberOrderRow, standIns := [], harness := (true, "454ca8f2601a4160a54075a546b2ecd3d6f63c7d2d74609242878239d938827e"), looks := true }, kinds := [], alts := [], laidByText := true, laidKinds := [.data, .data, .widerDeep, .widerDeep, .data, .data, .data, .data, .data, .data, .sentinel, .sentinel, .pinned, .pinned, .pinned], laidTests := true, laidLooks := .later }
def NumberOrderCardSaid : Prop := Claim7.holds Tryz.pinned (.plain (OpenSpec.ofChange numberOrderSpec)) numberOrderCard

/-- THE TIED CARD OF 'trellislaw5.NumberWhole'. -/
def numberWholeCard : Claim7 := { stood := { row := numberWholeRow, standIns := [], harness := (true, "454ca8f2601a4160a54075a546b2ecd3d6f63c7d2d74609242878239d938827e"), looks := true }, kinds := [], alts := [], laidByText := true, laidKinds := [.data, .data, .widerDeep, .widerDeep, .data, .data, .data, .data, .data, .data, .sentinel, .sentinel, .pinned, .pinned, .pinned], laidTests := true, laidLooks := .later }
def NumberWholeCardSaid : Prop := Claim7.holds Tryz.pinned (.plain (OpenSpec.ofChange numberWholeSpec)) numberWholeCard

/-- THE TIED CARD OF 'trellislaw5.NumberBack'. -/
def numberBackCard : Claim7 := { stood := { row := numberBackRow, standIns := [], harness := (true, "454ca8f2601a4160a54075a546b2ecd3d6f63c7d2d74609242878239d938827e"), looks := true }, kinds := [], alts := [], laidByText := true, laidKinds := [.data, .data, .widerDeep, .widerDeep, .data, .data, .data, .data, .data, .data, .sentinel, .sentinel, .pinned, .pinned, .pinned], laidTests := true, laidLooks := .later }
def NumberBackCardSaid : Prop := Claim7.holds Tryz.pinned (.plain (OpenSpec.ofChange numberBackSpec)) numberBackCard

/-- THE SECOND FORM's CARD OF 'trellislaw5.NumberPrints'. -/
def numberPrintsUptoCard : Claim7 := { stood := { row := numberPrintsUptoRow, standIns := [], harness := (true, "454ca8f2601a4160a54075a546b2ecd3d6f63c7d2d74609242878239d938827e"), looks := true }, kinds := [], alts := [], laidByText := true, laidKinds := [.data, .data, .widerDeep, .widerDeep, .data, .data, .data, .data, .data, .data, .sentinel, .sentinel, .pinned, .pinned, .pinned], laidTests := true, laidLooks := .later }
def NumberPrintsUptoCardSaid : Prop := Claim7.holds Tryz.pinned (.plain (OpenSpec.upto numberPrintsSpec)) numberPrintsUptoCard

/-- THE SECOND FORM's CARD OF 'trellislaw5.NumberReads'. -/
def numberReadsUptoCard : Claim7 := { stood := { row := numberReadsUptoRow, standIns := [], harness := (true, "454ca8f2601a4160a54075a546b2ecd3d6f63c7d2d74609242878239d938827e"), looks := true }, kinds := [], alts := [], laidByText := true, laidKinds := [.data, .data, .widerDeep, .widerDeep, .data, .data, .data, .data, .data, .data, .sentinel, .sentinel, .pinned, .pinned, .pinned], laidTests := true, laidLooks := .later }
def NumberReadsUptoCardSaid : Prop := Claim7.holds Tryz.pinned (.plain (OpenSpec.upto numberReadsSpec)) numberReadsUptoCard

/-- THE SECOND FORM's CARD OF 'trellislaw5.NumberShort'. -/
def numberShortUptoCard : Claim7 := { stood := { row := numberShortUptoRow, standIns := [], harness := (true, "454ca8f2601a4160a54075a546b2ecd3d6f63c7d2d74609242878239d938827e"), looks := true }, kinds := [], alts := [], laidByText := true, laidKinds := [.data, .data, .widerDeep, .widerDeep, .data, .data, .data, .data, .data, .data, .sentinel, .sentinel, .pinned, .pinned, .pinned], laidTests := true, laidLooks := .later }
def NumberShortUptoCardSaid : Prop := Claim7.holds Tryz.pinned (.plain (OpenSpec.upto numberShortSpec)) numberShortUptoCard

/-- THE SECOND FORM's CARD OF 'trellislaw5.NumberOrder'. -/
def numberOrderUptoCard : Claim7 := { stood := { row := numberOrderUptoRow, standIns := [], harness := (true, "454ca8f2601a4160a54075a546b2ecd3d6f63c7d2d74609242878239d938827e"), looks := true }, kinds := [], alts := [], laidByText := true, laidKinds := [.data, .data, .widerDeep, .widerDeep, .data, .data, .data, .data, .data, .data, .sentinel, .sentinel, .pinned, .pinned, .pinned], laidTests := true, laidLooks := .later }
def NumberOrderUptoCardSaid : Prop := Claim7.holds Tryz.pinned (.plain (OpenSpec.upto numberOrderSpec)) numberOrderUptoCard

/-- THE SECOND FORM's CARD OF 'trellislaw5.NumberWhole'. -/
def numberWholeUptoCard : Claim7 := { stood := { row := numberWholeUptoRow, standIns := [], harness := (true, "454ca8f2601a4160a54075a546b2ecd3d6f63c7d2d74609242878239d938827e"), looks := true }, kinds := [], alts := [], laidByText := true, laidKinds := [.data, .data, .widerDeep, .widerDeep, .data, .data, .data, .data, .data, .data, .sentinel, .sentinel, .pinned, .pinned, .pinned], laidTests := true, laidLooks := .later }
def NumberWholeUptoCardSaid : Prop := Claim7.holds Tryz.pinned (.plain (OpenSpec.upto numberWholeSpec)) numberWholeUptoCard

/-- THE SECOND FORM's CARD OF 'trellislaw5.NumberBack'. -/
def numberBackUptoCard : Claim7 := { stood := { row := numberBackUptoRow, standIns := [], harness := (true, "454ca8f2601a4160a54075a546b2ecd3d6f63c7d2d74609242878239d938827e"), looks := true }, kinds := [], alts := [], laidByText := true, laidKinds := [.data, .data, .widerDeep, .widerDeep, .data, .data, .data, .data, .data, .data, .sentinel, .sentinel, .pinned, .pinned, .pinned], laidTests := true, laidLooks := .later }
def NumberBackUptoCardSaid : Prop := Claim7.holds Tryz.pinned (.plain (OpenSpec.upto numberBackSpec)) numberBackUptoCard
end Rows
end Go.Proofs.YtodeldmdbeocfaaGreatDoor
