/-
  DERIVED. GIVEN WITH THE SEED: THE CARDS: each row of YtnjgmjcokcfmkaaDoorRows.lean that lists a variable, with what it lists TIED to the program's text (the seventh form; the later family's looks); each row that meets fmt, with fmt's text TOLD by the authors' own Lean function (tested against real Go, not proved from fmt's source: count such statements apart). THE CARD IS WHAT COUNTS. Prove the row's statement (the work); the ties are given (YtnjgmjcokcfmkaaDoorTie.lean); close each card by the builder's one call (the guide's Derived/Test/ToyasCard.lean, 'card_holds'). Laid BY PROGRAM, IN A SANDBOX (cutbox-door.mjs). By AI agents, Wed Nov 11 2026. No macro, syntax, notation, axiom, sorry.
-/
import Derived.Test.YtnjgmjcokcfmkaaDoorRows
import GoSem.ClaimSeven
namespace Go.Proofs.YtnjgmjcokcfmkaaDoor
namespace Rows

/-- THE TIED CARD OF 'mainsheetlaw19.PickPicks'. -/
def pickPicksCard : Claim7 := { stood := { row := pickPicksRow, standIns := [], harness := (true, "d7585accccd236e0355fccb6a96b2a5f7a0646a1b103af99b09353d6d591397e"), looks := false }, kinds := [], alts := [], laidByText := true, laidKinds := [.data], laidTests := true, laidLooks := .later }
def PickPicksCardSaid : Prop := Claim7.holds Tryd.pinned (.plain (OpenSpec.ofChange pickPicksSpec)) pickPicksCard

/-- THE TIED CARD OF 'mainsheetlaw19.PickChoices'. -/
def pickChoicesCard : Claim7 := { stood := { row := pickChoicesRow, standIns := [], harness := (true, "d7585accccd236e0355fccb6a96b2a5f7a0646a1b103af99b09353d6d591397e"), looks := false }, kinds := [], alts := [], laidByText := true, laidKinds := [.data], laidTests := true, laidLooks := .later }
def PickChoicesCardSaid : Prop := Claim7.holds Tryd.pinned (.plain (OpenSpec.ofChange pickChoicesSpec)) pickChoicesCard

/-- THE TIED CARD OF 'mainsheetlaw19.PickBack'. -/
def pickBackCard : Claim7 := { stood := { row := pickBackRow, standIns := [], harness := (true, "d7585accccd236e0355fccb6a96b2a5f7a0646a1b103af99b09353d6d591397e"), looks := false }, kinds := [], alts := [], laidByText := true, laidKinds := [.data], laidTests := true, laidLooks := .later }
def PickBackCardSaid : Prop := Claim7.holds Tryd.pinned (.plain (OpenSpec.ofChange pickBackSpec)) pickBackCard

/-- THE TIED CARD OF 'mainsheetlaw19.PickWaits'. -/
def pickWaitsCard : Claim7 := { stood := { row := pickWaitsRow, standIns := [], harness := (true, "d7585accccd236e0355fccb6a96b2a5f7a0646a1b103af99b09353d6d591397e"), looks := false }, kinds := [], alts := [], laidByText := true, laidKinds := [.data], laidTests := true, laidLooks := .later }
def PickWaitsCardSaid : Prop := Claim7.holds Tryd.pinned (.plain (OpenSpec.ofChange pickWaitsSpec)) pickWaitsCard

/-- THE TIED CARD OF 'mainsheetlaw19.PickAlone'. -/
def pickAloneCard : Claim7 := { stood := { row := pickAloneRow, standIns := [], harness := (true, "d7585accccd236e0355fccb6a96b2a5f7a0646a1b103af99b09353d6d591397e"), looks := false }, kinds := [], alts := [], laidByText := true, laidKinds := [.data], laidTests := true, laidLooks := .later }
def PickAloneCardSaid : Prop := Claim7.holds Tryd.pinned (.plain (OpenSpec.ofChange pickAloneSpec)) pickAloneCard

/-- THE TIED CARD OF 'mainsheetlaw19.PickWhole'. -/
def pickWholeCard : Claim7 := { stood := { row := pickWholeRow, standIns := [], harness := (true, "d7585accccd236e0355fccb6a96b2a5f7a0646a1b103af99b09353d6d591397e"), looks := false }, kinds := [], alts := [], laidByText := true, laidKinds := [.data], laidTests := true, laidLooks := .later }
def PickWholeCardSaid : Prop := Claim7.holds Tryd.pinned (.plain (OpenSpec.ofChange pickWholeSpec)) pickWholeCard

/-- THE TIED CARD OF 'mainsheetlaw19.PickTells'. -/
def pickTellsCard : Claim7 := { stood := { row := pickTellsRow, standIns := [], harness := (true, "d7585accccd236e0355fccb6a96b2a5f7a0646a1b103af99b09353d6d591397e"), looks := false }, kinds := [], alts := [], laidByText := true, laidKinds := [.data], laidTests := true, laidLooks := .later }
def PickTellsCardSaid : Prop := Claim7.holds Tryd.pinned (.plain (OpenSpec.ofChange pickTellsSpec)) pickTellsCard

/-- THE SECOND FORM's CARD OF 'mainsheetlaw19.PickPicks'. -/
def pickPicksUptoCard : Claim7 := { stood := { row := pickPicksUptoRow, standIns := [], harness := (true, "d7585accccd236e0355fccb6a96b2a5f7a0646a1b103af99b09353d6d591397e"), looks := false }, kinds := [], alts := [], laidByText := true, laidKinds := [.data], laidTests := true, laidLooks := .later }
def PickPicksUptoCardSaid : Prop := Claim7.holds Tryd.pinned (.plain (OpenSpec.upto pickPicksSpec)) pickPicksUptoCard

/-- THE SECOND FORM's CARD OF 'mainsheetlaw19.PickChoices'. -/
def pickChoicesUptoCard : Claim7 := { stood := { row := pickChoicesUptoRow, standIns := [], harness := (true, "d7585accccd236e0355fccb6a96b2a5f7a0646a1b103af99b09353d6d591397e"), looks := false }, kinds := [], alts := [], laidByText := true, laidKinds := [.data], laidTests := true, laidLooks := .later }
def PickChoicesUptoCardSaid : Prop := Claim7.holds Tryd.pinned (.plain (OpenSpec.upto pickChoicesSpec)) pickChoicesUptoCard

/-- THE SECOND FORM's CARD OF 'mainsheetlaw19.PickBack'. -/
def pickBackUptoCard : Claim7 := { stood := { row := pickBackUptoRow, standIns := [], harness := (true, "d7585accccd236e0355fccb6a96b2a5f7a0646a1b103af99b09353d6d591397e"), looks := false }, kinds := [], alts := [], laidByText := true, laidKinds := [.data], laidTests := true, laidLooks := .later }
def PickBackUptoCardSaid : Prop := Claim7.holds Tryd.pinned (.plain (OpenSpec.upto pickBackSpec)) pickBackUptoCard

/-- THE SECOND FORM's CARD OF 'mainsheetlaw19.PickWaits'. -/
def pickWaitsUptoCard : Claim7 := { stood := { row := pickWaitsUptoRow, standIns := [], harness := (true, "d7585accccd236e0355fccb6a96b2a5f7a0646a1b103af99b09353d6d591397e"), looks := false }, kinds := [], alts := [], laidByText := true, laidKinds := [.data], laidTests := true, laidLooks := .later }
def PickWaitsUptoCardSaid : Prop := Claim7.holds Tryd.pinned (.plain (OpenSpec.upto pickWaitsSpec)) pickWaitsUptoCard

/-- THE SECOND FORM's CARD OF 'mainsheetlaw19.PickAlone'. -/
def pickAloneUptoCard : Claim7 := { stood := { row := pickAloneUptoRow, standIns := [], harness := (true, "d7585accccd236e0355fccb6a96b2a5f7a0646a1b103af99b09353d6d591397e"), looks := false }, kinds := [], alts := [], laidByText := true, laidKinds := [.data], laidTests := true, laidLooks := .later }
def PickAloneUptoCardSaid : Prop := Claim7.holds Tryd.pinned (.plain (OpenSpec.upto pickAloneSpec)) pickAloneUptoCard

/-- THE SECOND FORM's CARD OF 'mainsheetlaw19.PickWhole'. -/
def pickWholeUptoCard : Claim7 := { stood := { row := pickWholeUptoRow, standIns := [], harness := (true, "d7585accccd236e0355fccb6a96b2a5f7a0646a1b103af99b09353d6d591397e"), looks := false }, kinds := [], alts := [], laidByText := true, laidKinds := [.data], laidTests := true, laidLooks := .later }
def PickWholeUptoCardSaid : Prop := Claim7.holds Tryd.pinned (.plain (OpenSpec.upto pickWholeSpec)) pickWholeUptoCard

/-- THE SECOND FORM's CARD OF 'mainsheetlaw19.PickTells'. -/
def pickTellsUptoCard : Claim7 := { stood := { row := pickTellsUptoRow, standIns := [], harness := (true, "d7585accccd236e0355fccb6a96b2a5f7a0646a1b103af99b09353d6d591397e"), looks := false }, kinds := [], alts := [], laidByText := true, laidKinds := [.data], laidTests := true, laidLooks := .later }
def PickTellsUptoCardSaid : Prop := Claim7.holds Tryd.pinned (.plain (OpenSpec.upto pickTellsSpec)) pickTellsUptoCard
end Rows
end Go.Proofs.YtnjgmjcokcfmkaaDoor
