/-
  DERIVED. GIVEN WITH THE SEED: THE CARDS: each row of YtbjhphjpdeblnaaDoorRows.lean that lists a variable, with what it lists TIED to the program's text (the seventh form; the later family's looks); each row that meets fmt, with fmt's text TOLD by the authors' own Lean function (tested against real Go, not proved from fmt's source: count such statements apart). THE CARD IS WHAT COUNTS. Prove the row's statement (the work); the ties are given (YtbjhphjpdeblnaaDoorTie.lean); close each card by the builder's one call (the guide's Derived/Test/ToyasCard.lean, 'card_holds'). Laid BY PROGRAM, IN A SANDBOX (cutbox-door.mjs). By AI agents, Wed Nov 11 2026. No macro, syntax, notation, axiom, sorry.
-/
import Derived.Test.YtbjhphjpdeblnaaDoorRows
import GoSem.ClaimSeven
namespace Go.Proofs.YtbjhphjpdeblnaaDoor
namespace Rows

/-- THE TIED CARD OF 'mainsheetlaw29.AuditMoments'. -/
def auditMomentsCard : Claim7 := { stood := { row := auditMomentsRow, standIns := [], harness := (true, "96a70d4718ba9489c270949b74c300e5bf2d808b5980120bfb446f63a4fd6787"), looks := false }, kinds := [], alts := [], laidByText := true, laidKinds := [.data], laidTests := true, laidLooks := .later }
def AuditMomentsCardSaid : Prop := Claim7.holds Tryd.pinned (.plain (OpenSpec.ofChange auditMomentsSpec)) auditMomentsCard

/-- THE TIED CARD OF 'mainsheetlaw29.AuditOne'. -/
def auditOneCard : Claim7 := { stood := { row := auditOneRow, standIns := [], harness := (true, "96a70d4718ba9489c270949b74c300e5bf2d808b5980120bfb446f63a4fd6787"), looks := false }, kinds := [], alts := [], laidByText := true, laidKinds := [.data], laidTests := true, laidLooks := .later }
def AuditOneCardSaid : Prop := Claim7.holds Tryd.pinned (.plain (OpenSpec.ofChange auditOneSpec)) auditOneCard

/-- THE SECOND FORM's CARD OF 'mainsheetlaw29.AuditMoments'. -/
def auditMomentsUptoCard : Claim7 := { stood := { row := auditMomentsUptoRow, standIns := [], harness := (true, "96a70d4718ba9489c270949b74c300e5bf2d808b5980120bfb446f63a4fd6787"), looks := false }, kinds := [], alts := [], laidByText := true, laidKinds := [.data], laidTests := true, laidLooks := .later }
def AuditMomentsUptoCardSaid : Prop := Claim7.holds Tryd.pinned (.plain (OpenSpec.upto auditMomentsSpec)) auditMomentsUptoCard

/-- THE SECOND FORM's CARD OF 'mainsheetlaw29.AuditOne'. -/
def auditOneUptoCard : Claim7 := { stood := { row := auditOneUptoRow, standIns := [], harness := (true, "96a70d4718ba9489c270949b74c300e5bf2d808b5980120bfb446f63a4fd6787"), looks := false }, kinds := [], alts := [], laidByText := true, laidKinds := [.data], laidTests := true, laidLooks := .later }
def AuditOneUptoCardSaid : Prop := Claim7.holds Tryd.pinned (.plain (OpenSpec.upto auditOneSpec)) auditOneUptoCard
end Rows
end Go.Proofs.YtbjhphjpdeblnaaDoor
