/-
  DERIVED. GIVEN WITH THE SEED: THE CARDS: each row of YtbgnnmlhpaaebaaDoorRows.lean that lists a variable, with what it lists TIED to the program's text (the seventh form; the later family's looks); each row that meets fmt, with fmt's text TOLD by the authors' own Lean function (tested against real Go, not proved from fmt's source: count such statements apart). THE CARD IS WHAT COUNTS. Prove the row's statement (the work); the ties are given (YtbgnnmlhpaaebaaDoorTie.lean); close each card by the builder's one call (the guide's Derived/Test/ToyasCard.lean, 'card_holds'). Laid BY PROGRAM, IN A SANDBOX (cutbox-door.mjs). By AI agents, Wed Nov 11 2026. No macro, syntax, notation, axiom, sorry.
-/
import Derived.Test.YtbgnnmlhpaaebaaDoorRows
import GoSem.ClaimSeven
namespace Go.Proofs.YtbgnnmlhpaaebaaDoor
namespace Rows

/-- THE TIED CARD OF 'mainsheetlaw06.TopoDists'. -/
def topoDistsCard : Claim7 := { stood := { row := topoDistsRow, standIns := [], harness := (true, "fcfc0c1e6bf65148b8be63425c7d23db8021aa311beb1b8d09a83ddeae41cc68"), looks := false }, kinds := [], alts := [], laidByText := true, laidKinds := [.data], laidTests := true, laidLooks := .later }
def TopoDistsCardSaid : Prop := Claim7.holds Tryd.pinned (.plain (OpenSpec.ofChange topoDistsSpec)) topoDistsCard

/-- THE TIED CARD OF 'mainsheetlaw06.TopoMakes'. -/
def topoMakesCard : Claim7 := { stood := { row := topoMakesRow, standIns := [], harness := (true, "fcfc0c1e6bf65148b8be63425c7d23db8021aa311beb1b8d09a83ddeae41cc68"), looks := false }, kinds := [], alts := [], laidByText := true, laidKinds := [.data], laidTests := true, laidLooks := .later }
def TopoMakesCardSaid : Prop := Claim7.holds Tryd.pinned (.plain (OpenSpec.ofChange topoMakesSpec)) topoMakesCard

/-- THE TIED CARD OF 'mainsheetlaw06.TopoParts'. -/
def topoPartsCard : Claim7 := { stood := { row := topoPartsRow, standIns := [], harness := (true, "fcfc0c1e6bf65148b8be63425c7d23db8021aa311beb1b8d09a83ddeae41cc68"), looks := false }, kinds := [], alts := [], laidByText := true, laidKinds := [.data], laidTests := true, laidLooks := .later }
def TopoPartsCardSaid : Prop := Claim7.holds Tryd.pinned (.plain (OpenSpec.ofChange topoPartsSpec)) topoPartsCard

/-- THE TIED CARD OF 'mainsheetlaw06.TopoMetric'. -/
def topoMetricCard : Claim7 := { stood := { row := topoMetricRow, standIns := [], harness := (true, "fcfc0c1e6bf65148b8be63425c7d23db8021aa311beb1b8d09a83ddeae41cc68"), looks := false }, kinds := [], alts := [], laidByText := true, laidKinds := [.data], laidTests := true, laidLooks := .later }
def TopoMetricCardSaid : Prop := Claim7.holds Tryd.pinned (.plain (OpenSpec.ofChange topoMetricSpec)) topoMetricCard

/-- THE TIED CARD OF 'mainsheetlaw06.TopoTells'. -/
def topoTellsCard : Claim7 := { stood := { row := topoTellsRow, standIns := [], harness := (true, "fcfc0c1e6bf65148b8be63425c7d23db8021aa311beb1b8d09a83ddeae41cc68"), looks := false }, kinds := [], alts := [], laidByText := true, laidKinds := [.data], laidTests := true, laidLooks := .later }
def TopoTellsCardSaid : Prop := Claim7.holds Tryd.pinned (.plain (OpenSpec.ofChange topoTellsSpec)) topoTellsCard

/-- THE TIED CARD OF 'mainsheetlaw06.TopoBytes'. -/
def topoBytesCard : Claim7 := { stood := { row := topoBytesRow, standIns := [], harness := (true, "fcfc0c1e6bf65148b8be63425c7d23db8021aa311beb1b8d09a83ddeae41cc68"), looks := false }, kinds := [], alts := [], laidByText := true, laidKinds := [.data], laidTests := true, laidLooks := .later }
def TopoBytesCardSaid : Prop := Claim7.holds Tryd.pinned (.plain (OpenSpec.ofChange topoBytesSpec)) topoBytesCard

/-- THE TIED CARD OF 'mainsheetlaw06.TopoBack'. -/
def topoBackCard : Claim7 := { stood := { row := topoBackRow, standIns := [], harness := (true, "fcfc0c1e6bf65148b8be63425c7d23db8021aa311beb1b8d09a83ddeae41cc68"), looks := false }, kinds := [], alts := [], laidByText := true, laidKinds := [.data], laidTests := true, laidLooks := .later }
def TopoBackCardSaid : Prop := Claim7.holds Tryd.pinned (.plain (OpenSpec.ofChange topoBackSpec)) topoBackCard

/-- THE SECOND FORM's CARD OF 'mainsheetlaw06.TopoDists'. -/
def topoDistsUptoCard : Claim7 := { stood := { row := topoDistsUptoRow, standIns := [], harness := (true, "fcfc0c1e6bf65148b8be63425c7d23db8021aa311beb1b8d09a83ddeae41cc68"), looks := false }, kinds := [], alts := [], laidByText := true, laidKinds := [.data], laidTests := true, laidLooks := .later }
def TopoDistsUptoCardSaid : Prop := Claim7.holds Tryd.pinned (.plain (OpenSpec.upto topoDistsSpec)) topoDistsUptoCard

/-- THE SECOND FORM's CARD OF 'mainsheetlaw06.TopoMakes'. -/
def topoMakesUptoCard : Claim7 := { stood := { row := topoMakesUptoRow, standIns := [], harness := (true, "fcfc0c1e6bf65148b8be63425c7d23db8021aa311beb1b8d09a83ddeae41cc68"), looks := false }, kinds := [], alts := [], laidByText := true, laidKinds := [.data], laidTests := true, laidLooks := .later }
def TopoMakesUptoCardSaid : Prop := Claim7.holds Tryd.pinned (.plain (OpenSpec.upto topoMakesSpec)) topoMakesUptoCard

/-- THE SECOND FORM's CARD OF 'mainsheetlaw06.TopoParts'. -/
def topoPartsUptoCard : Claim7 := { stood := { row := topoPartsUptoRow, standIns := [], harness := (true, "fcfc0c1e6bf65148b8be63425c7d23db8021aa311beb1b8d09a83ddeae41cc68"), looks := false }, kinds := [], alts := [], laidByText := true, laidKinds := [.data], laidTests := true, laidLooks := .later }
def TopoPartsUptoCardSaid : Prop := Claim7.holds Tryd.pinned (.plain (OpenSpec.upto topoPartsSpec)) topoPartsUptoCard

/-- THE SECOND FORM's CARD OF 'mainsheetlaw06.TopoMetric'. -/
def topoMetricUptoCard : Claim7 := { stood := { row := topoMetricUptoRow, standIns := [], harness := (true, "fcfc0c1e6bf65148b8be63425c7d23db8021aa311beb1b8d09a83ddeae41cc68"), looks := false }, kinds := [], alts := [], laidByText := true, laidKinds := [.data], laidTests := true, laidLooks := .later }
def TopoMetricUptoCardSaid : Prop := Claim7.holds Tryd.pinned (.plain (OpenSpec.upto topoMetricSpec)) topoMetricUptoCard

/-- THE SECOND FORM's CARD OF 'mainsheetlaw06.TopoTells'. -/
def topoTellsUptoCard : Claim7 := { stood := { row := topoTellsUptoRow, standIns := [], harness := (true, "fcfc0c1e6bf65148b8be63425c7d23db8021aa311beb1b8d09a83ddeae41cc68"), looks := false }, kinds := [], alts := [], laidByText := true, laidKinds := [.data], laidTests := true, laidLooks := .later }
def TopoTellsUptoCardSaid : Prop := Claim7.holds Tryd.pinned (.plain (OpenSpec.upto topoTellsSpec)) topoTellsUptoCard

/-- THE SECOND FORM's CARD OF 'mainsheetlaw06.TopoBytes'. -/
def topoBytesUptoCard : Claim7 := { stood := { row := topoBytesUptoRow, standIns := [], harness := (true, "fcfc0c1e6bf65148b8be63425c7d23db8021aa311beb1b8d09a83ddeae41cc68"), looks := false }, kinds := [], alts := [], laidByText := true, laidKinds := [.data], laidTests := true, laidLooks := .later }
def TopoBytesUptoCardSaid : Prop := Claim7.holds Tryd.pinned (.plain (OpenSpec.upto topoBytesSpec)) topoBytesUptoCard

/-- THE SECOND FORM's CARD OF 'mainsheetlaw06.TopoBack'. -/
def topoBackUptoCard : Claim7 := { stood := { row := topoBackUptoRow, standIns := [], harness := (true, "fcfc0c1e6bf65148b8be63425c7d23db8021aa311beb1b8d09a83ddeae41cc68"), looks := false }, kinds := [], alts := [], laidByText := true, laidKinds := [.data], laidTests := true, laidLooks := .later }
def TopoBackUptoCardSaid : Prop := Claim7.holds Tryd.pinned (.plain (OpenSpec.upto topoBackSpec)) topoBackUptoCard
end Rows
end Go.Proofs.YtbgnnmlhpaaebaaDoor
