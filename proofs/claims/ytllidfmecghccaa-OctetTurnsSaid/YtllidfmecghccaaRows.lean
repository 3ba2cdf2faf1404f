/-
  No cell of these rows narrows 'for every input' (looked for: loops, veiled, ifaces, maps, wideKeys, modest, calm, conditions, laid).
  DERIVED. THE GIVEN ROWS OF THIS SEAT. 6 by the template 'for every input the law returns true; each argument reads behind the call as it read before'; 0 by the template 'total and deterministic' (their statements: YtllidfmecghccaaTotals.lean).
  GIVEN WITH THE SEED: the statements are not yours to turn. If you find one false, say at which input.
  Laid BY PROGRAM, IN A SANDBOX (cutbox-rows.mjs): the forced cells as the released guide's own fill.sh prints them over the translation 73f72379caae77f3… (all of the seat's roots in one cut). By AI agents, Wed Nov 11 2026. No macro, syntax, notation, axiom, sorry.
-/
import Derived.Test.YtllidfmecghccaaChecked
import GoSem.Claim
import GoSem.ClaimJoined
import GoSem.ClaimMapViews
import Derived.JoinedTies
import Derived.KernelRfl
namespace Go.Proofs.Ytllidfmecghccaa
/- THE CELL 'sum', in the pinned program and in every row, IS THE sha256 OF THE DUMP (.gsa) THAT YtllidfmecghccaaProg.lean LOADS. Nothing in Lean hashes anything: it is a label: what it is worth is what the hold of that sum in a sandbox is worth. -/
noncomputable def Try.pinned : Pinned := { name := "ytllidfmecghccaa", sum := "73f72379caae77f3bd1fe302e2faa9d48a5bf7885dc797af9bc86139c8bfad46", checked := Try.checked }
namespace Rows
def none {H : Type} : Left H := { results := [], args := [] }

/-- 'mainsheetlaw01.OctetPuts': WHATEVER THE INPUT: true; the input reads as it did. -/
def octetPutsSpec : ChangeSpec := { name := "octetPuts", fn := fun _ => fun
  | [d1, d2] => { results := [.lit (.bool true)], args := [d1, d2] }
  | _ => none }
def octetPutsRow : OpenClaim := { program := "ytllidfmecghccaa", sum := "73f72379caae77f3bd1fe302e2faa9d48a5bf7885dc797af9bc86139c8bfad46", func := "mainsheet/mainsheetlaw01.OctetPuts", spec := "octetPuts", unfollowed := true, recurses := true, apart := false }
def OctetPutsSaid : Prop := octetPutsRow.holds Try.pinned (OpenSpec.ofChange octetPutsSpec)

/-- ITS FALSE NEIGHBOUR: 'it returns false'. Refute it at one input. -/
def octetPutsWrong : ChangeSpec := { name := "octetPuts", fn := fun _ => fun
  | [d1, d2] => { results := [.lit (.bool false)], args := [d1, d2] }
  | _ => none }
def OctetPutsWrongFalsely : Prop := octetPutsRow.holds Try.pinned (OpenSpec.ofChange octetPutsWrong)

/-- 'mainsheetlaw01.OctetLeads': WHATEVER THE INPUT: true; the input reads as it did. -/
def octetLeadsSpec : ChangeSpec := { name := "octetLeads", fn := fun _ => fun
  | [d] => { results := [.lit (.bool true)], args := [d] }
  | _ => none }
def octetLeadsRow : OpenClaim := { program := "ytllidfmecghccaa", sum := "73f72379caae77f3bd1fe302e2faa9d48a5bf7885dc797af9bc86139c8bfad46", func := "mainsheet/mainsheetlaw01.OctetLeads", spec := "octetLeads", unfollowed := true, recurses := true, apart := false }
def OctetLeadsSaid : Prop := octetLeadsRow.holds Try.pinned (OpenSpec.ofChange octetLeadsSpec)

/-- ITS FALSE NEIGHBOUR: 'it returns false'. Refute it at one input. -/
def octetLeadsWrong : ChangeSpec := { name := "octetLeads", fn := fun _ => fun
  | [d] => { results := [.lit (.bool false)], args := [d] }
  | _ => none }
def OctetLeadsWrongFalsely : Prop := octetLeadsRow.holds Try.pinned (OpenSpec.ofChange octetLeadsWrong)

/-- 'mainsheetlaw01.OctetCuts': WHATEVER THE INPUT: true; the input reads as it did. -/
def octetCutsSpec : ChangeSpec := { name := "octetCuts", fn := fun _ => fun
  | [d1, d2] => { results := [.lit (.bool true)], args := [d1, d2] }
  | _ => none }
def octetCutsRow : OpenClaim := { program := "ytllidfmecghccaa", sum := "73f72379caae77f3bd1fe302e2faa9d48a5bf7885dc797af9bc86139c8bfad46", func := "mainsheet/mainsheetlaw01.OctetCuts", spec := "octetCuts", unfollowed := true, recurses := true, apart := false }
def OctetCutsSaid : Prop := octetCutsRow.holds Try.pinned (OpenSpec.ofChange octetCutsSpec)

/-- ITS FALSE NEIGHBOUR: 'it returns false'. Refute it at one input. -/
def octetCutsWrong : ChangeSpec := { name := "octetCuts", fn := fun _ => fun
  | [d1, d2] => { results := [.lit (.bool false)], args := [d1, d2] }
  | _ => none }
def OctetCutsWrongFalsely : Prop := octetCutsRow.holds Try.pinned (OpenSpec.ofChange octetCutsWrong)

/-- 'mainsheetlaw01.OctetWalks': WHATEVER THE INPUT: true; the input reads as it did. -/
def octetWalksSpec : ChangeSpec := { name := "octetWalks", fn := fun _ => fun
  | [d1, d2] => { results := [.lit (.bool true)], args := [d1, d2] }
  | _ => none }
def octetWalksRow : OpenClaim := { program := "ytllidfmecghccaa", sum := "73f72379caae77f3bd1fe302e2faa9d48a5bf7885dc797af9bc86139c8bfad46", func := "mainsheet/mainsheetlaw01.OctetWalks", spec := "octetWalks", unfollowed := true, recurses := true, apart := false }
def OctetWalksSaid : Prop := octetWalksRow.holds Try.pinned (OpenSpec.ofChange octetWalksSpec)

/-- ITS FALSE NEIGHBOUR: 'it returns false'. Refute it at one input. -/
def octetWalksWrong : ChangeSpec := { name := "octetWalks", fn := fun _ => fun
  | [d1, d2] => { results := [.lit (.bool false)], args := [d1, d2] }
  | _ => none }
def OctetWalksWrongFalsely : Prop := octetWalksRow.holds Try.pinned (OpenSpec.ofChange octetWalksWrong)

/-- 'mainsheetlaw01.OctetNone': WHATEVER THE INPUT: true; the input reads as it did. -/
def octetNoneSpec : ChangeSpec := { name := "octetNone", fn := fun _ => fun
  | [d] => { results := [.lit (.bool true)], args := [d] }
  | _ => none }
def octetNoneRow : OpenClaim := { program := "ytllidfmecghccaa", sum := "73f72379caae77f3bd1fe302e2faa9d48a5bf7885dc797af9bc86139c8bfad46", func := "mainsheet/mainsheetlaw01.OctetNone", spec := "octetNone", unfollowed := true, recurses := true, apart := false }
def OctetNoneSaid : Prop := octetNoneRow.holds Try.pinned (OpenSpec.ofChange octetNoneSpec)

/-- ITS FALSE NEIGHBOUR: 'it returns false'. Refute it at one input. -/
def octetNoneWrong : ChangeSpec := { name := "octetNone", fn := fun _ => fun
  | [d] => { results := [.lit (.bool false)], args := [d] }
  | _ => none }
def OctetNoneWrongFalsely : Prop := octetNoneRow.holds Try.pinned (OpenSpec.ofChange octetNoneWrong)

/-- 'mainsheetlaw01.OctetTurns': WHATEVER THE INPUT: true; the input reads as it did. -/
def octetTurnsSpec : ChangeSpec := { name := "octetTurns", fn := fun _ => fun
  | [d1, d2] => { results := [.lit (.bool true)], args := [d1, d2] }
  | _ => none }
def octetTurnsRow : OpenClaim := { program := "ytllidfmecghccaa", sum := "73f72379caae77f3bd1fe302e2faa9d48a5bf7885dc797af9bc86139c8bfad46", func := "mainsheet/mainsheetlaw01.OctetTurns", spec := "octetTurns", unfollowed := true, recurses := true, apart := false }
def OctetTurnsSaid : Prop := octetTurnsRow.holds Try.pinned (OpenSpec.ofChange octetTurnsSpec)

/-- ITS FALSE NEIGHBOUR: 'it returns false'. Refute it at one input. -/
def octetTurnsWrong : ChangeSpec := { name := "octetTurns", fn := fun _ => fun
  | [d1, d2] => { results := [.lit (.bool false)], args := [d1, d2] }
  | _ => none }
def OctetTurnsWrongFalsely : Prop := octetTurnsRow.holds Try.pinned (OpenSpec.ofChange octetTurnsWrong)

/- THE SECOND FORM. 'bulk': how many values and letters a reading holds, each counted each time it is reached (what is shared counts as often as it is met; a slice's spare places count too). A statement '..UptoSaid' is the law's where the arguments, and the package variables that the reading takes, are together of bulk at most 1048576: NARROWER than '..Said'. Prove '..Said' where nothing that the law and all that it calls make is longer than what came in: it says more and counts as full. Else prove '..UptoSaid'. A law counts once. -/
mutual
def uptoBulk {H : Type} : DataW H → Nat
  | .lit (.string bytes) => bytes.length + 1
  | .lit _ => 1
  | .nil => 1
  | .ptr d => uptoBulk d + 1
  | .slice elems spare => uptoBulkAll elems + uptoBulkAll spare + 1
  | .agg parts => uptoBulkAll parts + 1
  | .iface _ d => uptoBulk d + 1
  | .map entries => uptoBulkEntries entries + 1
  | .held _ => 1
def uptoBulkAll {H : Type} : List (DataW H) → Nat
  | [] => 0
  | d :: r => uptoBulk d + uptoBulkAll r
def uptoBulkEntries {H : Type} : List (Lit × DataW H) → Nat
  | [] => 0
  | x :: r => uptoBulkEntry x + uptoBulkEntries r
def uptoBulkEntry {H : Type} : Lit × DataW H → Nat
  | (.string bytes, d) => bytes.length + uptoBulk d + 1
  | (_, d) => uptoBulk d + 1
 end
def uptoSmall : (H : Type) → List (DataW H) → Bool := fun _ ds => decide (uptoBulkAll ds ≤ 1048576)
def OpenSpec.upto (s : _root_.Go.ChangeSpec) : _root_.Go.OpenSpec := { _root_.Go.OpenSpec.ofChange s with cond := some uptoSmall }

/-- 'mainsheetlaw01.OctetPuts', WHERE WHAT IT READS IS OF BULK AT MOST 1048576: true; the input reads as it did. -/
def octetPutsUptoRow : OpenClaim := { program := "ytllidfmecghccaa", sum := "73f72379caae77f3bd1fe302e2faa9d48a5bf7885dc797af9bc86139c8bfad46", func := "mainsheet/mainsheetlaw01.OctetPuts", spec := "octetPuts", unfollowed := true, recurses := true, apart := false, narrowed := true }
def OctetPutsUptoSaid : Prop := octetPutsUptoRow.holds Try.pinned (OpenSpec.upto octetPutsSpec)

/-- 'mainsheetlaw01.OctetLeads', WHERE WHAT IT READS IS OF BULK AT MOST 1048576: true; the input reads as it did. -/
def octetLeadsUptoRow : OpenClaim := { program := "ytllidfmecghccaa", sum := "73f72379caae77f3bd1fe302e2faa9d48a5bf7885dc797af9bc86139c8bfad46", func := "mainsheet/mainsheetlaw01.OctetLeads", spec := "octetLeads", unfollowed := true, recurses := true, apart := false, narrowed := true }
def OctetLeadsUptoSaid : Prop := octetLeadsUptoRow.holds Try.pinned (OpenSpec.upto octetLeadsSpec)

/-- 'mainsheetlaw01.OctetCuts', WHERE WHAT IT READS IS OF BULK AT MOST 1048576: true; the input reads as it did. -/
def octetCutsUptoRow : OpenClaim := { program := "ytllidfmecghccaa", sum := "73f72379caae77f3bd1fe302e2faa9d48a5bf7885dc797af9bc86139c8bfad46", func := "mainsheet/mainsheetlaw01.OctetCuts", spec := "octetCuts", unfollowed := true, recurses := true, apart := false, narrowed := true }
def OctetCutsUptoSaid : Prop := octetCutsUptoRow.holds Try.pinned (OpenSpec.upto octetCutsSpec)

/-- 'mainsheetlaw01.OctetWalks', WHERE WHAT IT READS IS OF BULK AT MOST 1048576: true; the input reads as it did. -/
def octetWalksUptoRow : OpenClaim := { program := "ytllidfmecghccaa", sum := "73f72379caae77f3bd1fe302e2faa9d48a5bf7885dc797af9bc86139c8bfad46", func := "mainsheet/mainsheetlaw01.OctetWalks", spec := "octetWalks", unfollowed := true, recurses := true, apart := false, narrowed := true }
def OctetWalksUptoSaid : Prop := octetWalksUptoRow.holds Try.pinned (OpenSpec.upto octetWalksSpec)

/-- 'mainsheetlaw01.OctetNone', WHERE WHAT IT READS IS OF BULK AT MOST 1048576: true; the input reads as it did. -/
def octetNoneUptoRow : OpenClaim := { program := "ytllidfmecghccaa", sum := "73f72379caae77f3bd1fe302e2faa9d48a5bf7885dc797af9bc86139c8bfad46", func := "mainsheet/mainsheetlaw01.OctetNone", spec := "octetNone", unfollowed := true, recurses := true, apart := false, narrowed := true }
def OctetNoneUptoSaid : Prop := octetNoneUptoRow.holds Try.pinned (OpenSpec.upto octetNoneSpec)

/-- 'mainsheetlaw01.OctetTurns', WHERE WHAT IT READS IS OF BULK AT MOST 1048576: true; the input reads as it did. -/
def octetTurnsUptoRow : OpenClaim := { program := "ytllidfmecghccaa", sum := "73f72379caae77f3bd1fe302e2faa9d48a5bf7885dc797af9bc86139c8bfad46", func := "mainsheet/mainsheetlaw01.OctetTurns", spec := "octetTurns", unfollowed := true, recurses := true, apart := false, narrowed := true }
def OctetTurnsUptoSaid : Prop := octetTurnsUptoRow.holds Try.pinned (OpenSpec.upto octetTurnsSpec)

end Rows
end Go.Proofs.Ytllidfmecghccaa
