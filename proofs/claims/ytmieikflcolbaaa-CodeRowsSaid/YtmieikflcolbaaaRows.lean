/-
  No cell of these rows narrows 'for every input' (looked for: loops, veiled, ifaces, maps, wideKeys, modest, calm, conditions, laid).
  DERIVED. THE GIVEN ROWS OF THIS SEAT. 6 by the template 'for every input the law returns true; each argument reads behind the call as it read before'; 0 by the template 'total and deterministic' (their statements: YtmieikflcolbaaaTotals.lean).
  GIVEN WITH THE SEED: the statements are not yours to turn. If you find one false, say at which input.
  Laid BY PROGRAM, IN A SANDBOX (cutbox-rows.mjs): the forced cells as the released guide's own fill.sh prints them over the translation 8bc2f98efa38adf5… (all of the seat's roots in one cut). By AI agents, Wed Nov 11 2026. No macro, syntax, notation, axiom, sorry.
-/
import Derived.Test.YtmieikflcolbaaaChecked
import GoSem.Claim
import GoSem.ClaimJoined
import GoSem.ClaimMapViews
import Derived.JoinedTies
import Derived.KernelRfl
namespace Go.Proofs.Ytmieikflcolbaaa
/- THE CELL 'sum', in the pinned program and in every row, IS THE sha256 OF THE DUMP (.gsa) THAT YtmieikflcolbaaaProg.lean LOADS. Nothing in Lean hashes anything: it is a label: what it is worth is what the hold of that sum in a sandbox is worth. -/
noncomputable def Try.pinned : Pinned := { name := "ytmieikflcolbaaa", sum := "8bc2f98efa38adf5d13bd5627358afe6847b8dd835ba6dd6272f3e0b7205bbef", checked := Try.checked }
namespace Rows
def none {H : Type} : Left H := { results := [], args := [] }

/-- 'mainsheetlaw26.CodeBytes': WHATEVER THE INPUT: true; the input reads as it did. -/
def codeBytesSpec : ChangeSpec := { name := "codeBytes", fn := fun _ => fun
  | [d] => { results := [.lit (.bool true)], args := [d] }
  | _ => none }
def codeBytesRow : OpenClaim := { program := "ytmieikflcolbaaa", sum := "8bc2f98efa38adf5d13bd5627358afe6847b8dd835ba6dd6272f3e0b7205bbef", func := "mainsheet/mainsheetlaw26.CodeBytes", spec := "codeBytes", unfollowed := true, recurses := true, apart := false }
def CodeBytesSaid : Prop := codeBytesRow.holds Try.pinned (OpenSpec.ofChange codeBytesSpec)

/-- ITS FALSE NEIGHBOUR: 'it returns false'. Refute it at one input. -/
def codeBytesWrong : ChangeSpec := { name := "codeBytes", fn := fun _ => fun
  | [d] => { results := [.lit (.bool false)], args := [d] }
  | _ => none }
def CodeBytesWrongFalsely : Prop := codeBytesRow.holds Try.pinned (OpenSpec.ofChange codeBytesWrong)

/-- 'mainsheetlaw26.CodeApart': WHATEVER THE INPUT: true; the input reads as it did. -/
def codeApartSpec : ChangeSpec := { name := "codeApart", fn := fun _ => fun
  | [d1, d2] => { results := [.lit (.bool true)], args := [d1, d2] }
  | _ => none }
def codeApartRow : OpenClaim := { program := "ytmieikflcolbaaa", sum := "8bc2f98efa38adf5d13bd5627358afe6847b8dd835ba6dd6272f3e0b7205bbef", func := "mainsheet/mainsheetlaw26.CodeApart", spec := "codeApart", unfollowed := true, recurses := true, apart := false }
def CodeApartSaid : Prop := codeApartRow.holds Try.pinned (OpenSpec.ofChange codeApartSpec)

/-- ITS FALSE NEIGHBOUR: 'it returns false'. Refute it at one input. -/
def codeApartWrong : ChangeSpec := { name := "codeApart", fn := fun _ => fun
  | [d1, d2] => { results := [.lit (.bool false)], args := [d1, d2] }
  | _ => none }
def CodeApartWrongFalsely : Prop := codeApartRow.holds Try.pinned (OpenSpec.ofChange codeApartWrong)

/-- 'mainsheetlaw26.CodeEvents': WHATEVER THE INPUT: true; the input reads as it did. -/
def codeEventsSpec : ChangeSpec := { name := "codeEvents", fn := fun _ => fun
  | [d] => { results := [.lit (.bool true)], args := [d] }
  | _ => none }
def codeEventsRow : OpenClaim := { program := "ytmieikflcolbaaa", sum := "8bc2f98efa38adf5d13bd5627358afe6847b8dd835ba6dd6272f3e0b7205bbef", func := "mainsheet/mainsheetlaw26.CodeEvents", spec := "codeEvents", unfollowed := true, recurses := true, apart := false }
def CodeEventsSaid : Prop := codeEventsRow.holds Try.pinned (OpenSpec.ofChange codeEventsSpec)

/-- ITS FALSE NEIGHBOUR: 'it returns false'. Refute it at one input. -/
def codeEventsWrong : ChangeSpec := { name := "codeEvents", fn := fun _ => fun
  | [d] => { results := [.lit (.bool false)], args := [d] }
  | _ => none }
def CodeEventsWrongFalsely : Prop := codeEventsRow.holds Try.pinned (OpenSpec.ofChange codeEventsWrong)

/-- 'mainsheetlaw26.CodeBack': WHATEVER THE INPUT: true; the input reads as it did. -/
def codeBackSpec : ChangeSpec := { name := "codeBack", fn := fun _ => fun
  | [d1, d2] => { results := [.lit (.bool true)], args := [d1, d2] }
  | _ => none }
def codeBackRow : OpenClaim := { program := "ytmieikflcolbaaa", sum := "8bc2f98efa38adf5d13bd5627358afe6847b8dd835ba6dd6272f3e0b7205bbef", func := "mainsheet/mainsheetlaw26.CodeBack", spec := "codeBack", unfollowed := true, recurses := true, apart := false }
def CodeBackSaid : Prop := codeBackRow.holds Try.pinned (OpenSpec.ofChange codeBackSpec)

/-- ITS FALSE NEIGHBOUR: 'it returns false'. Refute it at one input. -/
def codeBackWrong : ChangeSpec := { name := "codeBack", fn := fun _ => fun
  | [d1, d2] => { results := [.lit (.bool false)], args := [d1, d2] }
  | _ => none }
def CodeBackWrongFalsely : Prop := codeBackRow.holds Try.pinned (OpenSpec.ofChange codeBackWrong)

/-- 'mainsheetlaw26.CodeRows': WHATEVER THE INPUT: true; the input reads as it did. -/
def codeRowsSpec : ChangeSpec := { name := "codeRows", fn := fun _ => fun
  | [d1, d2, d3] => { results := [.lit (.bool true)], args := [d1, d2, d3] }
  | _ => none }
def codeRowsRow : OpenClaim := { program := "ytmieikflcolbaaa", sum := "8bc2f98efa38adf5d13bd5627358afe6847b8dd835ba6dd6272f3e0b7205bbef", func := "mainsheet/mainsheetlaw26.CodeRows", spec := "codeRows", unfollowed := true, recurses := true, apart := false }
def CodeRowsSaid : Prop := codeRowsRow.holds Try.pinned (OpenSpec.ofChange codeRowsSpec)

/-- ITS FALSE NEIGHBOUR: 'it returns false'. Refute it at one input. -/
def codeRowsWrong : ChangeSpec := { name := "codeRows", fn := fun _ => fun
  | [d1, d2, d3] => { results := [.lit (.bool false)], args := [d1, d2, d3] }
  | _ => none }
def CodeRowsWrongFalsely : Prop := codeRowsRow.holds Try.pinned (OpenSpec.ofChange codeRowsWrong)

/-- 'mainsheetlaw26.CodeList': WHATEVER THE INPUT: true; the input reads as it did. -/
def codeListSpec : ChangeSpec := { name := "codeList", fn := fun _ => fun
  | [d1, d2] => { results := [.lit (.bool true)], args := [d1, d2] }
  | _ => none }
def codeListRow : OpenClaim := { program := "ytmieikflcolbaaa", sum := "8bc2f98efa38adf5d13bd5627358afe6847b8dd835ba6dd6272f3e0b7205bbef", func := "mainsheet/mainsheetlaw26.CodeList", spec := "codeList", unfollowed := true, recurses := true, apart := false }
def CodeListSaid : Prop := codeListRow.holds Try.pinned (OpenSpec.ofChange codeListSpec)

/-- ITS FALSE NEIGHBOUR: 'it returns false'. Refute it at one input. -/
def codeListWrong : ChangeSpec := { name := "codeList", fn := fun _ => fun
  | [d1, d2] => { results := [.lit (.bool false)], args := [d1, d2] }
  | _ => none }
def CodeListWrongFalsely : Prop := codeListRow.holds Try.pinned (OpenSpec.ofChange codeListWrong)

/- THE SECOND FORM. 'bulk': how many values and letters a reading holds, each counted each time it is reached (what is shared counts as often as it is met; a slice's spare places count too). A statement '..UptoSaid' is the law's where the arguments, and the package variables that the reading takes, are together of bulk at most 1048576: NARROWER than '..Said'. Prove '..Said' where nothing that the law and all that it calls make is longer than what came in: it says more and counts as full. Else prove '..UptoSaid'. A law counts once. -/
mutual
def uptoBulk {H : Type} : DataW H → Nat
  | .lit (.string bytes) => bytes.length + 1
  | .lit _ => 1
  | .nil => 1
  | .ptr d => uptoBulk d + 1
  | .slice elems spare => uptoBulkAll elems + uptoBulkAll spare + 1
  | .agg parts => uptoBulkAll parts + 1
  | .iface _ d => uptoBulk d + 1
  | .map entries => uptoBulkEntries entries + 1
  | .held _ => 1
def uptoBulkAll {H : Type} : List (DataW H) → Nat
  | [] => 0
  | d :: r => uptoBulk d + uptoBulkAll r
def uptoBulkEntries {H : Type} : List (Lit × DataW H) → Nat
  | [] => 0
  | x :: r => uptoBulkEntry x + uptoBulkEntries r
def uptoBulkEntry {H : Type} : Lit × DataW H → Nat
  | (.string bytes, d) => bytes.length + uptoBulk d + 1
  | (_, d) => uptoBulk d + 1
 end
def uptoSmall : (H : Type) → List (DataW H) → Bool := fun _ ds => decide (uptoBulkAll ds ≤ 1048576)
def OpenSpec.upto (s : _root_.Go.ChangeSpec) : _root_.Go.OpenSpec := { _root_.Go.OpenSpec.ofChange s with cond := some uptoSmall }

/-- 'mainsheetlaw26.CodeBytes', WHERE WHAT IT READS IS OF BULK AT MOST 1048576: true; the input reads as it did. -/
def codeBytesUptoRow : OpenClaim := { program := "ytmieikflcolbaaa", sum := "8bc2f98efa38adf5d13bd5627358afe6847b8dd835ba6dd6272f3e0b7205bbef", func := "mainsheet/mainsheetlaw26.CodeBytes", spec := "codeBytes", unfollowed := true, recurses := true, apart := false, narrowed := true }
def CodeBytesUptoSaid : Prop := codeBytesUptoRow.holds Try.pinned (OpenSpec.upto codeBytesSpec)

/-- 'mainsheetlaw26.CodeApart', WHERE WHAT IT READS IS OF BULK AT MOST 1048576: true; the input reads as it did. -/
def codeApartUptoRow : OpenClaim := { program := "ytmieikflcolbaaa", sum := "8bc2f98efa38adf5d13bd5627358afe6847b8dd835ba6dd6272f3e0b7205bbef", func := "mainsheet/mainsheetlaw26.CodeApart", spec := "codeApart", unfollowed := true, recurses := true, apart := false, narrowed := true }
def CodeApartUptoSaid : Prop := codeApartUptoRow.holds Try.pinned (OpenSpec.upto codeApartSpec)

/-- 'mainsheetlaw26.CodeEvents', WHERE WHAT IT READS IS OF BULK AT MOST 1048576: true; the input reads as it did. -/
def codeEventsUptoRow : OpenClaim := { program := "ytmieikflcolbaaa", sum := "8bc2f98efa38adf5d13bd5627358afe6847b8dd835ba6dd6272f3e0b7205bbef", func := "mainsheet/mainsheetlaw26.CodeEvents", spec := "codeEvents", unfollowed := true, recurses := true, apart := false, narrowed := true }
def CodeEventsUptoSaid : Prop := codeEventsUptoRow.holds Try.pinned (OpenSpec.upto codeEventsSpec)

/-- 'mainsheetlaw26.CodeBack', WHERE WHAT IT READS IS OF BULK AT MOST 1048576: true; the input reads as it did. -/
def codeBackUptoRow : OpenClaim := { program := "ytmieikflcolbaaa", sum := "8bc2f98efa38adf5d13bd5627358afe6847b8dd835ba6dd6272f3e0b7205bbef", func := "mainsheet/mainsheetlaw26.CodeBack", spec := "codeBack", unfollowed := true, recurses := true, apart := false, narrowed := true }
def CodeBackUptoSaid : Prop := codeBackUptoRow.holds Try.pinned (OpenSpec.upto codeBackSpec)

/-- 'mainsheetlaw26.CodeRows', WHERE WHAT IT READS IS OF BULK AT MOST 1048576: true; the input reads as it did. -/
def codeRowsUptoRow : OpenClaim := { program := "ytmieikflcolbaaa", sum := "8bc2f98efa38adf5d13bd5627358afe6847b8dd835ba6dd6272f3e0b7205bbef", func := "mainsheet/mainsheetlaw26.CodeRows", spec := "codeRows", unfollowed := true, recurses := true, apart := false, narrowed := true }
def CodeRowsUptoSaid : Prop := codeRowsUptoRow.holds Try.pinned (OpenSpec.upto codeRowsSpec)

/-- 'mainsheetlaw26.CodeList', WHERE WHAT IT READS IS OF BULK AT MOST 1048576: true; the input reads as it did. -/
def codeListUptoRow : OpenClaim := { program := "ytmieikflcolbaaa", sum := "8bc2f98efa38adf5d13bd5627358afe6847b8dd835ba6dd6272f3e0b7205bbef", func := "mainsheet/mainsheetlaw26.CodeList", spec := "codeList", unfollowed := true, recurses := true, apart := false, narrowed := true }
def CodeListUptoSaid : Prop := codeListUptoRow.holds Try.pinned (OpenSpec.upto codeListSpec)

end Rows
end Go.Proofs.Ytmieikflcolbaaa
