/-
  No cell of these rows narrows 'for every input' (looked for: loops, veiled, ifaces, maps, wideKeys, modest, calm, conditions, laid).
  DERIVED. THE GIVEN ROWS OF THIS SEAT. 6 by the template 'for every input the law returns true; each argument reads behind the call as it read before'; 0 by the template 'total and deterministic' (their statements: YtomfpciigaopiaaTotals.lean).
  GIVEN WITH THE SEED: the statements are not yours to turn. If you find one false, say at which input.
  Laid BY PROGRAM, IN A SANDBOX (cutbox-rows.mjs): the forced cells as the released guide's own fill.sh prints them over the translation 410a9e4d897bf277… (all of the seat's roots in one cut). By AI agents, Wed Nov 11 2026. No macro, syntax, notation, axiom, sorry.
-/
import Derived.Test.YtomfpciigaopiaaChecked
import GoSem.Claim
import GoSem.ClaimJoined
import GoSem.ClaimMapViews
import Derived.JoinedTies
import Derived.KernelRfl
namespace Go.Proofs.Ytomfpciigaopiaa
/- THE CELL 'sum', in the pinned program and in every row, IS THE sha256 OF THE DUMP (.gsa) THAT YtomfpciigaopiaaProg.lean LOADS. Nothing in Lean hashes anything: it is a label: what it is worth is what the hold of that sum in a sandbox is worth. -/
noncomputable def Try.pinned : Pinned := { name := "ytomfpciigaopiaa", sum := "410a9e4d897bf277628b4f67e69e646d0e43fb0b7c61c679857d64cb92662618", checked := Try.checked }
namespace Rows
def none {H : Type} : Left H := { results := [], args := [] }

/-- 'mainsheetlaw25.ShareTells': WHATEVER THE INPUT: true; the input reads as it did. -/
def shareTellsSpec : ChangeSpec := { name := "shareTells", fn := fun _ => fun
  | [d1, d2, d3] => { results := [.lit (.bool true)], args := [d1, d2, d3] }
  | _ => none }
def shareTellsRow : OpenClaim := { program := "ytomfpciigaopiaa", sum := "410a9e4d897bf277628b4f67e69e646d0e43fb0b7c61c679857d64cb92662618", func := "mainsheet/mainsheetlaw25.ShareTells", spec := "shareTells", unfollowed := true, recurses := true, apart := false }
def ShareTellsSaid : Prop := shareTellsRow.holds Try.pinned (OpenSpec.ofChange shareTellsSpec)

/-- ITS FALSE NEIGHBOUR: 'it returns false'. Refute it at one input. -/
def shareTellsWrong : ChangeSpec := { name := "shareTells", fn := fun _ => fun
  | [d1, d2, d3] => { results := [.lit (.bool false)], args := [d1, d2, d3] }
  | _ => none }
def ShareTellsWrongFalsely : Prop := shareTellsRow.holds Try.pinned (OpenSpec.ofChange shareTellsWrong)

/-- 'mainsheetlaw25.ShareBounds': WHATEVER THE INPUT: true; the input reads as it did. -/
def shareBoundsSpec : ChangeSpec := { name := "shareBounds", fn := fun _ => fun
  | [d1, d2] => { results := [.lit (.bool true)], args := [d1, d2] }
  | _ => none }
def shareBoundsRow : OpenClaim := { program := "ytomfpciigaopiaa", sum := "410a9e4d897bf277628b4f67e69e646d0e43fb0b7c61c679857d64cb92662618", func := "mainsheet/mainsheetlaw25.ShareBounds", spec := "shareBounds", unfollowed := true, recurses := true, apart := false }
def ShareBoundsSaid : Prop := shareBoundsRow.holds Try.pinned (OpenSpec.ofChange shareBoundsSpec)

/-- ITS FALSE NEIGHBOUR: 'it returns false'. Refute it at one input. -/
def shareBoundsWrong : ChangeSpec := { name := "shareBounds", fn := fun _ => fun
  | [d1, d2] => { results := [.lit (.bool false)], args := [d1, d2] }
  | _ => none }
def ShareBoundsWrongFalsely : Prop := shareBoundsRow.holds Try.pinned (OpenSpec.ofChange shareBoundsWrong)

/-- 'mainsheetlaw25.ShareFeasible': WHATEVER THE INPUT: true; the input reads as it did. -/
def shareFeasibleSpec : ChangeSpec := { name := "shareFeasible", fn := fun _ => fun
  | [d1, d2] => { results := [.lit (.bool true)], args := [d1, d2] }
  | _ => none }
def shareFeasibleRow : OpenClaim := { program := "ytomfpciigaopiaa", sum := "410a9e4d897bf277628b4f67e69e646d0e43fb0b7c61c679857d64cb92662618", func := "mainsheet/mainsheetlaw25.ShareFeasible", spec := "shareFeasible", unfollowed := true, recurses := true, apart := false }
def ShareFeasibleSaid : Prop := shareFeasibleRow.holds Try.pinned (OpenSpec.ofChange shareFeasibleSpec)

/-- ITS FALSE NEIGHBOUR: 'it returns false'. Refute it at one input. -/
def shareFeasibleWrong : ChangeSpec := { name := "shareFeasible", fn := fun _ => fun
  | [d1, d2] => { results := [.lit (.bool false)], args := [d1, d2] }
  | _ => none }
def ShareFeasibleWrongFalsely : Prop := shareFeasibleRow.holds Try.pinned (OpenSpec.ofChange shareFeasibleWrong)

/-- 'mainsheetlaw25.ShareSums': WHATEVER THE INPUT: true; the input reads as it did. -/
def shareSumsSpec : ChangeSpec := { name := "shareSums", fn := fun _ => fun
  | [d1, d2] => { results := [.lit (.bool true)], args := [d1, d2] }
  | _ => none }
def shareSumsRow : OpenClaim := { program := "ytomfpciigaopiaa", sum := "410a9e4d897bf277628b4f67e69e646d0e43fb0b7c61c679857d64cb92662618", func := "mainsheet/mainsheetlaw25.ShareSums", spec := "shareSums", unfollowed := true, recurses := true, apart := false }
def ShareSumsSaid : Prop := shareSumsRow.holds Try.pinned (OpenSpec.ofChange shareSumsSpec)

/-- ITS FALSE NEIGHBOUR: 'it returns false'. Refute it at one input. -/
def shareSumsWrong : ChangeSpec := { name := "shareSums", fn := fun _ => fun
  | [d1, d2] => { results := [.lit (.bool false)], args := [d1, d2] }
  | _ => none }
def ShareSumsWrongFalsely : Prop := shareSumsRow.holds Try.pinned (OpenSpec.ofChange shareSumsWrong)

/-- 'mainsheetlaw25.ShareApart': WHATEVER THE INPUT: true; the input reads as it did. -/
def shareApartSpec : ChangeSpec := { name := "shareApart", fn := fun _ => fun
  | [d1, d2, d3] => { results := [.lit (.bool true)], args := [d1, d2, d3] }
  | _ => none }
def shareApartRow : OpenClaim := { program := "ytomfpciigaopiaa", sum := "410a9e4d897bf277628b4f67e69e646d0e43fb0b7c61c679857d64cb92662618", func := "mainsheet/mainsheetlaw25.ShareApart", spec := "shareApart", unfollowed := true, recurses := true, apart := false }
def ShareApartSaid : Prop := shareApartRow.holds Try.pinned (OpenSpec.ofChange shareApartSpec)

/-- ITS FALSE NEIGHBOUR: 'it returns false'. Refute it at one input. -/
def shareApartWrong : ChangeSpec := { name := "shareApart", fn := fun _ => fun
  | [d1, d2, d3] => { results := [.lit (.bool false)], args := [d1, d2, d3] }
  | _ => none }
def ShareApartWrongFalsely : Prop := shareApartRow.holds Try.pinned (OpenSpec.ofChange shareApartWrong)

/-- 'mainsheetlaw25.ShareGrows': WHATEVER THE INPUT: true; the input reads as it did. -/
def shareGrowsSpec : ChangeSpec := { name := "shareGrows", fn := fun _ => fun
  | [d1, d2, d3] => { results := [.lit (.bool true)], args := [d1, d2, d3] }
  | _ => none }
def shareGrowsRow : OpenClaim := { program := "ytomfpciigaopiaa", sum := "410a9e4d897bf277628b4f67e69e646d0e43fb0b7c61c679857d64cb92662618", func := "mainsheet/mainsheetlaw25.ShareGrows", spec := "shareGrows", unfollowed := true, recurses := true, apart := false }
def ShareGrowsSaid : Prop := shareGrowsRow.holds Try.pinned (OpenSpec.ofChange shareGrowsSpec)

/-- ITS FALSE NEIGHBOUR: 'it returns false'. Refute it at one input. -/
def shareGrowsWrong : ChangeSpec := { name := "shareGrows", fn := fun _ => fun
  | [d1, d2, d3] => { results := [.lit (.bool false)], args := [d1, d2, d3] }
  | _ => none }
def ShareGrowsWrongFalsely : Prop := shareGrowsRow.holds Try.pinned (OpenSpec.ofChange shareGrowsWrong)

/- THE SECOND FORM. 'bulk': how many values and letters a reading holds, each counted each time it is reached (what is shared counts as often as it is met; a slice's spare places count too). A statement '..UptoSaid' is the law's where the arguments, and the package variables that the reading takes, are together of bulk at most 1048576: NARROWER than '..Said'. Prove '..Said' where nothing that the law and all that it calls make is longer than what came in: it says more and counts as full. Else prove '..UptoSaid'. A law counts once. -/
mutual
def uptoBulk {H : Type} : DataW H → Nat
  | .lit (.string bytes) => bytes.length + 1
  | .lit _ => 1
  | .nil => 1
  | .ptr d => uptoBulk d + 1
  | .slice elems spare => uptoBulkAll elems + uptoBulkAll spare + 1
  | .agg parts => uptoBulkAll parts + 1
  | .iface _ d => uptoBulk d + 1
  | .map entries => uptoBulkEntries entries + 1
  | .held _ => 1
def uptoBulkAll {H : Type} : List (DataW H) → Nat
  | [] => 0
  | d :: r => uptoBulk d + uptoBulkAll r
def uptoBulkEntries {H : Type} : List (Lit × DataW H) → Nat
  | [] => 0
  | x :: r => uptoBulkEntry x + uptoBulkEntries r
def uptoBulkEntry {H : Type} : Lit × DataW H → Nat
  | (.string bytes, d) => bytes.length + uptoBulk d + 1
  | (_, d) => uptoBulk d + 1
 end
def uptoSmall : (H : Type) → List (DataW H) → Bool := fun _ ds => decide (uptoBulkAll ds ≤ 1048576)
def OpenSpec.upto (s : _root_.Go.ChangeSpec) : _root_.Go.OpenSpec := { _root_.Go.OpenSpec.ofChange s with cond := some uptoSmall }

/-- 'mainsheetlaw25.ShareTells', WHERE WHAT IT READS IS OF BULK AT MOST 1048576: true; the input reads as it did. -/
def shareTellsUptoRow : OpenClaim := { program := "ytomfpciigaopiaa", sum := "410a9e4d897bf277628b4f67e69e646d0e43fb0b7c61c679857d64cb92662618", func := "mainsheet/mainsheetlaw25.ShareTells", spec := "shareTells", unfollowed := true, recurses := true, apart := false, narrowed := true }
def ShareTellsUptoSaid : Prop := shareTellsUptoRow.holds Try.pinned (OpenSpec.upto shareTellsSpec)

/-- 'mainsheetlaw25.ShareBounds', WHERE WHAT IT READS IS OF BULK AT MOST 1048576: true; the input reads as it did. -/
def shareBoundsUptoRow : OpenClaim := { program := "ytomfpciigaopiaa", sum := "410a9e4d897bf277628b4f67e69e646d0e43fb0b7c61c679857d64cb92662618", func := "mainsheet/mainsheetlaw25.ShareBounds", spec := "shareBounds", unfollowed := true, recurses := true, apart := false, narrowed := true }
def ShareBoundsUptoSaid : Prop := shareBoundsUptoRow.holds Try.pinned (OpenSpec.upto shareBoundsSpec)

/-- 'mainsheetlaw25.ShareFeasible', WHERE WHAT IT READS IS OF BULK AT MOST 1048576: true; the input reads as it did. -/
def shareFeasibleUptoRow : OpenClaim := { program := "ytomfpciigaopiaa", sum := "410a9e4d897bf277628b4f67e69e646d0e43fb0b7c61c679857d64cb92662618", func := "mainsheet/mainsheetlaw25.ShareFeasible", spec := "shareFeasible", unfollowed := true, recurses := true, apart := false, narrowed := true }
def ShareFeasibleUptoSaid : Prop := shareFeasibleUptoRow.holds Try.pinned (OpenSpec.upto shareFeasibleSpec)

/-- 'mainsheetlaw25.ShareSums', WHERE WHAT IT READS IS OF BULK AT MOST 1048576: true; the input reads as it did. -/
def shareSumsUptoRow : OpenClaim := { program := "ytomfpciigaopiaa", sum := "410a9e4d897bf277628b4f67e69e646d0e43fb0b7c61c679857d64cb92662618", func := "mainsheet/mainsheetlaw25.ShareSums", spec := "shareSums", unfollowed := true, recurses := true, apart := false, narrowed := true }
def ShareSumsUptoSaid : Prop := shareSumsUptoRow.holds Try.pinned (OpenSpec.upto shareSumsSpec)

/-- 'mainsheetlaw25.ShareApart', WHERE WHAT IT READS IS OF BULK AT MOST 1048576: true; the input reads as it did. -/
def shareApartUptoRow : OpenClaim := { program := "ytomfpciigaopiaa", sum := "410a9e4d897bf277628b4f67e69e646d0e43fb0b7c61c679857d64cb92662618", func := "mainsheet/mainsheetlaw25.ShareApart", spec := "shareApart", unfollowed := true, recurses := true, apart := false, narrowed := true }
def ShareApartUptoSaid : Prop := shareApartUptoRow.holds Try.pinned (OpenSpec.upto shareApartSpec)

/-- 'mainsheetlaw25.ShareGrows', WHERE WHAT IT READS IS OF BULK AT MOST 1048576: true; the input reads as it did. -/
def shareGrowsUptoRow : OpenClaim := { program := "ytomfpciigaopiaa", sum := "410a9e4d897bf277628b4f67e69e646d0e43fb0b7c61c679857d64cb92662618", func := "mainsheet/mainsheetlaw25.ShareGrows", spec := "shareGrows", unfollowed := true, recurses := true, apart := false, narrowed := true }
def ShareGrowsUptoSaid : Prop := shareGrowsUptoRow.holds Try.pinned (OpenSpec.upto shareGrowsSpec)

end Rows
end Go.Proofs.Ytomfpciigaopiaa
