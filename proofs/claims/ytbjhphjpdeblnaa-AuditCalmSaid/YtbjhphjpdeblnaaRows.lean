/-
  No cell of these rows narrows 'for every input' (looked for: loops, veiled, ifaces, maps, wideKeys, modest, calm, conditions, laid).
  DERIVED. THE GIVEN ROWS OF THIS SEAT. 4 by the template 'for every input the law returns true; each argument reads behind the call as it read before'; 0 by the template 'total and deterministic' (their statements: YtbjhphjpdeblnaaTotals.lean).
  GIVEN WITH THE SEED: the statements are not yours to turn. If you find one false, say at which input.
  Laid BY PROGRAM, IN A SANDBOX (cutbox-rows.mjs): the forced cells as the released guide's own fill.sh prints them over the translation 3eff3c0d418607c7… (all of the seat's roots in one cut). By AI agents, Wed Nov 11 2026. No macro, syntax, notation, axiom, sorry.
-/
import Derived.Test.YtbjhphjpdeblnaaChecked
import GoSem.Claim
import GoSem.ClaimJoined
import GoSem.ClaimMapViews
import Derived.JoinedTies
import Derived.KernelRfl
namespace Go.Proofs.Ytbjhphjpdeblnaa
/- THE CELL 'sum', in the pinned program and in every row, IS THE sha256 OF THE DUMP (.gsa) THAT YtbjhphjpdeblnaaProg.lean LOADS. Nothing in Lean hashes anything: it is a label: what it is worth is what the hold of that sum in a sandbox is worth. -/
noncomputable def Try.pinned : Pinned := { name := "ytbjhphjpdeblnaa", sum := "3eff3c0d418607c781b54697d03f384741d8182dd0e14a058b717b3665f3fec7", checked := Try.checked }
namespace Rows
def none {H : Type} : Left H := { results := [], args := [] }

/-- 'mainsheetlaw29.AuditAdds': WHATEVER THE INPUT: true; the input reads as it did. -/
def auditAddsSpec : ChangeSpec := { name := "auditAdds", fn := fun _ => fun
  | [d1, d2, d3] => { results := [.lit (.bool true)], args := [d1, d2, d3] }
  | _ => none }
def auditAddsRow : OpenClaim := { program := "ytbjhphjpdeblnaa", sum := "3eff3c0d418607c781b54697d03f384741d8182dd0e14a058b717b3665f3fec7", func := "mainsheet/mainsheetlaw29.AuditAdds", spec := "auditAdds", unfollowed := true, recurses := true, apart := false }
def AuditAddsSaid : Prop := auditAddsRow.holds Try.pinned (OpenSpec.ofChange auditAddsSpec)

/-- ITS FALSE NEIGHBOUR: 'it returns false'. Refute it at one input. -/
def auditAddsWrong : ChangeSpec := { name := "auditAdds", fn := fun _ => fun
  | [d1, d2, d3] => { results := [.lit (.bool false)], args := [d1, d2, d3] }
  | _ => none }
def AuditAddsWrongFalsely : Prop := auditAddsRow.holds Try.pinned (OpenSpec.ofChange auditAddsWrong)

/-- 'mainsheetlaw29.AuditTimes': WHATEVER THE INPUT: true; the input reads as it did. -/
def auditTimesSpec : ChangeSpec := { name := "auditTimes", fn := fun _ => fun
  | [d1, d2, d3] => { results := [.lit (.bool true)], args := [d1, d2, d3] }
  | _ => none }
def auditTimesRow : OpenClaim := { program := "ytbjhphjpdeblnaa", sum := "3eff3c0d418607c781b54697d03f384741d8182dd0e14a058b717b3665f3fec7", func := "mainsheet/mainsheetlaw29.AuditTimes", spec := "auditTimes", unfollowed := true, recurses := true, apart := false }
def AuditTimesSaid : Prop := auditTimesRow.holds Try.pinned (OpenSpec.ofChange auditTimesSpec)

/-- ITS FALSE NEIGHBOUR: 'it returns false'. Refute it at one input. -/
def auditTimesWrong : ChangeSpec := { name := "auditTimes", fn := fun _ => fun
  | [d1, d2, d3] => { results := [.lit (.bool false)], args := [d1, d2, d3] }
  | _ => none }
def AuditTimesWrongFalsely : Prop := auditTimesRow.holds Try.pinned (OpenSpec.ofChange auditTimesWrong)

/-- 'mainsheetlaw29.AuditSums': WHATEVER THE INPUT: true; the input reads as it did. -/
def auditSumsSpec : ChangeSpec := { name := "auditSums", fn := fun _ => fun
  | [d1, d2, d3] => { results := [.lit (.bool true)], args := [d1, d2, d3] }
  | _ => none }
def auditSumsRow : OpenClaim := { program := "ytbjhphjpdeblnaa", sum := "3eff3c0d418607c781b54697d03f384741d8182dd0e14a058b717b3665f3fec7", func := "mainsheet/mainsheetlaw29.AuditSums", spec := "auditSums", unfollowed := true, recurses := true, apart := false }
def AuditSumsSaid : Prop := auditSumsRow.holds Try.pinned (OpenSpec.ofChange auditSumsSpec)

/-- ITS FALSE NEIGHBOUR: 'it returns false'. Refute it at one input. -/
def auditSumsWrong : ChangeSpec := { name := "auditSums", fn := fun _ => fun
  | [d1, d2, d3] => { results := [.lit (.bool false)], args := [d1, d2, d3] }
  | _ => none }
def AuditSumsWrongFalsely : Prop := auditSumsRow.holds Try.pinned (OpenSpec.ofChange auditSumsWrong)

/-- 'mainsheetlaw29.AuditCalm': WHATEVER THE INPUT: true; the input reads as it did. -/
def auditCalmSpec : ChangeSpec := { name := "auditCalm", fn := fun _ => fun
  | [d1, d2, d3] => { results := [.lit (.bool true)], args := [d1, d2, d3] }
  | _ => none }
def auditCalmRow : OpenClaim := { program := "ytbjhphjpdeblnaa", sum := "3eff3c0d418607c781b54697d03f384741d8182dd0e14a058b717b3665f3fec7", func := "mainsheet/mainsheetlaw29.AuditCalm", spec := "auditCalm", unfollowed := true, recurses := true, apart := false }
def AuditCalmSaid : Prop := auditCalmRow.holds Try.pinned (OpenSpec.ofChange auditCalmSpec)

/-- ITS FALSE NEIGHBOUR: 'it returns false'. Refute it at one input. -/
def auditCalmWrong : ChangeSpec := { name := "auditCalm", fn := fun _ => fun
  | [d1, d2, d3] => { results := [.lit (.bool false)], args := [d1, d2, d3] }
  | _ => none }
def AuditCalmWrongFalsely : Prop := auditCalmRow.holds Try.pinned (OpenSpec.ofChange auditCalmWrong)

/- THE SECOND FORM. 'bulk': how many values and letters a reading holds, each counted each time it is reached (what is shared counts as often as it is met; a slice's spare places count too). A statement '..UptoSaid' is the law's where the arguments, and the package variables that the reading takes, are together of bulk at most 1048576: NARROWER than '..Said'. Prove '..Said' where nothing that the law and all that it calls make is longer than what came in: it says more and counts as full. Else prove '..UptoSaid'. A law counts once. -/
mutual
def uptoBulk {H : Type} : DataW H → Nat
  | .lit (.string bytes) => bytes.length + 1
  | .lit _ => 1
  | .nil => 1
  | .ptr d => uptoBulk d + 1
  | .slice elems spare => uptoBulkAll elems + uptoBulkAll spare + 1
  | .agg parts => uptoBulkAll parts + 1
  | .iface _ d => uptoBulk d + 1
  | .map entries => uptoBulkEntries entries + 1
  | .held _ => 1
def uptoBulkAll {H : Type} : List (DataW H) → Nat
  | [] => 0
  | d :: r => uptoBulk d + uptoBulkAll r
def uptoBulkEntries {H : Type} : List (Lit × DataW H) → Nat
  | [] => 0
  | x :: r => uptoBulkEntry x + uptoBulkEntries r
def uptoBulkEntry {H : Type} : Lit × DataW H → Nat
  | (.string bytes, d) => bytes.length + uptoBulk d + 1
  | (_, d) => uptoBulk d + 1
 end
def uptoSmall : (H : Type) → List (DataW H) → Bool := fun _ ds => decide (uptoBulkAll ds ≤ 1048576)
def OpenSpec.upto (s : _root_.Go.ChangeSpec) : _root_.Go.OpenSpec := { _root_.Go.OpenSpec.ofChange s with cond := some uptoSmall }

/-- 'mainsheetlaw29.AuditAdds', WHERE WHAT IT READS IS OF BULK AT MOST 1048576: true; the input reads as it did. -/
def auditAddsUptoRow : OpenClaim := { program := "ytbjhphjpdeblnaa", sum := "3eff3c0d418607c781b54697d03f384741d8182dd0e14a058b717b3665f3fec7", func := "mainsheet/mainsheetlaw29.AuditAdds", spec := "auditAdds", unfollowed := true, recurses := true, apart := false, narrowed := true }
def AuditAddsUptoSaid : Prop := auditAddsUptoRow.holds Try.pinned (OpenSpec.upto auditAddsSpec)

/-- 'mainsheetlaw29.AuditTimes', WHERE WHAT IT READS IS OF BULK AT MOST 1048576: true; the input reads as it did. -/
def auditTimesUptoRow : OpenClaim := { program := "ytbjhphjpdeblnaa", sum := "3eff3c0d418607c781b54697d03f384741d8182dd0e14a058b717b3665f3fec7", func := "mainsheet/mainsheetlaw29.AuditTimes", spec := "auditTimes", unfollowed := true, recurses := true, apart := false, narrowed := true }
def AuditTimesUptoSaid : Prop := auditTimesUptoRow.holds Try.pinned (OpenSpec.upto auditTimesSpec)

/-- 'mainsheetlaw29.AuditSums', WHERE WHAT IT READS IS OF BULK AT MOST 1048576: true; the input reads as it did. -/
def auditSumsUptoRow : OpenClaim := { program := "ytbjhphjpdeblnaa", sum := "3eff3c0d418607c781b54697d03f384741d8182dd0e14a058b717b3665f3fec7", func := "mainsheet/mainsheetlaw29.AuditSums", spec := "auditSums", unfollowed := true, recurses := true, apart := false, narrowed := true }
def AuditSumsUptoSaid : Prop := auditSumsUptoRow.holds Try.pinned (OpenSpec.upto auditSumsSpec)

/-- 'mainsheetlaw29.AuditCalm', WHERE WHAT IT READS IS OF BULK AT MOST 1048576: true; the input reads as it did. -/
def auditCalmUptoRow : OpenClaim := { program := "ytbjhphjpdeblnaa", sum := "3eff3c0d418607c781b54697d03f384741d8182dd0e14a058b717b3665f3fec7", func := "mainsheet/mainsheetlaw29.AuditCalm", spec := "auditCalm", unfollowed := true, recurses := true, apart := false, narrowed := true }
def AuditCalmUptoSaid : Prop := auditCalmUptoRow.holds Try.pinned (OpenSpec.upto auditCalmSpec)

end Rows
end Go.Proofs.Ytbjhphjpdeblnaa
