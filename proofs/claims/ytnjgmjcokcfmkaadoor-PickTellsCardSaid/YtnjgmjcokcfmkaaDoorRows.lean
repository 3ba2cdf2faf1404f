/-
  NARROWER THAN 'FOR EVERY INPUT', by the rows' own cells (each row's printed sentence says how): PickPicks: laid · PickChoices: laid · PickBack: laid · PickWaits: laid · PickAlone: laid · PickWhole: laid · PickTells: laid.
  DERIVED. THE GIVEN ROWS OF THIS SEAT. 7 by the template 'for every input the law returns true; each argument reads behind the call as it read before'; 0 by the template 'total and deterministic' (their statements: YtnjgmjcokcfmkaaDoorTotals.lean).
  GIVEN WITH THE SEED: the statements are not yours to turn. If you find one false, say at which input.
  Laid BY PROGRAM, IN A SANDBOX (cutbox-rows.mjs): the forced cells as the released guide's own fill.sh prints them over the translation d30b8474487aecf5… (all of the seat's roots in one cut). By AI agents, Wed Nov 11 2026. No macro, syntax, notation, axiom, sorry.
-/
import Derived.Test.YtnjgmjcokcfmkaaDoorChecked
import GoSem.Claim
import GoSem.ClaimJoined
import GoSem.ClaimMapViews
import Derived.JoinedTies
import Derived.KernelRfl
namespace Go.Proofs.YtnjgmjcokcfmkaaDoor
/- THE CELL 'sum', in the pinned program and in every row, IS THE sha256 OF THE DUMP (.gsa) THAT YtnjgmjcokcfmkaaDoorProg.lean LOADS. Nothing in Lean hashes anything: it is a label: what it is worth is what the hold of that sum in a sandbox is worth. -/
noncomputable def Tryd.pinned : Pinned := { name := "ytnjgmjcokcfmkaadoor", sum := "d30b8474487aecf54e12c420cf7d94bf9c64b9614ab925b18405e359594d2c46", checked := Tryd.checked }
namespace Rows
def none {H : Type} : Left H := { results := [], args := [] }

/- WHAT THE LISTED PACKAGE-LEVEL VARIABLES READ AS WHEN THE CALL BEGINS. Each datum BY PROGRAM (the guide's laid-datum.mjs) off the statement by which the dump's own 'gosem.cut.vars' lays the variable. In a bare row this is a premise. The card (YtnjgmjcokcfmkaaDoorCards.lean) ties it to the program's text. -/
def laid_math_bits_deBruijn32tab {H : Type} : DataW H := .agg [.lit (.int .u8 0), .lit (.int .u8 1), .lit (.int .u8 28), .lit (.int .u8 2), .lit (.int .u8 29), .lit (.int .u8 14), .lit (.int .u8 24), .lit (.int .u8 3), .lit (.int .u8 30), .lit (.int .u8 22), .lit (.int .u8 20), .lit (.int .u8 15), .lit (.int .u8 25), .lit (.int .u8 17), .lit (.int .u8 4), .lit (.int .u8 8), .lit (.int .u8 31), .lit (.int .u8 27), .lit (.int .u8 13), .lit (.int .u8 23), .lit (.int .u8 21), .lit (.int .u8 19), .lit (.int .u8 16), .lit (.int .u8 7), .lit (.int .u8 26), .lit (.int .u8 12), .lit (.int .u8 18), .lit (.int .u8 6), .lit (.int .u8 11), .lit (.int .u8 5), .lit (.int .u8 10), .lit (.int .u8 9)]

/-- 'mainsheetlaw19.PickPicks': WHATEVER THE INPUT: true; the input reads as it did. -/
def pickPicksSpec : ChangeSpec := { name := "pickPicks", fn := fun _ => fun
  | [d] => { results := [.lit (.bool true)], args := [d] }
  | _ => none }
def pickPicksRow : OpenClaim := { program := "ytnjgmjcokcfmkaadoor", sum := "d30b8474487aecf54e12c420cf7d94bf9c64b9614ab925b18405e359594d2c46", func := "mainsheet/mainsheetlaw19.PickPicks", spec := "pickPicks", unfollowed := true, recurses := true, named := ["math/bits.deBruijn32tab"], apart := false, laid := [("math/bits.deBruijn32tab", laid_math_bits_deBruijn32tab)] }
def PickPicksSaid : Prop := pickPicksRow.holds Tryd.pinned (OpenSpec.ofChange pickPicksSpec)

/-- ITS FALSE NEIGHBOUR: 'it returns false'. Refute it at one input. -/
def pickPicksWrong : ChangeSpec := { name := "pickPicks", fn := fun _ => fun
  | [d] => { results := [.lit (.bool false)], args := [d] }
  | _ => none }
def PickPicksWrongFalsely : Prop := pickPicksRow.holds Tryd.pinned (OpenSpec.ofChange pickPicksWrong)

/-- 'mainsheetlaw19.PickChoices': WHATEVER THE INPUT: true; the input reads as it did. -/
def pickChoicesSpec : ChangeSpec := { name := "pickChoices", fn := fun _ => fun
  | [d1, d2] => { results := [.lit (.bool true)], args := [d1, d2] }
  | _ => none }
def pickChoicesRow : OpenClaim := { program := "ytnjgmjcokcfmkaadoor", sum := "d30b8474487aecf54e12c420cf7d94bf9c64b9614ab925b18405e359594d2c46", func := "mainsheet/mainsheetlaw19.PickChoices", spec := "pickChoices", unfollowed := true, recurses := true, named := ["math/bits.deBruijn32tab"], apart := false, laid := [("math/bits.deBruijn32tab", laid_math_bits_deBruijn32tab)] }
def PickChoicesSaid : Prop := pickChoicesRow.holds Tryd.pinned (OpenSpec.ofChange pickChoicesSpec)

/-- ITS FALSE NEIGHBOUR: 'it returns false'. Refute it at one input. -/
def pickChoicesWrong : ChangeSpec := { name := "pickChoices", fn := fun _ => fun
  | [d1, d2] => { results := [.lit (.bool false)], args := [d1, d2] }
  | _ => none }
def PickChoicesWrongFalsely : Prop := pickChoicesRow.holds Tryd.pinned (OpenSpec.ofChange pickChoicesWrong)

/-- 'mainsheetlaw19.PickBack': WHATEVER THE INPUT: true; the input reads as it did. -/
def pickBackSpec : ChangeSpec := { name := "pickBack", fn := fun _ => fun
  | [d] => { results := [.lit (.bool true)], args := [d] }
  | _ => none }
def pickBackRow : OpenClaim := { program := "ytnjgmjcokcfmkaadoor", sum := "d30b8474487aecf54e12c420cf7d94bf9c64b9614ab925b18405e359594d2c46", func := "mainsheet/mainsheetlaw19.PickBack", spec := "pickBack", unfollowed := true, recurses := true, named := ["math/bits.deBruijn32tab"], apart := false, laid := [("math/bits.deBruijn32tab", laid_math_bits_deBruijn32tab)] }
def PickBackSaid : Prop := pickBackRow.holds Tryd.pinned (OpenSpec.ofChange pickBackSpec)

/-- ITS FALSE NEIGHBOUR: 'it returns false'. Refute it at one input. -/
def pickBackWrong : ChangeSpec := { name := "pickBack", fn := fun _ => fun
  | [d] => { results := [.lit (.bool false)], args := [d] }
  | _ => none }
def PickBackWrongFalsely : Prop := pickBackRow.holds Tryd.pinned (OpenSpec.ofChange pickBackWrong)

/-- 'mainsheetlaw19.PickWaits': WHATEVER THE INPUT: true; the input reads as it did. -/
def pickWaitsSpec : ChangeSpec := { name := "pickWaits", fn := fun _ => fun
  | [d] => { results := [.lit (.bool true)], args := [d] }
  | _ => none }
def pickWaitsRow : OpenClaim := { program := "ytnjgmjcokcfmkaadoor", sum := "d30b8474487aecf54e12c420cf7d94bf9c64b9614ab925b18405e359594d2c46", func := "mainsheet/mainsheetlaw19.PickWaits", spec := "pickWaits", unfollowed := true, recurses := true, named := ["math/bits.deBruijn32tab"], apart := false, laid := [("math/bits.deBruijn32tab", laid_math_bits_deBruijn32tab)] }
def PickWaitsSaid : Prop := pickWaitsRow.holds Tryd.pinned (OpenSpec.ofChange pickWaitsSpec)

/-- ITS FALSE NEIGHBOUR: 'it returns false'. Refute it at one input. -/
def pickWaitsWrong : ChangeSpec := { name := "pickWaits", fn := fun _ => fun
  | [d] => { results := [.lit (.bool false)], args := [d] }
  | _ => none }
def PickWaitsWrongFalsely : Prop := pickWaitsRow.holds Tryd.pinned (OpenSpec.ofChange pickWaitsWrong)

/-- 'mainsheetlaw19.PickAlone': WHATEVER THE INPUT: true; the input reads as it did. -/
def pickAloneSpec : ChangeSpec := { name := "pickAlone", fn := fun _ => fun
  | [d] => { results := [.lit (.bool true)], args := [d] }
  | _ => none }
def pickAloneRow : OpenClaim := { program := "ytnjgmjcokcfmkaadoor", sum := "d30b8474487aecf54e12c420cf7d94bf9c64b9614ab925b18405e359594d2c46", func := "mainsheet/mainsheetlaw19.PickAlone", spec := "pickAlone", unfollowed := true, recurses := true, named := ["math/bits.deBruijn32tab"], apart := false, laid := [("math/bits.deBruijn32tab", laid_math_bits_deBruijn32tab)] }
def PickAloneSaid : Prop := pickAloneRow.holds Tryd.pinned (OpenSpec.ofChange pickAloneSpec)

/-- ITS FALSE NEIGHBOUR: 'it returns false'. Refute it at one input. -/
def pickAloneWrong : ChangeSpec := { name := "pickAlone", fn := fun _ => fun
  | [d] => { results := [.lit (.bool false)], args := [d] }
  | _ => none }
def PickAloneWrongFalsely : Prop := pickAloneRow.holds Tryd.pinned (OpenSpec.ofChange pickAloneWrong)

/-- 'mainsheetlaw19.PickWhole': WHATEVER THE INPUT: true; the input reads as it did. -/
def pickWholeSpec : ChangeSpec := { name := "pickWhole", fn := fun _ => fun
  | [d] => { results := [.lit (.bool true)], args := [d] }
  | _ => none }
def pickWholeRow : OpenClaim := { program := "ytnjgmjcokcfmkaadoor", sum := "d30b8474487aecf54e12c420cf7d94bf9c64b9614ab925b18405e359594d2c46", func := "mainsheet/mainsheetlaw19.PickWhole", spec := "pickWhole", unfollowed := true, recurses := true, named := ["math/bits.deBruijn32tab"], apart := false, laid := [("math/bits.deBruijn32tab", laid_math_bits_deBruijn32tab)] }
def PickWholeSaid : Prop := pickWholeRow.holds Tryd.pinned (OpenSpec.ofChange pickWholeSpec)

/-- ITS FALSE NEIGHBOUR: 'it returns false'. Refute it at one input. -/
def pickWholeWrong : ChangeSpec := { name := "pickWhole", fn := fun _ => fun
  | [d] => { results := [.lit (.bool false)], args := [d] }
  | _ => none }
def PickWholeWrongFalsely : Prop := pickWholeRow.holds Tryd.pinned (OpenSpec.ofChange pickWholeWrong)

/-- 'mainsheetlaw19.PickTells': WHATEVER THE INPUT: true; the input reads as it did. -/
def pickTellsSpec : ChangeSpec := { name := "pickTells", fn := fun _ => fun
  | [d1, d2, d3] => { results := [.lit (.bool true)], args := [d1, d2, d3] }
  | _ => none }
def pickTellsRow : OpenClaim := { program := "ytnjgmjcokcfmkaadoor", sum := "d30b8474487aecf54e12c420cf7d94bf9c64b9614ab925b18405e359594d2c46", func := "mainsheet/mainsheetlaw19.PickTells", spec := "pickTells", unfollowed := true, recurses := true, named := ["math/bits.deBruijn32tab"], apart := false, laid := [("math/bits.deBruijn32tab", laid_math_bits_deBruijn32tab)] }
def PickTellsSaid : Prop := pickTellsRow.holds Tryd.pinned (OpenSpec.ofChange pickTellsSpec)

/-- ITS FALSE NEIGHBOUR: 'it returns false'. Refute it at one input. -/
def pickTellsWrong : ChangeSpec := { name := "pickTells", fn := fun _ => fun
  | [d1, d2, d3] => { results := [.lit (.bool false)], args := [d1, d2, d3] }
  | _ => none }
def PickTellsWrongFalsely : Prop := pickTellsRow.holds Tryd.pinned (OpenSpec.ofChange pickTellsWrong)

/- THE SECOND FORM. 'bulk': how many values and letters a reading holds, each counted each time it is reached (what is shared counts as often as it is met; a slice's spare places count too). A statement '..UptoSaid' is the law's where the arguments, and the package variables that the reading takes, are together of bulk at most 1048576: NARROWER than '..Said'. Prove '..Said' where nothing that the law and all that it calls make is longer than what came in: it says more and counts as full. Else prove '..UptoSaid'. A law counts once. -/
mutual
def uptoBulk {H : Type} : DataW H → Nat
  | .lit (.string bytes) => bytes.length + 1
  | .lit _ => 1
  | .nil => 1
  | .ptr d => uptoBulk d + 1
  | .slice elems spare => uptoBulkAll elems + uptoBulkAll spare + 1
  | .agg parts => uptoBulkAll parts + 1
  | .iface _ d => uptoBulk d + 1
  | .map entries => uptoBulkEntries entries + 1
  | .held _ => 1
def uptoBulkAll {H : Type} : List (DataW H) → Nat
  | [] => 0
  | d :: r => uptoBulk d + uptoBulkAll r
def uptoBulkEntries {H : Type} : List (Lit × DataW H) → Nat
  | [] => 0
  | x :: r => uptoBulkEntry x + uptoBulkEntries r
def uptoBulkEntry {H : Type} : Lit × DataW H → Nat
  | (.string bytes, d) => bytes.length + uptoBulk d + 1
  | (_, d) => uptoBulk d + 1
 end
def uptoSmall : (H : Type) → List (DataW H) → Bool := fun _ ds => decide (uptoBulkAll ds ≤ 1048576)
def OpenSpec.upto (s : _root_.Go.ChangeSpec) : _root_.Go.OpenSpec := { _root_.Go.OpenSpec.ofChange s with cond := some uptoSmall }

/-- 'mainsheetlaw19.PickPicks', WHERE WHAT IT READS IS OF BULK AT MOST 1048576: true; the input reads as it did. -/
def pickPicksUptoRow : OpenClaim := { program := "ytnjgmjcokcfmkaadoor", sum := "d30b8474487aecf54e12c420cf7d94bf9c64b9614ab925b18405e359594d2c46", func := "mainsheet/mainsheetlaw19.PickPicks", spec := "pickPicks", unfollowed := true, recurses := true, named := ["math/bits.deBruijn32tab"], apart := false, laid := [("math/bits.deBruijn32tab", laid_math_bits_deBruijn32tab)], narrowed := true }
def PickPicksUptoSaid : Prop := pickPicksUptoRow.holds Tryd.pinned (OpenSpec.upto pickPicksSpec)

/-- 'mainsheetlaw19.PickChoices', WHERE WHAT IT READS IS OF BULK AT MOST 1048576: true; the input reads as it did. -/
def pickChoicesUptoRow : OpenClaim := { program := "ytnjgmjcokcfmkaadoor", sum := "d30b8474487aecf54e12c420cf7d94bf9c64b9614ab925b18405e359594d2c46", func := "mainsheet/mainsheetlaw19.PickChoices", spec := "pickChoices", unfollowed := true, recurses := true, named := ["math/bits.deBruijn32tab"], apart := false, laid := [("math/bits.deBruijn32tab", laid_math_bits_deBruijn32tab)], narrowed := true }
def PickChoicesUptoSaid : Prop := pickChoicesUptoRow.holds Tryd.pinned (OpenSpec.upto pickChoicesSpec)

/-- 'mainsheetlaw19.PickBack', WHERE WHAT IT READS IS OF BULK AT MOST 1048576: true; the input reads as it did. -/
def pickBackUptoRow : OpenClaim := { program := "ytnjgmjcokcfmkaadoor", sum := "d30b8474487aecf54e12c420cf7d94bf9c64b9614ab925b18405e359594d2c46", func := "mainsheet/mainsheetlaw19.PickBack", spec := "pickBack", unfollowed := true, recurses := true, named := ["math/bits.deBruijn32tab"], apart := false, laid := [("math/bits.deBruijn32tab", laid_math_bits_deBruijn32tab)], narrowed := true }
def PickBackUptoSaid : Prop := pickBackUptoRow.holds Tryd.pinned (OpenSpec.upto pickBackSpec)

/-- 'mainsheetlaw19.PickWaits', WHERE WHAT IT READS IS OF BULK AT MOST 1048576: true; the input reads as it did. -/
def pickWaitsUptoRow : OpenClaim := { program := "ytnjgmjcokcfmkaadoor", sum := "d30b8474487aecf54e12c420cf7d94bf9c64b9614ab925b18405e359594d2c46", func := "mainsheet/mainsheetlaw19.PickWaits", spec := "pickWaits", unfollowed := true, recurses := true, named := ["math/bits.deBruijn32tab"], apart := false, laid := [("math/bits.deBruijn32tab", laid_math_bits_deBruijn32tab)], narrowed := true }
def PickWaitsUptoSaid : Prop := pickWaitsUptoRow.holds Tryd.pinned (OpenSpec.upto pickWaitsSpec)

/-- 'mainsheetlaw19.PickAlone', WHERE WHAT IT READS IS OF BULK AT MOST 1048576: true; the input reads as it did. -/
def pickAloneUptoRow : OpenClaim := { program := "ytnjgmjcokcfmkaadoor", sum := "d30b8474487aecf54e12c420cf7d94bf9c64b9614ab925b18405e359594d2c46", func := "mainsheet/mainsheetlaw19.PickAlone", spec := "pickAlone", unfollowed := true, recurses := true, named := ["math/bits.deBruijn32tab"], apart := false, laid := [("math/bits.deBruijn32tab", laid_math_bits_deBruijn32tab)], narrowed := true }
def PickAloneUptoSaid : Prop := pickAloneUptoRow.holds Tryd.pinned (OpenSpec.upto pickAloneSpec)

/-- 'mainsheetlaw19.PickWhole', WHERE WHAT IT READS IS OF BULK AT MOST 1048576: true; the input reads as it did. -/
def pickWholeUptoRow : OpenClaim := { program := "ytnjgmjcokcfmkaadoor", sum := "d30b8474487aecf54e12c420cf7d94bf9c64b9614ab925b18405e359594d2c46", func := "mainsheet/mainsheetlaw19.PickWhole", spec := "pickWhole", unfollowed := true, recurses := true, named := ["math/bits.deBruijn32tab"], apart := false, laid := [("math/bits.deBruijn32tab", laid_math_bits_deBruijn32tab)], narrowed := true }
def PickWholeUptoSaid : Prop := pickWholeUptoRow.holds Tryd.pinned (OpenSpec.upto pickWholeSpec)

/-- 'mainsheetlaw19.PickTells', WHERE WHAT IT READS IS OF BULK AT MOST 1048576: true; the input reads as it did. -/
def pickTellsUptoRow : OpenClaim := { program := "ytnjgmjcokcfmkaadoor", sum := "d30b8474487aecf54e12c420cf7d94bf9c64b9614ab925b18405e359594d2c46", func := "mainsheet/mainsheetlaw19.PickTells", spec := "pickTells", unfollowed := true, recurses := true, named := ["math/bits.deBruijn32tab"], apart := false, laid := [("math/bits.deBruijn32tab", laid_math_bits_deBruijn32tab)], narrowed := true }
def PickTellsUptoSaid : Prop := pickTellsUptoRow.holds Tryd.pinned (OpenSpec.upto pickTellsSpec)

end Rows
end Go.Proofs.YtnjgmjcokcfmkaaDoor
