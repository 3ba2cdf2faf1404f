/- The table that is laid; what the rows share. No condition. -/
import Derived.Test.YtnjgmjcokcfmkaaDoorSyZ
import Derived.Test.YtnjgmjcokcfmkaaDoorGz
import Derived.Test.YtnjgmjcokcfmkaaDoorRows
import Derived.Test.YtnjgmjcokcfmkaaDoorCards
import Derived.Test.YtnjgmjcokcfmkaaDoorTie
import Derived.ProofKit
import Derived.LaidMore
import Derived.OpenShut
import Derived.Stop.Joined
import Derived.SevenTiedAt
namespace Go.Proofs.YtnjgmjcokcfmkaaDoor
open Go Go.Sy Go.ChangeShapes Go.WideShapes Go.ChangeAt Go.WideMaps Go.WideElems Go.RowKit
set_option maxRecDepth 100000
set_option linter.unusedSimpArgs false
set_option linter.unusedVariables false
theorem own : ownKnob Tryd.prog.godebug = none := by kernel_rfl
theorem laidOut : laidOutB Tryd.prog = true := by kernel_rfl
abbrev laidL : List (String × DataW Unit) := [("math/bits.deBruijn32tab", Rows.laid_math_bits_deBruijn32tab)]
theorem gTab : Tryd.prog.globalNamed "math/bits.deBruijn32tab" = some 0 := by kernel_rfl
theorem tTab : (Tryd.prog.globals[0]?).map (·.type) = some 145 := by kernel_rfl
theorem cTab : Tryd.prog.cellsOf 145 = 32 := by kernel_rfl
theorem cByte : Tryd.prog.cellsOf 5 = 1 := by kernel_rfl
theorem door_met (os : Os) (args : Array Value) : laidMetH Tryd.prog laidL ((World.doorLaid Tryd.prog 400 os).forCall (fun _ _ => 0) ⟨#[], args, []⟩).memory :=
  laidMetH_of_parts3 (fuel := 8) (laidMet_of_run' 8 (by kernel_rfl) (by kernel_rfl)) (by kernel_rfl) (by kernel_rfl)
theorem gl_of_laid {W : World} (h : laidMetH Tryd.prog laidL W) : GlOK gl0 (roNm W) := by
  rw [MakeChecks.laidMetH_plain _ _ _ (by kernel_rfl)] at h
  obtain ⟨ps, ⟨g0, t0, cs0, f0, p0, q0, hg0, ht0, hv0, hd0, _, _⟩, _, _⟩ := h
  obtain rfl := Option.some.inj (gTab.symm.trans hg0)
  obtain rfl := Option.some.inj (tTab.symm.trans ht0)
  have e := ints_of_trod Tryd.underlying145 Tryd.underlying5 cByte cTab hd0 [0,1,28,2,29,14,24,3,30,22,20,15,25,17,4,8,31,27,13,23,21,19,16,7,26,12,18,6,11,5,10,9] rfl
  have e2 : cs0 = tab0.toArray := by
    rw [← Array.toArray_toList (xs := cs0), e]; rfl
  simp only [World.var?, gTab, Option.bind_some] at hv0
  intro g l hl
  simp only [gl0, Gl.get] at hl
  split at hl
  · rename_i hg
    simp only [Option.some.injEq] at hl
    subst hg hl
    simp only [roNm]
    split at hv0
    · rename_i c t f hh
      rw [hh]
      simp only [Option.some.injEq] at hv0 ⊢
      rw [hv0, e2]
    · cases hv0
  · cases hl
end Go.Proofs.YtnjgmjcokcfmkaaDoor
