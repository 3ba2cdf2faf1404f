/- The law CodeEvents, as its row says it: for every input it returns true. No condition. -/
import Derived.Test.YtmieikflcolbaaaLe
import Derived.Test.YtmieikflcolbaaaPp
namespace Go.Proofs.Ytmieikflcolbaaa
open Go Go.Sy Go.ChangeShapes Go.WideShapes Go.ChangeAt Go.RowKit
set_option maxRecDepth 100000
set_option linter.unusedSimpArgs false
set_option linter.unusedVariables false
theorem good_Es {d : Dt} (h : good (.slice 248 shE) d) : ∃ l : List Evt, d = .l (l.map dE) ∧ (∀ a ∈ l, wf0 a) ∧ l.length < 2 ^ 46 := by
  obtain ⟨ys, rfl, l1, l2, g⟩ := good_slice h
  obtain ⟨l, rfl, g3⟩ := all_of (F := dE) (q := wf0) (fun d hd => good_E hd) ys g
  simp only [List.length_map] at l1 l2
  exact ⟨l, rfl, g3, by omega⟩
theorem arg_Es (l : List Evt) : argD (.slice 248 shE) (.l (l.map dE)) = Evs l := by
  simp only [argD, cellsD, Sh.size, Sh.sizes, List.map_map]
  congr 1
  apply List.map_congr_left
  intro a _
  exact cells_E a
theorem events_all (dts : List Dt) (h : goods [.slice 248 shE] dts) : Law Try.prog gl0 5 (argDs [.slice 248 shE] dts) := by
  obtain ⟨d1, dts, rfl, g1, h⟩ := goods_cons h
  obtain rfl := goods_nil h
  obtain ⟨l, rfl, hl, hn⟩ := good_Es g1
  have e : argDs [.slice 248 shE] [.l (l.map dE)] = [Evs l] := by rw [argDs, arg_Es]; rfl
  rw [e]
  exact events_law l hl hn

theorem events_row (os : Os) (started : os.Started) (H : Type) (enc : TypeId × Value → H) :
    ReturnsInHanded {} Try.checked os 5 .any (Rows.codeEventsSpec.pre6 enc Try.prog Try.f5 Rows.codeEventsRow.domain false) (Rows.codeEventsSpec.post enc Try.prog Try.f5 false true false false) := by
  refine returnsInHanded_of_change_sized (C := Try.checked) own started (by kernel_rfl) Try.func5
    (ChangeSpec.witness6 (enc := enc) (C := Try.checked) false ⟨#[], #[.slice none 0 0], []⟩ 8 (by kernel_rfl) (by kernel_rfl) (by kernel_rfl) (by kernel_rfl)) ?_
  intro W base args ds gs before hval hW _ hsz _
  exact Law.contract rfl (by kernel_rfl) Try.underlying4 (by kernel_rfl) laidOut (by kernel_rfl) (fun ds hl => by
    have hl : ds.length = 1 := hl.trans (by kernel_rfl)
    match ds, hl with
    | [_], _ => exact ⟨rfl, rfl, rfl⟩) events_all W base args ds gs before hval hW hsz

theorem events_holds : Rows.CodeEventsSaid :=
  OpenClaim.holds_of_wide 5 Try.f5 rfl rfl rfl rfl rfl rfl rfl ⟨rfl, rfl, rfl, rfl, rfl⟩ rfl rfl rfl rfl rfl (by kernel_rfl) Try.func5 (by kernel_rfl)
    (of_decide_eq_true (by kernel_rfl)) (by unfold Func.isWrapper; first | (rw [if_pos (by decide +kernel)]; kernel_rfl) | (rw [if_neg (by decide +kernel)]; exact ⟨rfl, rfl⟩))
    (fun os started H enc _ => events_row os started H enc)
#print axioms events_holds

end Go.Proofs.Ytmieikflcolbaaa
