/- The law TraceGrows, as its row says it: for every input it returns true. No condition. -/
import Derived.Test.YtcpanpkhdcifoaaLe
import Derived.Test.YtcpanpkhdcifoaaPp
namespace Go.Proofs.Ytcpanpkhdcifoaa
open Go Go.Sy Go.ChangeShapes Go.WideShapes Go.ChangeAt Go.RowKit
set_option maxRecDepth 100000
set_option linter.unusedSimpArgs false
set_option linter.unusedVariables false
theorem arg_frs (l : List Fr) : argD (.slice 32 shFr) (.l (l.map dFr)) = Fs l := by
  simp only [argD, cellsD, Sh.size, Sh.sizes, List.map_map]
  congr 1
  apply List.map_congr_left
  intro f _
  exact cells_fr f
theorem grows_all (dts : List Dt) (h : goods [.slice 32 shFr] dts) : Law Try.prog gl0 5 (argDs [.slice 32 shFr] dts) := by
  obtain ⟨d1, dts, rfl, g1, h⟩ := goods_cons h
  obtain rfl := goods_nil h
  obtain ⟨ys, rfl, l1, l2, g⟩ := good_slice g1
  obtain ⟨l, rfl, g3⟩ := all_of (F := dFr) (q := inFr) (fun d hd => good_fr hd) ys g
  simp only [List.length_map] at l1 l2
  have e : argDs [.slice 32 shFr] [.l (l.map dFr)] = [Fs l] := by rw [argDs, arg_frs]; rfl
  rw [e]
  exact grows_law l g3 (by omega)

theorem grows_row (os : Os) (started : os.Started) (H : Type) (enc : TypeId × Value → H) :
    ReturnsInHanded {} Try.checked os 5 .any (Rows.traceGrowsSpec.pre6 enc Try.prog Try.f5 Rows.traceGrowsRow.domain false) (Rows.traceGrowsSpec.post enc Try.prog Try.f5 false true false false) := by
  refine returnsInHanded_of_change_sized (C := Try.checked) own started (by kernel_rfl) Try.func5
    (ChangeSpec.witness6 (enc := enc) (C := Try.checked) false ⟨#[], #[.slice none 0 0], []⟩ 8 (by kernel_rfl) (by kernel_rfl) (by kernel_rfl) (by kernel_rfl)) ?_
  intro W base args ds gs before hval hW _ hsz _
  exact Law.contract rfl (by kernel_rfl) Try.underlying4 (by kernel_rfl) laidOut (by kernel_rfl) (fun ds hl => by
    have hl : ds.length = 1 := hl.trans (by kernel_rfl)
    match ds, hl with
    | [_], _ => exact ⟨rfl, rfl, rfl⟩) grows_all W base args ds gs before hval hW hsz

theorem grows_holds : Rows.TraceGrowsSaid :=
  OpenClaim.holds_of_wide 5 Try.f5 rfl rfl rfl rfl rfl rfl rfl ⟨rfl, rfl, rfl, rfl, rfl⟩ rfl rfl rfl rfl rfl (by kernel_rfl) Try.func5 (by kernel_rfl)
    (of_decide_eq_true (by kernel_rfl)) (by unfold Func.isWrapper; first | (rw [if_pos (by decide +kernel)]; kernel_rfl) | (rw [if_neg (by decide +kernel)]; exact ⟨rfl, rfl⟩))
    (fun os started H enc _ => grows_row os started H enc)
#print axioms grows_holds

end Go.Proofs.Ytcpanpkhdcifoaa
