/- The law PoolNews, as its row says it: for every input it returns true. No condition. -/
import Derived.Test.YtfhiaddbpacgeaaLa
import Derived.Test.YtfhiaddbpacgeaaPp
namespace Go.Proofs.Ytfhiaddbpacgeaa
open Go Go.Sy Go.ChangeShapes Go.WideShapes Go.ChangeAt Go.RowKit
set_option maxRecDepth 100000
set_option linter.unusedSimpArgs false
set_option linter.unusedVariables false
theorem news_all (dts : List Dt) (h : goods [.slice 8 (.int .i64)] dts) : Law Try.prog gl0 3 (argDs [.slice 8 (.int .i64)] dts) := by
  obtain ⟨d1, dts, rfl, g1, h⟩ := goods_cons h
  obtain rfl := goods_nil h
  obtain ⟨l, rfl, hl, hn⟩ := good_nums g1
  have e : argDs [.slice 8 (.int .i64)] [.l (l.map .n)] = [Is l] := by rw [argDs, arg_nums]; rfl
  rw [e]
  exact news_law l (by omega)

theorem news_row (os : Os) (started : os.Started) (H : Type) (enc : TypeId × Value → H) :
    ReturnsInHanded {} Try.checked os 3 .any (Rows.poolNewsSpec.pre6 enc Try.prog Try.f3 Rows.poolNewsRow.domain false) (Rows.poolNewsSpec.post enc Try.prog Try.f3 false true false false) := by
  refine returnsInHanded_of_change_sized (C := Try.checked) own started (by kernel_rfl) Try.func3
    (ChangeSpec.witness6 (enc := enc) (C := Try.checked) false ⟨#[], #[.slice none 0 0], []⟩ 8 (by kernel_rfl) (by kernel_rfl) (by kernel_rfl) (by kernel_rfl)) ?_
  intro W base args ds gs before hval hW _ hsz _
  exact Law.contract rfl (by kernel_rfl) Try.underlying4 (by kernel_rfl) laidOut (by kernel_rfl) (fun ds hl => by
    have hl : ds.length = 1 := hl.trans (by kernel_rfl)
    match ds, hl with
    | [_], _ => exact ⟨rfl, rfl, rfl⟩) news_all W base args ds gs before hval hW hsz

theorem news_holds : Rows.PoolNewsSaid :=
  OpenClaim.holds_of_wide 3 Try.f3 rfl rfl rfl rfl rfl rfl rfl ⟨rfl, rfl, rfl, rfl, rfl⟩ rfl rfl rfl rfl rfl (by kernel_rfl) Try.func3 (by kernel_rfl)
    (of_decide_eq_true (by kernel_rfl)) (by unfold Func.isWrapper; first | (rw [if_pos (by decide +kernel)]; kernel_rfl) | (rw [if_neg (by decide +kernel)]; exact ⟨rfl, rfl⟩))
    (fun os started H enc _ => news_row os started H enc)
#print axioms news_holds

end Go.Proofs.Ytfhiaddbpacgeaa
