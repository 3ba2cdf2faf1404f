/- The law ShareGrows, as its row says it: for every input it returns true. No condition. -/
import Derived.Test.YtomfpciigaopiaaLf
import Derived.Test.YtomfpciigaopiaaPp
namespace Go.Proofs.Ytomfpciigaopiaa
open Go Go.Sy Go.ChangeShapes Go.WideShapes Go.ChangeAt Go.RowKit
set_option maxRecDepth 100000
set_option linter.unusedSimpArgs false
set_option linter.unusedVariables false
theorem grows_all (dts : List Dt) (h : goods [shPs, shA, shA] dts) : Law Try.prog gl0 8 (argDs [shPs, shA, shA] dts) := by
  obtain ⟨d1, dts, rfl, g1, h⟩ := goods_cons h
  obtain ⟨d2, dts, rfl, g2, h⟩ := goods_cons h
  obtain ⟨d3, dts, rfl, g3, h⟩ := goods_cons h
  obtain rfl := goods_nil h
  obtain ⟨l, rfl, hl, hn⟩ := good_ps g1
  obtain ⟨a, b, c, rfl, -⟩ := good_a g2
  obtain ⟨a2, b2, c2, rfl, -⟩ := good_a g3
  have e : argDs [shPs, shA, shA] [dPs l, dA a b c, dA a2 b2 c2] = [Ps l, .agg [I a, I b, I c], .agg [I a2, I b2, I c2]] := by rw [argDs, arg_ps, argDs, arg_a, argDs, arg_a]; rfl
  rw [e]
  exact grows_law l a b c a2 b2 c2 hl hn

theorem grows_row (os : Os) (started : os.Started) (H : Type) (enc : TypeId × Value → H) :
    ReturnsInHanded {} Try.checked os 8 .any (Rows.shareGrowsSpec.pre6 enc Try.prog Try.f8 Rows.shareGrowsRow.domain false) (Rows.shareGrowsSpec.post enc Try.prog Try.f8 false true false false) := by
  refine returnsInHanded_of_change_sized (C := Try.checked) own started (by kernel_rfl) Try.func8
    (ChangeSpec.witness6 (enc := enc) (C := Try.checked) false ⟨#[], #[.slice none 0 0, .agg #[.int .i64 0, .int .i64 0, .int .i64 0], .agg #[.int .i64 0, .int .i64 0, .int .i64 0]], []⟩ 8 (by kernel_rfl) (by kernel_rfl) (by kernel_rfl) (by kernel_rfl)) ?_
  intro W base args ds gs before hval hW _ hsz _
  exact Law.contract rfl (by kernel_rfl) Try.underlying4 (by kernel_rfl) laidOut (by kernel_rfl) (fun ds hl => by
    have hl : ds.length = 3 := hl.trans (by kernel_rfl)
    match ds, hl with
    | [_, _, _], _ => exact ⟨rfl, rfl, rfl⟩) grows_all W base args ds gs before hval hW hsz

theorem grows_holds : Rows.ShareGrowsSaid :=
  OpenClaim.holds_of_wide 8 Try.f8 rfl rfl rfl rfl rfl rfl rfl ⟨rfl, rfl, rfl, rfl, rfl⟩ rfl rfl rfl rfl rfl (by kernel_rfl) Try.func8 (by kernel_rfl)
    (of_decide_eq_true (by kernel_rfl)) (by unfold Func.isWrapper; first | (rw [if_pos (by decide +kernel)]; kernel_rfl) | (rw [if_neg (by decide +kernel)]; exact ⟨rfl, rfl⟩))
    (fun os started H enc _ => grows_row os started H enc)
#print axioms grows_holds

end Go.Proofs.Ytomfpciigaopiaa
