/- The law ShareSums, as its row says it: for every input it returns true. No condition. -/
import Derived.Test.YtomfpciigaopiaaLe
import Derived.Test.YtomfpciigaopiaaPp
namespace Go.Proofs.Ytomfpciigaopiaa
open Go Go.Sy Go.ChangeShapes Go.WideShapes Go.ChangeAt Go.RowKit
set_option maxRecDepth 100000
set_option linter.unusedSimpArgs false
set_option linter.unusedVariables false
theorem sums_all (dts : List Dt) (h : goods [shPs, .int .i64] dts) : Law Try.prog gl0 6 (argDs [shPs, .int .i64] dts) := by
  obtain ⟨d1, dts, rfl, g1, h⟩ := goods_cons h
  obtain ⟨d2, dts, rfl, g2, h⟩ := goods_cons h
  obtain rfl := goods_nil h
  obtain ⟨l, rfl, hl, hn⟩ := good_ps g1
  obtain ⟨m, rfl, -⟩ := good_i64 g2
  have e : argDs [shPs, .int .i64] [dPs l, .n m] = [Ps l, I m] := by rw [argDs, arg_ps, argDs]; rfl
  rw [e]
  exact sums_law l m hl hn

theorem sums_row (os : Os) (started : os.Started) (H : Type) (enc : TypeId × Value → H) :
    ReturnsInHanded {} Try.checked os 6 .any (Rows.shareSumsSpec.pre6 enc Try.prog Try.f6 Rows.shareSumsRow.domain false) (Rows.shareSumsSpec.post enc Try.prog Try.f6 false true false false) := by
  refine returnsInHanded_of_change_sized (C := Try.checked) own started (by kernel_rfl) Try.func6
    (ChangeSpec.witness6 (enc := enc) (C := Try.checked) false ⟨#[], #[.slice none 0 0, .int .i64 0], []⟩ 8 (by kernel_rfl) (by kernel_rfl) (by kernel_rfl) (by kernel_rfl)) ?_
  intro W base args ds gs before hval hW _ hsz _
  exact Law.contract rfl (by kernel_rfl) Try.underlying4 (by kernel_rfl) laidOut (by kernel_rfl) (fun ds hl => by
    have hl : ds.length = 2 := hl.trans (by kernel_rfl)
    match ds, hl with
    | [_, _], _ => exact ⟨rfl, rfl, rfl⟩) sums_all W base args ds gs before hval hW hsz

theorem sums_holds : Rows.ShareSumsSaid :=
  OpenClaim.holds_of_wide 6 Try.f6 rfl rfl rfl rfl rfl rfl rfl ⟨rfl, rfl, rfl, rfl, rfl⟩ rfl rfl rfl rfl rfl (by kernel_rfl) Try.func6 (by kernel_rfl)
    (of_decide_eq_true (by kernel_rfl)) (by unfold Func.isWrapper; first | (rw [if_pos (by decide +kernel)]; kernel_rfl) | (rw [if_neg (by decide +kernel)]; exact ⟨rfl, rfl⟩))
    (fun os started H enc _ => sums_row os started H enc)
#print axioms sums_holds

end Go.Proofs.Ytomfpciigaopiaa
