/- The law ShareApart, as its row says it: for every input it returns true. No condition. -/
import Derived.Test.YtomfpciigaopiaaLc
import Derived.Test.YtomfpciigaopiaaPp
namespace Go.Proofs.Ytomfpciigaopiaa
open Go Go.Sy Go.ChangeShapes Go.WideShapes Go.ChangeAt Go.RowKit
set_option maxRecDepth 100000
set_option linter.unusedSimpArgs false
set_option linter.unusedVariables false
theorem apart_all (dts : List Dt) (h : goods [shPs, shT, shW] dts) : Law Try.prog gl0 7 (argDs [shPs, shT, shW] dts) := by
  obtain ⟨d1, dts, rfl, g1, h⟩ := goods_cons h
  obtain ⟨d2, dts, rfl, g2, h⟩ := goods_cons h
  obtain ⟨d3, dts, rfl, g3, h⟩ := goods_cons h
  obtain rfl := goods_nil h
  obtain ⟨l, rfl, hl, hn⟩ := good_ps g1
  obtain ⟨ts, rfl, ht, htn⟩ := good_ts g2
  obtain ⟨sp, rfl, hsp⟩ := good_w g3
  have e : argDs [shPs, shT, shW] [dPs l, dT ts, dW sp] = [Ps l, Ts ts, W sp] := by rw [argDs, arg_ps, argDs, arg_ts, argDs, arg_w]; rfl
  rw [e]
  exact apart_law l ts sp hl hn ht htn hsp

theorem apart_row (os : Os) (started : os.Started) (H : Type) (enc : TypeId × Value → H) :
    ReturnsInHanded {} Try.checked os 7 .any (Rows.shareApartSpec.pre6 enc Try.prog Try.f7 Rows.shareApartRow.domain false) (Rows.shareApartSpec.post enc Try.prog Try.f7 false true false false) := by
  refine returnsInHanded_of_change_sized (C := Try.checked) own started (by kernel_rfl) Try.func7
    (ChangeSpec.witness6 (enc := enc) (C := Try.checked) false ⟨#[], #[.slice none 0 0, .slice none 0 0, .agg #[.int .u64 0, .int .u64 0]], []⟩ 8 (by kernel_rfl) (by kernel_rfl) (by kernel_rfl) (by kernel_rfl)) ?_
  intro W base args ds gs before hval hW _ hsz _
  exact Law.contract rfl (by kernel_rfl) Try.underlying4 (by kernel_rfl) laidOut (by kernel_rfl) (fun ds hl => by
    have hl : ds.length = 3 := hl.trans (by kernel_rfl)
    match ds, hl with
    | [_, _, _], _ => exact ⟨rfl, rfl, rfl⟩) apart_all W base args ds gs before hval hW hsz

theorem apart_holds : Rows.ShareApartSaid :=
  OpenClaim.holds_of_wide 7 Try.f7 rfl rfl rfl rfl rfl rfl rfl ⟨rfl, rfl, rfl, rfl, rfl⟩ rfl rfl rfl rfl rfl (by kernel_rfl) Try.func7 (by kernel_rfl)
    (of_decide_eq_true (by kernel_rfl)) (by unfold Func.isWrapper; first | (rw [if_pos (by decide +kernel)]; kernel_rfl) | (rw [if_neg (by decide +kernel)]; exact ⟨rfl, rfl⟩))
    (fun os started H enc _ => apart_row os started H enc)
#print axioms apart_holds

end Go.Proofs.Ytomfpciigaopiaa
