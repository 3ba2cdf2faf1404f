/- The law AuditCalm, as its row says it: for every input it returns true. No condition. -/
import Derived.Test.YtbjhphjpdeblnaaLg
import Derived.Test.YtbjhphjpdeblnaaPp
namespace Go.Proofs.Ytbjhphjpdeblnaa
open Go Go.Sy Go.ChangeShapes Go.WideShapes Go.ChangeAt Go.RowKit
set_option maxRecDepth 100000
set_option linter.unusedSimpArgs false
set_option linter.unusedVariables false
theorem calm_all (dts : List Dt) (h : goods [shM, .int .i64, .int .i64] dts) : Law Try.prog gl0 6 (argDs [shM, .int .i64, .int .i64] dts) := by
  obtain ⟨d1, dts, rfl, g1, h⟩ := goods_cons h
  obtain ⟨d2, dts, rfl, g2, h⟩ := goods_cons h
  obtain ⟨d3, dts, rfl, g3, h⟩ := goods_cons h
  obtain rfl := goods_nil h
  obtain ⟨m, rfl, hm⟩ := good_m g1
  obtain ⟨a, rfl, ha⟩ := good_i64 g2
  obtain ⟨b, rfl, hb⟩ := good_i64 g3
  have e : argDs [shM, .int .i64, .int .i64] [dM m, .n a, .n b] = [.agg (eM m), I a, I b] := by rw [argDs, arg_m, argDs, argDs]; rfl
  rw [e]
  exact calm_law m a b hm ha hb

theorem calm_row (os : Os) (started : os.Started) (H : Type) (enc : TypeId × Value → H) :
    ReturnsInHanded {} Try.checked os 6 .any (Rows.auditCalmSpec.pre6 enc Try.prog Try.f6 Rows.auditCalmRow.domain false) (Rows.auditCalmSpec.post enc Try.prog Try.f6 false true false false) := by
  refine returnsInHanded_of_change_sized (C := Try.checked) own started (by kernel_rfl) Try.func6
    (ChangeSpec.witness6 (enc := enc) (C := Try.checked) false ⟨#[], #[.agg #[.int .i64 0, .slice none 0 0], .int .i64 0, .int .i64 0], []⟩ 8 (by kernel_rfl) (by kernel_rfl) (by kernel_rfl) (by kernel_rfl)) ?_
  intro W base args ds gs before hval hW _ hsz _
  exact Law.contract rfl (by kernel_rfl) Try.underlying4 (by kernel_rfl) laidOut (by kernel_rfl) (fun ds hl => by
    have hl : ds.length = 3 := hl.trans (by kernel_rfl)
    match ds, hl with
    | [_, _, _], _ => exact ⟨rfl, rfl, rfl⟩) calm_all W base args ds gs before hval hW hsz

theorem calm_holds : Rows.AuditCalmSaid :=
  OpenClaim.holds_of_wide 6 Try.f6 rfl rfl rfl rfl rfl rfl rfl ⟨rfl, rfl, rfl, rfl, rfl⟩ rfl rfl rfl rfl rfl (by kernel_rfl) Try.func6 (by kernel_rfl)
    (of_decide_eq_true (by kernel_rfl)) (by unfold Func.isWrapper; first | (rw [if_pos (by decide +kernel)]; kernel_rfl) | (rw [if_neg (by decide +kernel)]; exact ⟨rfl, rfl⟩))
    (fun os started H enc _ => calm_row os started H enc)
#print axioms calm_holds

end Go.Proofs.Ytbjhphjpdeblnaa
