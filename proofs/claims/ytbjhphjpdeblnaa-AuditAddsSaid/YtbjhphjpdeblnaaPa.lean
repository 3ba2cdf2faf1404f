/- The law AuditAdds, as its row says it: for every input it returns true. No condition. -/
import Derived.Test.YtbjhphjpdeblnaaLa
import Derived.Test.YtbjhphjpdeblnaaPp
namespace Go.Proofs.Ytbjhphjpdeblnaa
open Go Go.Sy Go.ChangeShapes Go.WideShapes Go.ChangeAt Go.RowKit
set_option maxRecDepth 100000
set_option linter.unusedSimpArgs false
set_option linter.unusedVariables false
theorem adds_all (dts : List Dt) (h : goods [shW, shM, .int .i64] dts) : Law Try.prog gl0 3 (argDs [shW, shM, .int .i64] dts) := by
  obtain ⟨d1, dts, rfl, g1, h⟩ := goods_cons h
  obtain ⟨d2, dts, rfl, g2, h⟩ := goods_cons h
  obtain ⟨d3, dts, rfl, g3, h⟩ := goods_cons h
  obtain rfl := goods_nil h
  obtain ⟨ms, en, rfl, hf, he, hn⟩ := good_w g1
  obtain ⟨m, rfl, hm⟩ := good_m g2
  obtain ⟨t, rfl, ht⟩ := good_i64 g3
  have e : argDs [shW, shM, .int .i64] [dW ms en, dM m, .n t] = [Wt ms en, .agg (eM m), I t] := by rw [argDs, arg_w, argDs, arg_m, argDs]; rfl
  rw [e]
  exact adds_law ms en t m hf he ht hm hn

theorem adds_row (os : Os) (started : os.Started) (H : Type) (enc : TypeId × Value → H) :
    ReturnsInHanded {} Try.checked os 3 .any (Rows.auditAddsSpec.pre6 enc Try.prog Try.f3 Rows.auditAddsRow.domain false) (Rows.auditAddsSpec.post enc Try.prog Try.f3 false true false false) := by
  refine returnsInHanded_of_change_sized (C := Try.checked) own started (by kernel_rfl) Try.func3
    (ChangeSpec.witness6 (enc := enc) (C := Try.checked) false ⟨#[], #[.agg #[.slice none 0 0, .int .i64 0], .agg #[.int .i64 0, .slice none 0 0], .int .i64 0], []⟩ 8 (by kernel_rfl) (by kernel_rfl) (by kernel_rfl) (by kernel_rfl)) ?_
  intro W base args ds gs before hval hW _ hsz _
  exact Law.contract rfl (by kernel_rfl) Try.underlying4 (by kernel_rfl) laidOut (by kernel_rfl) (fun ds hl => by
    have hl : ds.length = 3 := hl.trans (by kernel_rfl)
    match ds, hl with
    | [_, _, _], _ => exact ⟨rfl, rfl, rfl⟩) adds_all W base args ds gs before hval hW hsz

theorem adds_holds : Rows.AuditAddsSaid :=
  OpenClaim.holds_of_wide 3 Try.f3 rfl rfl rfl rfl rfl rfl rfl ⟨rfl, rfl, rfl, rfl, rfl⟩ rfl rfl rfl rfl rfl (by kernel_rfl) Try.func3 (by kernel_rfl)
    (of_decide_eq_true (by kernel_rfl)) (by unfold Func.isWrapper; first | (rw [if_pos (by decide +kernel)]; kernel_rfl) | (rw [if_neg (by decide +kernel)]; exact ⟨rfl, rfl⟩))
    (fun os started H enc _ => adds_row os started H enc)
#print axioms adds_holds

end Go.Proofs.Ytbjhphjpdeblnaa
