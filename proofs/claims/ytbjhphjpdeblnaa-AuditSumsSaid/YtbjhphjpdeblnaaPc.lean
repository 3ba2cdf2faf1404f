/- The law AuditSums, as its row says it: for every input it returns true. No condition. -/
import Derived.Test.YtbjhphjpdeblnaaLc
import Derived.Test.YtbjhphjpdeblnaaPp
namespace Go.Proofs.Ytbjhphjpdeblnaa
open Go Go.Sy Go.ChangeShapes Go.WideShapes Go.ChangeAt Go.RowKit
set_option maxRecDepth 100000
set_option linter.unusedSimpArgs false
set_option linter.unusedVariables false
theorem sums_all (dts : List Dt) (h : goods [shW, .int .i64, .int .i64] dts) : Law Try.prog gl0 5 (argDs [shW, .int .i64, .int .i64] dts) := by
  obtain ⟨d1, dts, rfl, g1, h⟩ := goods_cons h
  obtain ⟨d2, dts, rfl, g2, h⟩ := goods_cons h
  obtain ⟨d3, dts, rfl, g3, h⟩ := goods_cons h
  obtain rfl := goods_nil h
  obtain ⟨ms, en, rfl, hf, he, hn⟩ := good_w g1
  obtain ⟨v, rfl, hv⟩ := good_i64 g2
  obtain ⟨t, rfl, ht⟩ := good_i64 g3
  have e : argDs [shW, .int .i64, .int .i64] [dW ms en, .n v, .n t] = [Wt ms en, I v, I t] := by rw [argDs, arg_w, argDs, argDs]; rfl
  rw [e]
  exact sums_law ms en v t hf he hv ht hn

theorem sums_row (os : Os) (started : os.Started) (H : Type) (enc : TypeId × Value → H) :
    ReturnsInHanded {} Try.checked os 5 .any (Rows.auditSumsSpec.pre6 enc Try.prog Try.f5 Rows.auditSumsRow.domain false) (Rows.auditSumsSpec.post enc Try.prog Try.f5 false true false false) := by
  refine returnsInHanded_of_change_sized (C := Try.checked) own started (by kernel_rfl) Try.func5
    (ChangeSpec.witness6 (enc := enc) (C := Try.checked) false ⟨#[], #[.agg #[.slice none 0 0, .int .i64 0], .int .i64 0, .int .i64 0], []⟩ 8 (by kernel_rfl) (by kernel_rfl) (by kernel_rfl) (by kernel_rfl)) ?_
  intro W base args ds gs before hval hW _ hsz _
  exact Law.contract rfl (by kernel_rfl) Try.underlying4 (by kernel_rfl) laidOut (by kernel_rfl) (fun ds hl => by
    have hl : ds.length = 3 := hl.trans (by kernel_rfl)
    match ds, hl with
    | [_, _, _], _ => exact ⟨rfl, rfl, rfl⟩) sums_all W base args ds gs before hval hW hsz

theorem sums_holds : Rows.AuditSumsSaid :=
  OpenClaim.holds_of_wide 5 Try.f5 rfl rfl rfl rfl rfl rfl rfl ⟨rfl, rfl, rfl, rfl, rfl⟩ rfl rfl rfl rfl rfl (by kernel_rfl) Try.func5 (by kernel_rfl)
    (of_decide_eq_true (by kernel_rfl)) (by unfold Func.isWrapper; first | (rw [if_pos (by decide +kernel)]; kernel_rfl) | (rw [if_neg (by decide +kernel)]; exact ⟨rfl, rfl⟩))
    (fun os started H enc _ => sums_row os started H enc)
#print axioms sums_holds

end Go.Proofs.Ytbjhphjpdeblnaa
