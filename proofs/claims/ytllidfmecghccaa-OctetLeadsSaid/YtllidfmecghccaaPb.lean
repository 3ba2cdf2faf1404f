/- The law OctetLeads, as its row says it: for every input it returns true. No condition. -/
import Derived.Test.YtllidfmecghccaaLb
import Derived.Test.YtllidfmecghccaaPz
import Derived.Test.YtllidfmecghccaaRows
namespace Go.Proofs.Ytllidfmecghccaa
open Go Go.Sy Go.ChangeShapes Go.WideShapes Go.ChangeAt Go.RowKit
set_option maxRecDepth 100000
set_option linter.unusedSimpArgs false
set_option linter.unusedVariables false

theorem leads_all (dts : List Dt) (h : goods [.agg [.int .u64, .int .i64]] dts) : Law Try.prog [] 4 (argDs [.agg [.int .u64, .int .i64]] dts) := by
  obtain ⟨d1, dts, rfl, g1, h⟩ := goods_cons h
  obtain rfl := goods_nil h
  obtain ⟨x, w, rfl, x1, x2, w1, w2⟩ := good_mx g1
  exact leads_law x w x1 x2


theorem leads_row (os : Os) (started : os.Started) (H : Type) (enc : TypeId × Value → H) :
    ReturnsInHanded {} Try.checked os 4 .any (Rows.octetLeadsSpec.pre6 enc Try.prog Try.f4 Rows.octetLeadsRow.domain false) (Rows.octetLeadsSpec.post enc Try.prog Try.f4 false true false false) := by
  refine returnsInHanded_of_change_sized (C := Try.checked) own started (by kernel_rfl) Try.func4
    (ChangeSpec.witness6 (enc := enc) (C := Try.checked) false ⟨#[], #[.agg #[.int .u64 0, .int .i64 0]], []⟩ 8 (by kernel_rfl) (by kernel_rfl) (by kernel_rfl) (by kernel_rfl)) ?_
  intro W base args ds gs before hval hW _ hsz _
  exact Law.contract rfl (by kernel_rfl) Try.underlying4 (by kernel_rfl) laidOut (by kernel_rfl) (fun ds hl => by
    have hl : ds.length = 1 := hl.trans (by kernel_rfl)
    match ds, hl with
    | [_], _ => exact ⟨rfl, rfl, rfl⟩) leads_all W base args ds gs before hval hW hsz

theorem leads_holds : Rows.OctetLeadsSaid :=
  OpenClaim.holds_of_wide 4 Try.f4 rfl rfl rfl rfl rfl rfl rfl ⟨rfl, rfl, rfl, rfl, rfl⟩ rfl rfl rfl rfl rfl (by kernel_rfl) Try.func4 (by kernel_rfl)
    (of_decide_eq_true (by kernel_rfl)) (by unfold Func.isWrapper; first | (rw [if_pos (by decide +kernel)]; kernel_rfl) | (rw [if_neg (by decide +kernel)]; exact ⟨rfl, rfl⟩))
    (fun os started H enc _ => leads_row os started H enc)
#print axioms leads_holds
end Go.Proofs.Ytllidfmecghccaa
