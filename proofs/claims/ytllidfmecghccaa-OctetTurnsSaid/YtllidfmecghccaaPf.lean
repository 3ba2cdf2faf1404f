/- The law OctetTurns, as its row says it: for every input it returns true. No condition. -/
import Derived.Test.YtllidfmecghccaaLf
import Derived.Test.YtllidfmecghccaaPz
import Derived.Test.YtllidfmecghccaaRows
namespace Go.Proofs.Ytllidfmecghccaa
open Go Go.Sy Go.ChangeShapes Go.WideShapes Go.ChangeAt Go.RowKit
set_option maxRecDepth 100000
set_option linter.unusedSimpArgs false
set_option linter.unusedVariables false

theorem turns_all (dts : List Dt) (h : goods [.agg [.int .u64, .int .i64], .agg [.int .u64, .int .i64]] dts) : Law Try.prog [] 8 (argDs [.agg [.int .u64, .int .i64], .agg [.int .u64, .int .i64]] dts) := by
  obtain ⟨d1, dts, rfl, g1, h⟩ := goods_cons h
  obtain ⟨d2, dts, rfl, g2, h⟩ := goods_cons h
  obtain rfl := goods_nil h
  obtain ⟨x, w, rfl, x1, x2, w1, w2⟩ := good_mx g1
  obtain ⟨y, v, rfl, y1, y2, v1, v2⟩ := good_mx g2
  exact turns_law x w y v x1 x2 y1 y2

theorem turns_row (os : Os) (started : os.Started) (H : Type) (enc : TypeId × Value → H) :
    ReturnsInHanded {} Try.checked os 8 .any (Rows.octetTurnsSpec.pre6 enc Try.prog Try.f8 Rows.octetTurnsRow.domain false) (Rows.octetTurnsSpec.post enc Try.prog Try.f8 false true false false) := by
  refine returnsInHanded_of_change_sized (C := Try.checked) own started (by kernel_rfl) Try.func8
    (ChangeSpec.witness6 (enc := enc) (C := Try.checked) false ⟨#[], #[.agg #[.int .u64 0, .int .i64 0], .agg #[.int .u64 0, .int .i64 0]], []⟩ 8 (by kernel_rfl) (by kernel_rfl) (by kernel_rfl) (by kernel_rfl)) ?_
  intro W base args ds gs before hval hW _ hsz _
  exact Law.contract rfl (by kernel_rfl) Try.underlying4 (by kernel_rfl) laidOut (by kernel_rfl) (fun ds hl => by
    have hl : ds.length = 2 := hl.trans (by kernel_rfl)
    match ds, hl with
    | [_, _], _ => exact ⟨rfl, rfl, rfl⟩) turns_all W base args ds gs before hval hW hsz

theorem turns_holds : Rows.OctetTurnsSaid :=
  OpenClaim.holds_of_wide 8 Try.f8 rfl rfl rfl rfl rfl rfl rfl ⟨rfl, rfl, rfl, rfl, rfl⟩ rfl rfl rfl rfl rfl (by kernel_rfl) Try.func8 (by kernel_rfl)
    (of_decide_eq_true (by kernel_rfl)) (by unfold Func.isWrapper; first | (rw [if_pos (by decide +kernel)]; kernel_rfl) | (rw [if_neg (by decide +kernel)]; exact ⟨rfl, rfl⟩))
    (fun os started H enc _ => turns_row os started H enc)
#print axioms turns_holds
end Go.Proofs.Ytllidfmecghccaa
