/- The law PoolBack, as its row says it: for every input it returns true. No condition. -/
import Derived.Test.YtfhiaddbpacgeaaLf
import Derived.Test.YtfhiaddbpacgeaaPo
namespace Go.Proofs.Ytfhiaddbpacgeaa
open Go Go.Sy Go.ChangeShapes Go.WideShapes Go.ChangeAt Go.RowKit
set_option maxRecDepth 100000
set_option linter.unusedSimpArgs false
set_option linter.unusedVariables false
theorem back_all (dts : List Dt) (h : goods [shPo, shO] dts) : Law Try.prog gl0 8 (argDs [shPo, shO] dts) := by
  obtain ⟨d1, dts, rfl, g1, h⟩ := goods_cons h
  obtain ⟨d2, dts, rfl, g2, h⟩ := goods_cons h
  obtain rfl := goods_nil h
  obtain ⟨x, rfl, hx, hn⟩ := good_pool g1
  obtain ⟨o, rfl, ho⟩ := good_od g2
  have e : argDs [shPo, shO] [dPo x, dO o] = [Po x, .agg (eO o)] := by rw [argDs, arg_pool, argDs, arg_od]; rfl
  rw [e]
  exact back_law x o hx hn ho

theorem back_row (os : Os) (started : os.Started) (H : Type) (enc : TypeId × Value → H) :
    ReturnsInHanded {} Try.checked os 8 .any (Rows.poolBackSpec.pre6 enc Try.prog Try.f8 Rows.poolBackRow.domain false) (Rows.poolBackSpec.post enc Try.prog Try.f8 false true false false) := by
  refine returnsInHanded_of_change_sized (C := Try.checked) own started (by kernel_rfl) Try.func8
    (ChangeSpec.witness6 (enc := enc) (C := Try.checked) false ⟨#[], #[.agg #[.slice none 0 0], .agg #[.int .i64 0, .int .i64 0, .int .i64 0, .int .i64 0, .int .u32 0]], []⟩ 8 (by kernel_rfl) (by kernel_rfl) (by kernel_rfl) (by kernel_rfl)) ?_
  intro W base args ds gs before hval hW _ hsz _
  exact Law.contract rfl (by kernel_rfl) Try.underlying4 (by kernel_rfl) laidOut (by kernel_rfl) (fun ds hl => by
    have hl : ds.length = 2 := hl.trans (by kernel_rfl)
    match ds, hl with
    | [_, _], _ => exact ⟨rfl, rfl, rfl⟩) back_all W base args ds gs before hval hW hsz

theorem back_holds : Rows.PoolBackSaid :=
  OpenClaim.holds_of_wide 8 Try.f8 rfl rfl rfl rfl rfl rfl rfl ⟨rfl, rfl, rfl, rfl, rfl⟩ rfl rfl rfl rfl rfl (by kernel_rfl) Try.func8 (by kernel_rfl)
    (of_decide_eq_true (by kernel_rfl)) (by unfold Func.isWrapper; first | (rw [if_pos (by decide +kernel)]; kernel_rfl) | (rw [if_neg (by decide +kernel)]; exact ⟨rfl, rfl⟩))
    (fun os started H enc _ => back_row os started H enc)
#print axioms back_holds

end Go.Proofs.Ytfhiaddbpacgeaa
