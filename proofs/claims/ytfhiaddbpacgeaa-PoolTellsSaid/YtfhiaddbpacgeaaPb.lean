/- The law PoolTells, as its row says it: for every input it returns true. No condition. -/
import Derived.Test.YtfhiaddbpacgeaaLb
import Derived.Test.YtfhiaddbpacgeaaPp
namespace Go.Proofs.Ytfhiaddbpacgeaa
open Go Go.Sy Go.ChangeShapes Go.WideShapes Go.ChangeAt Go.RowKit
set_option maxRecDepth 100000
set_option linter.unusedSimpArgs false
set_option linter.unusedVariables false
theorem tells_all (dts : List Dt) (h : goods [.slice 24 shPo, .slice 8 (.int .i64)] dts) : Law Try.prog gl0 5 (argDs [.slice 24 shPo, .slice 8 (.int .i64)] dts) := by
  obtain ⟨d1, dts, rfl, g1, h⟩ := goods_cons h
  obtain ⟨d2, dts, rfl, g2, h⟩ := goods_cons h
  obtain rfl := goods_nil h
  obtain ⟨l, rfl, hl, hn⟩ := good_pools g1
  obtain ⟨ns, rfl, hns, hn2⟩ := good_nums g2
  have e : argDs [.slice 24 shPo, .slice 8 (.int .i64)] [.l (l.map dPo), .l (ns.map .n)] = [Pos l, Is ns] := by rw [argDs, arg_pools, argDs, arg_nums]; rfl
  rw [e]
  exact tells_law l ns hl hns (by omega) (by omega)

theorem tells_row (os : Os) (started : os.Started) (H : Type) (enc : TypeId × Value → H) :
    ReturnsInHanded {} Try.checked os 5 .any (Rows.poolTellsSpec.pre6 enc Try.prog Try.f5 Rows.poolTellsRow.domain false) (Rows.poolTellsSpec.post enc Try.prog Try.f5 false true false false) := by
  refine returnsInHanded_of_change_sized (C := Try.checked) own started (by kernel_rfl) Try.func5
    (ChangeSpec.witness6 (enc := enc) (C := Try.checked) false ⟨#[], #[.slice none 0 0, .slice none 0 0], []⟩ 8 (by kernel_rfl) (by kernel_rfl) (by kernel_rfl) (by kernel_rfl)) ?_
  intro W base args ds gs before hval hW _ hsz _
  exact Law.contract rfl (by kernel_rfl) Try.underlying4 (by kernel_rfl) laidOut (by kernel_rfl) (fun ds hl => by
    have hl : ds.length = 2 := hl.trans (by kernel_rfl)
    match ds, hl with
    | [_, _], _ => exact ⟨rfl, rfl, rfl⟩) tells_all W base args ds gs before hval hW hsz

theorem tells_holds : Rows.PoolTellsSaid :=
  OpenClaim.holds_of_wide 5 Try.f5 rfl rfl rfl rfl rfl rfl rfl ⟨rfl, rfl, rfl, rfl, rfl⟩ rfl rfl rfl rfl rfl (by kernel_rfl) Try.func5 (by kernel_rfl)
    (of_decide_eq_true (by kernel_rfl)) (by unfold Func.isWrapper; first | (rw [if_pos (by decide +kernel)]; kernel_rfl) | (rw [if_neg (by decide +kernel)]; exact ⟨rfl, rfl⟩))
    (fun os started H enc _ => tells_row os started H enc)
#print axioms tells_holds

end Go.Proofs.Ytfhiaddbpacgeaa
