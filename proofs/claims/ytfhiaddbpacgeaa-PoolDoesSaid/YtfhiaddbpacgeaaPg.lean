/- The law PoolDoes, as its row says it: for every input it returns true. No condition. -/
import Derived.Test.YtfhiaddbpacgeaaLh
import Derived.Test.YtfhiaddbpacgeaaPo
namespace Go.Proofs.Ytfhiaddbpacgeaa
open Go Go.Sy Go.ChangeShapes Go.WideShapes Go.ChangeAt Go.RowKit
set_option maxRecDepth 100000
set_option linter.unusedSimpArgs false
set_option linter.unusedVariables false
theorem does_all (dts : List Dt) (h : goods [shPo, .slice 40 shO] dts) : Law Try.prog gl0 4 (argDs [shPo, .slice 40 shO] dts) := by
  obtain ⟨d1, dts, rfl, g1, h⟩ := goods_cons h
  obtain ⟨d2, dts, rfl, g2, h⟩ := goods_cons h
  obtain rfl := goods_nil h
  obtain ⟨x, rfl, hx, hn⟩ := good_pool g1
  obtain ⟨l, rfl, hl, hll⟩ := good_ods g2
  have e : argDs [shPo, .slice 40 shO] [dPo x, .l (l.map dO)] = [Po x, Ods l] := by rw [argDs, arg_pool, argDs, arg_ods]; rfl
  rw [e]
  exact does_law x l hx hn hl (by omega)

theorem does_row (os : Os) (started : os.Started) (H : Type) (enc : TypeId × Value → H) :
    ReturnsInHanded {} Try.checked os 4 .any (Rows.poolDoesSpec.pre6 enc Try.prog Try.f4 Rows.poolDoesRow.domain false) (Rows.poolDoesSpec.post enc Try.prog Try.f4 false true false false) := by
  refine returnsInHanded_of_change_sized (C := Try.checked) own started (by kernel_rfl) Try.func4
    (ChangeSpec.witness6 (enc := enc) (C := Try.checked) false ⟨#[], #[.agg #[.slice none 0 0], .slice none 0 0], []⟩ 8 (by kernel_rfl) (by kernel_rfl) (by kernel_rfl) (by kernel_rfl)) ?_
  intro W base args ds gs before hval hW _ hsz _
  exact Law.contract rfl (by kernel_rfl) Try.underlying4 (by kernel_rfl) laidOut (by kernel_rfl) (fun ds hl => by
    have hl : ds.length = 2 := hl.trans (by kernel_rfl)
    match ds, hl with
    | [_, _], _ => exact ⟨rfl, rfl, rfl⟩) does_all W base args ds gs before hval hW hsz

theorem does_holds : Rows.PoolDoesSaid :=
  OpenClaim.holds_of_wide 4 Try.f4 rfl rfl rfl rfl rfl rfl rfl ⟨rfl, rfl, rfl, rfl, rfl⟩ rfl rfl rfl rfl rfl (by kernel_rfl) Try.func4 (by kernel_rfl)
    (of_decide_eq_true (by kernel_rfl)) (by unfold Func.isWrapper; first | (rw [if_pos (by decide +kernel)]; kernel_rfl) | (rw [if_neg (by decide +kernel)]; exact ⟨rfl, rfl⟩))
    (fun os started H enc _ => does_row os started H enc)
#print axioms does_holds

end Go.Proofs.Ytfhiaddbpacgeaa
