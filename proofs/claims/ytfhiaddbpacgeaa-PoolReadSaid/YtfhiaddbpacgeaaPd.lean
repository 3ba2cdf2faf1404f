/- The law PoolRead, as its row says it: for every input it returns true. No condition. -/
import Derived.Test.YtfhiaddbpacgeaaLe
import Derived.Test.YtfhiaddbpacgeaaPp
namespace Go.Proofs.Ytfhiaddbpacgeaa
open Go Go.Sy Go.ChangeShapes Go.WideShapes Go.ChangeAt Go.RowKit
set_option maxRecDepth 100000
set_option linter.unusedSimpArgs false
set_option linter.unusedVariables false
theorem arg_bytes (l : List Int) : argD (.slice 1 (.int .u8)) (.l (l.map .n)) = By l := by
  simp only [argD, cellsD, cells_ints, Sh.size]
theorem read_all (dts : List Dt) (h : goods [shPo, .slice 1 (.int .u8)] dts) : Law Try.prog gl0 7 (argDs [shPo, .slice 1 (.int .u8)] dts) := by
  obtain ⟨d1, dts, rfl, g1, h⟩ := goods_cons h
  obtain ⟨d2, dts, rfl, g2, h⟩ := goods_cons h
  obtain rfl := goods_nil h
  obtain ⟨x, rfl, hx, hn⟩ := good_pool g1
  obtain ⟨b, rfl, hb, hn2⟩ := good_bytes g2
  have e : argDs [shPo, .slice 1 (.int .u8)] [dPo x, .l (b.map .n)] = [Po x, By b] := by rw [argDs, arg_pool, argDs, arg_bytes]; rfl
  rw [e]
  exact read_law x b hx hn hb hn2

theorem read_row (os : Os) (started : os.Started) (H : Type) (enc : TypeId × Value → H) :
    ReturnsInHanded {} Try.checked os 7 .any (Rows.poolReadSpec.pre6 enc Try.prog Try.f7 Rows.poolReadRow.domain false) (Rows.poolReadSpec.post enc Try.prog Try.f7 false true false false) := by
  refine returnsInHanded_of_change_sized (C := Try.checked) own started (by kernel_rfl) Try.func7
    (ChangeSpec.witness6 (enc := enc) (C := Try.checked) false ⟨#[], #[.agg #[.slice none 0 0], .slice none 0 0], []⟩ 8 (by kernel_rfl) (by kernel_rfl) (by kernel_rfl) (by kernel_rfl)) ?_
  intro W base args ds gs before hval hW _ hsz _
  exact Law.contract rfl (by kernel_rfl) Try.underlying4 (by kernel_rfl) laidOut (by kernel_rfl) (fun ds hl => by
    have hl : ds.length = 2 := hl.trans (by kernel_rfl)
    match ds, hl with
    | [_, _], _ => exact ⟨rfl, rfl, rfl⟩) read_all W base args ds gs before hval hW hsz

theorem read_holds : Rows.PoolReadSaid :=
  OpenClaim.holds_of_wide 7 Try.f7 rfl rfl rfl rfl rfl rfl rfl ⟨rfl, rfl, rfl, rfl, rfl⟩ rfl rfl rfl rfl rfl (by kernel_rfl) Try.func7 (by kernel_rfl)
    (of_decide_eq_true (by kernel_rfl)) (by unfold Func.isWrapper; first | (rw [if_pos (by decide +kernel)]; kernel_rfl) | (rw [if_neg (by decide +kernel)]; exact ⟨rfl, rfl⟩))
    (fun os started H enc _ => read_row os started H enc)
#print axioms read_holds

end Go.Proofs.Ytfhiaddbpacgeaa
