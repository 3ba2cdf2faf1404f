/- The law TraceAdds, as its row says it: for every input it returns true. No condition. -/
import Derived.Test.YtcpanpkhdcifoaaLa
import Derived.Test.YtcpanpkhdcifoaaPp
namespace Go.Proofs.Ytcpanpkhdcifoaa
open Go Go.Sy Go.ChangeShapes Go.WideShapes Go.ChangeAt Go.RowKit
set_option maxRecDepth 100000
set_option linter.unusedSimpArgs false
set_option linter.unusedVariables false
theorem adds_all (dts : List Dt) (h : goods [shTr, .int .i64, shPs] dts) : Law Try.prog gl0 3 (argDs [shTr, .int .i64, shPs] dts) := by
  obtain ⟨d1, dts, rfl, g1, h⟩ := goods_cons h
  obtain ⟨d2, dts, rfl, g2, h⟩ := goods_cons h
  obtain ⟨d3, dts, rfl, g3, h⟩ := goods_cons h
  obtain rfl := goods_nil h
  obtain ⟨fs, en, rfl, hf, he, hn⟩ := good_tr g1
  obtain ⟨now, rfl, hw⟩ := good_i64 g2
  obtain ⟨l, rfl, hl, hln⟩ := good_pts g3
  have e : argDs [shTr, .int .i64, shPs] [dTr fs en, .n now, .l (l.map dPt)] = [Tr fs en, I now, Ps l] := by rw [argDs, arg_tr, argDs, argDs, arg_pts]; rfl
  rw [e]
  exact adds_law fs en now l hf he hw hl hn

theorem adds_row (os : Os) (started : os.Started) (H : Type) (enc : TypeId × Value → H) :
    ReturnsInHanded {} Try.checked os 3 .any (Rows.traceAddsSpec.pre6 enc Try.prog Try.f3 Rows.traceAddsRow.domain false) (Rows.traceAddsSpec.post enc Try.prog Try.f3 false true false false) := by
  refine returnsInHanded_of_change_sized (C := Try.checked) own started (by kernel_rfl) Try.func3
    (ChangeSpec.witness6 (enc := enc) (C := Try.checked) false ⟨#[], #[.agg #[.slice none 0 0, .int .i64 0], .int .i64 0, .slice none 0 0], []⟩ 8 (by kernel_rfl) (by kernel_rfl) (by kernel_rfl) (by kernel_rfl)) ?_
  intro W base args ds gs before hval hW _ hsz _
  exact Law.contract rfl (by kernel_rfl) Try.underlying4 (by kernel_rfl) laidOut (by kernel_rfl) (fun ds hl => by
    have hl : ds.length = 3 := hl.trans (by kernel_rfl)
    match ds, hl with
    | [_, _, _], _ => exact ⟨rfl, rfl, rfl⟩) adds_all W base args ds gs before hval hW hsz

theorem adds_holds : Rows.TraceAddsSaid :=
  OpenClaim.holds_of_wide 3 Try.f3 rfl rfl rfl rfl rfl rfl rfl ⟨rfl, rfl, rfl, rfl, rfl⟩ rfl rfl rfl rfl rfl (by kernel_rfl) Try.func3 (by kernel_rfl)
    (of_decide_eq_true (by kernel_rfl)) (by unfold Func.isWrapper; first | (rw [if_pos (by decide +kernel)]; kernel_rfl) | (rw [if_neg (by decide +kernel)]; exact ⟨rfl, rfl⟩))
    (fun os started H enc _ => adds_row os started H enc)
#print axioms adds_holds

end Go.Proofs.Ytcpanpkhdcifoaa
