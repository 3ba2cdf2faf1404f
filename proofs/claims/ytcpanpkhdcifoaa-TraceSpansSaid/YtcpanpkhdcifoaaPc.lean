/- The law TraceSpans, as its row says it: for every input it returns true. No condition. -/
import Derived.Test.YtcpanpkhdcifoaaLc
import Derived.Test.YtcpanpkhdcifoaaPp
namespace Go.Proofs.Ytcpanpkhdcifoaa
open Go Go.Sy Go.ChangeShapes Go.WideShapes Go.ChangeAt Go.RowKit
set_option maxRecDepth 100000
set_option linter.unusedSimpArgs false
set_option linter.unusedVariables false
theorem arg_pt (p : Pt) : argD shPt (dPt p) = .agg [I p.1, I p.2] := by
  simp only [argD, dPt, cellsD, cellsDs]; rfl
theorem spans_all (dts : List Dt) (h : goods [shTr, .int .i64, shPt] dts) : Law Try.prog gl0 8 (argDs [shTr, .int .i64, shPt] dts) := by
  obtain ⟨d1, dts, rfl, g1, h⟩ := goods_cons h
  obtain ⟨d2, dts, rfl, g2, h⟩ := goods_cons h
  obtain ⟨d3, dts, rfl, g3, h⟩ := goods_cons h
  obtain rfl := goods_nil h
  obtain ⟨fs, en, rfl, hf, he, hn⟩ := good_tr g1
  obtain ⟨v, rfl, hv⟩ := good_i64 g2
  obtain ⟨t, rfl, t0, t1⟩ := good_pt g3
  have e : argDs [shTr, .int .i64, shPt] [dTr fs en, .n v, dPt t] = [Tr fs en, I v, .agg [I t.1, I t.2]] := by rw [argDs, arg_tr, argDs, argDs, arg_pt]; rfl
  rw [e]
  exact spans_law fs en v t.1 t.2 hf he hv t0 t1 hn

theorem spans_row (os : Os) (started : os.Started) (H : Type) (enc : TypeId × Value → H) :
    ReturnsInHanded {} Try.checked os 8 .any (Rows.traceSpansSpec.pre6 enc Try.prog Try.f8 Rows.traceSpansRow.domain false) (Rows.traceSpansSpec.post enc Try.prog Try.f8 false true false false) := by
  refine returnsInHanded_of_change_sized (C := Try.checked) own started (by kernel_rfl) Try.func8
    (ChangeSpec.witness6 (enc := enc) (C := Try.checked) false ⟨#[], #[.agg #[.slice none 0 0, .int .i64 0], .int .i64 0, .agg #[.int .i64 0, .int .i64 0]], []⟩ 8 (by kernel_rfl) (by kernel_rfl) (by kernel_rfl) (by kernel_rfl)) ?_
  intro W base args ds gs before hval hW _ hsz _
  exact Law.contract rfl (by kernel_rfl) Try.underlying4 (by kernel_rfl) laidOut (by kernel_rfl) (fun ds hl => by
    have hl : ds.length = 3 := hl.trans (by kernel_rfl)
    match ds, hl with
    | [_, _, _], _ => exact ⟨rfl, rfl, rfl⟩) spans_all W base args ds gs before hval hW hsz

theorem spans_holds : Rows.TraceSpansSaid :=
  OpenClaim.holds_of_wide 8 Try.f8 rfl rfl rfl rfl rfl rfl rfl ⟨rfl, rfl, rfl, rfl, rfl⟩ rfl rfl rfl rfl rfl (by kernel_rfl) Try.func8 (by kernel_rfl)
    (of_decide_eq_true (by kernel_rfl)) (by unfold Func.isWrapper; first | (rw [if_pos (by decide +kernel)]; kernel_rfl) | (rw [if_neg (by decide +kernel)]; exact ⟨rfl, rfl⟩))
    (fun os started H enc _ => spans_row os started H enc)
#print axioms spans_holds

end Go.Proofs.Ytcpanpkhdcifoaa
