/- The law AuditTimes, as its row says it: for every input it returns true. No condition. -/
import Derived.Test.YtbjhphjpdeblnaaLb
import Derived.Test.YtbjhphjpdeblnaaPp
namespace Go.Proofs.Ytbjhphjpdeblnaa
open Go Go.Sy Go.ChangeShapes Go.WideShapes Go.ChangeAt Go.RowKit
set_option maxRecDepth 100000
set_option linter.unusedSimpArgs false
set_option linter.unusedVariables false
theorem arg_p2 (a b : Int) : argD (.agg [.int .i64, .int .i64]) (.l [.n a, .n b]) = .agg [I a, I b] := by
  simp only [argD, cellsD, cellsDs]; rfl
theorem times_all (dts : List Dt) (h : goods [shW, .int .i64, .agg [.int .i64, .int .i64]] dts) : Law Try.prog gl0 4 (argDs [shW, .int .i64, .agg [.int .i64, .int .i64]] dts) := by
  obtain ⟨d1, dts, rfl, g1, h⟩ := goods_cons h
  obtain ⟨d2, dts, rfl, g2, h⟩ := goods_cons h
  obtain ⟨d3, dts, rfl, g3, h⟩ := goods_cons h
  obtain rfl := goods_nil h
  obtain ⟨ms, en, rfl, hf, he, hn⟩ := good_w g1
  obtain ⟨v, rfl, hv⟩ := good_i64 g2
  obtain ⟨ys, rfl, h2⟩ := good_agg g3
  obtain ⟨e1, ys, rfl, g4, h2⟩ := goods_cons h2
  obtain ⟨e2, ys, rfl, g5, h2⟩ := goods_cons h2
  obtain rfl := goods_nil h2
  obtain ⟨t0, rfl, ht0⟩ := good_i64 g4
  obtain ⟨t1, rfl, ht1⟩ := good_i64 g5
  have e : argDs [shW, .int .i64, .agg [.int .i64, .int .i64]] [dW ms en, .n v, .l [.n t0, .n t1]] = [Wt ms en, I v, .agg [I t0, I t1]] := by rw [argDs, arg_w, argDs, argDs, arg_p2]; rfl
  rw [e]
  exact times_law ms en v t0 t1 hf he hv ht0 ht1 hn

theorem times_row (os : Os) (started : os.Started) (H : Type) (enc : TypeId × Value → H) :
    ReturnsInHanded {} Try.checked os 4 .any (Rows.auditTimesSpec.pre6 enc Try.prog Try.f4 Rows.auditTimesRow.domain false) (Rows.auditTimesSpec.post enc Try.prog Try.f4 false true false false) := by
  refine returnsInHanded_of_change_sized (C := Try.checked) own started (by kernel_rfl) Try.func4
    (ChangeSpec.witness6 (enc := enc) (C := Try.checked) false ⟨#[], #[.agg #[.slice none 0 0, .int .i64 0], .int .i64 0, .agg #[.int .i64 0, .int .i64 0]], []⟩ 8 (by kernel_rfl) (by kernel_rfl) (by kernel_rfl) (by kernel_rfl)) ?_
  intro W base args ds gs before hval hW _ hsz _
  exact Law.contract rfl (by kernel_rfl) Try.underlying4 (by kernel_rfl) laidOut (by kernel_rfl) (fun ds hl => by
    have hl : ds.length = 3 := hl.trans (by kernel_rfl)
    match ds, hl with
    | [_, _, _], _ => exact ⟨rfl, rfl, rfl⟩) times_all W base args ds gs before hval hW hsz

theorem times_holds : Rows.AuditTimesSaid :=
  OpenClaim.holds_of_wide 4 Try.f4 rfl rfl rfl rfl rfl rfl rfl ⟨rfl, rfl, rfl, rfl, rfl⟩ rfl rfl rfl rfl rfl (by kernel_rfl) Try.func4 (by kernel_rfl)
    (of_decide_eq_true (by kernel_rfl)) (by unfold Func.isWrapper; first | (rw [if_pos (by decide +kernel)]; kernel_rfl) | (rw [if_neg (by decide +kernel)]; exact ⟨rfl, rfl⟩))
    (fun os started H enc _ => times_row os started H enc)
#print axioms times_holds

end Go.Proofs.Ytbjhphjpdeblnaa
