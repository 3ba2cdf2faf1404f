/- The law TraceOne, as its row says it: for every input it returns true. No condition. -/
import Derived.Test.YtcpanpkhdcifoaaLf
import Derived.Test.YtcpanpkhdcifoaaPp
namespace Go.Proofs.Ytcpanpkhdcifoaa
open Go Go.Sy Go.ChangeShapes Go.WideShapes Go.ChangeAt Go.RowKit
set_option maxRecDepth 100000
set_option linter.unusedSimpArgs false
set_option linter.unusedVariables false
theorem arg_nums (l : List Int) : argD (.slice 8 (.int .i64)) (.l (l.map .n)) = .rd 1 (l.map (eI .i64)) := by
  simp only [argD, cellsD, cells_ints, Sh.size]
theorem one_all (dts : List Dt) (h : goods [shTr, .slice 8 (.int .i64), .int .i64] dts) : Law Try.prog gl0 7 (argDs [shTr, .slice 8 (.int .i64), .int .i64] dts) := by
  obtain ⟨d1, dts, rfl, g1, h⟩ := goods_cons h
  obtain ⟨d2, dts, rfl, g2, h⟩ := goods_cons h
  obtain ⟨d3, dts, rfl, g3, h⟩ := goods_cons h
  obtain rfl := goods_nil h
  obtain ⟨fs, en, rfl, hf, he, hn⟩ := good_tr g1
  obtain ⟨ys, rfl, l1, l2, g⟩ := good_slice g2
  obtain ⟨ns, rfl, g4⟩ := good_ints g
  simp only [List.length_map] at l1 l2
  obtain ⟨c, rfl, hc⟩ := good_i64 g3
  have e : argDs [shTr, .slice 8 (.int .i64), .int .i64] [dTr fs en, .l (ns.map .n), .n c] = [Tr fs en, .rd 1 (ns.map (eI .i64)), I c] := by rw [argDs, arg_tr, argDs, arg_nums, argDs]; rfl
  rw [e]
  exact one_law fs en c ns hf he hc (fun n hn => rng_i64 (g4 n hn)) hn (by omega)

theorem one_row (os : Os) (started : os.Started) (H : Type) (enc : TypeId × Value → H) :
    ReturnsInHanded {} Try.checked os 7 .any (Rows.traceOneSpec.pre6 enc Try.prog Try.f7 Rows.traceOneRow.domain false) (Rows.traceOneSpec.post enc Try.prog Try.f7 false true false false) := by
  refine returnsInHanded_of_change_sized (C := Try.checked) own started (by kernel_rfl) Try.func7
    (ChangeSpec.witness6 (enc := enc) (C := Try.checked) false ⟨#[], #[.agg #[.slice none 0 0, .int .i64 0], .slice none 0 0, .int .i64 0], []⟩ 8 (by kernel_rfl) (by kernel_rfl) (by kernel_rfl) (by kernel_rfl)) ?_
  intro W base args ds gs before hval hW _ hsz _
  exact Law.contract rfl (by kernel_rfl) Try.underlying4 (by kernel_rfl) laidOut (by kernel_rfl) (fun ds hl => by
    have hl : ds.length = 3 := hl.trans (by kernel_rfl)
    match ds, hl with
    | [_, _, _], _ => exact ⟨rfl, rfl, rfl⟩) one_all W base args ds gs before hval hW hsz

theorem one_holds : Rows.TraceOneSaid :=
  OpenClaim.holds_of_wide 7 Try.f7 rfl rfl rfl rfl rfl rfl rfl ⟨rfl, rfl, rfl, rfl, rfl⟩ rfl rfl rfl rfl rfl (by kernel_rfl) Try.func7 (by kernel_rfl)
    (of_decide_eq_true (by kernel_rfl)) (by unfold Func.isWrapper; first | (rw [if_pos (by decide +kernel)]; kernel_rfl) | (rw [if_neg (by decide +kernel)]; exact ⟨rfl, rfl⟩))
    (fun os started H enc _ => one_row os started H enc)
#print axioms one_holds

end Go.Proofs.Ytcpanpkhdcifoaa
