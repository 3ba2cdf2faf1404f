/- The law OctetWalks, as its row says it: for every input it returns true. No condition. -/
import Derived.Test.YtllidfmecghccaaLd
import Derived.Test.YtllidfmecghccaaPz
import Derived.Test.YtllidfmecghccaaRows
namespace Go.Proofs.Ytllidfmecghccaa
open Go Go.Sy Go.ChangeShapes Go.WideShapes Go.ChangeAt Go.RowKit
set_option maxRecDepth 100000
set_option linter.unusedSimpArgs false
set_option linter.unusedVariables false

theorem walks_all (dts : List Dt) (h : goods [.slice 1 (.int .u8), .slice 8 (.int .i64)] dts) : Law Try.prog [] 6 (argDs [.slice 1 (.int .u8), .slice 8 (.int .i64)] dts) := by
  obtain ⟨d1, dts, rfl, g1, h⟩ := goods_cons h
  obtain ⟨d2, dts, rfl, g2, h⟩ := goods_cons h
  obtain rfl := goods_nil h
  obtain ⟨xs, rfl, l1, l2, g1⟩ := good_slice g1
  obtain ⟨ys, rfl, l3, l4, g2⟩ := good_slice g2
  obtain ⟨bs, rfl, g3⟩ := good_ints g1
  obtain ⟨ns, rfl, g4⟩ := good_ints g2
  simp only [List.length_map] at l1 l2 l3 l4
  have e : argDs [.slice 1 (.int .u8), .slice 8 (.int .i64)] [.l (bs.map .n), .l (ns.map .n)] = [By bs, Ns ns] := by
    simp only [argDs, argD, cellsD, cells_ints, Sh.size]
  rw [e]
  exact walks_law bs ns (fun b hb => by have := rng_u8 (g3 b hb); omega) (fun n hn => rng_i64 (g4 n hn)) (by omega) (by omega)

theorem walks_row (os : Os) (started : os.Started) (H : Type) (enc : TypeId × Value → H) :
    ReturnsInHanded {} Try.checked os 6 .any (Rows.octetWalksSpec.pre6 enc Try.prog Try.f6 Rows.octetWalksRow.domain false) (Rows.octetWalksSpec.post enc Try.prog Try.f6 false true false false) := by
  refine returnsInHanded_of_change_sized (C := Try.checked) own started (by kernel_rfl) Try.func6
    (ChangeSpec.witness6 (enc := enc) (C := Try.checked) false ⟨#[], #[.slice none 0 0, .slice none 0 0], []⟩ 8 (by kernel_rfl) (by kernel_rfl) (by kernel_rfl) (by kernel_rfl)) ?_
  intro W base args ds gs before hval hW _ hsz _
  exact Law.contract rfl (by kernel_rfl) Try.underlying4 (by kernel_rfl) laidOut (by kernel_rfl) (fun ds hl => by
    have hl : ds.length = 2 := hl.trans (by kernel_rfl)
    match ds, hl with
    | [_, _], _ => exact ⟨rfl, rfl, rfl⟩) walks_all W base args ds gs before hval hW hsz

theorem walks_holds : Rows.OctetWalksSaid :=
  OpenClaim.holds_of_wide 6 Try.f6 rfl rfl rfl rfl rfl rfl rfl ⟨rfl, rfl, rfl, rfl, rfl⟩ rfl rfl rfl rfl rfl (by kernel_rfl) Try.func6 (by kernel_rfl)
    (of_decide_eq_true (by kernel_rfl)) (by unfold Func.isWrapper; first | (rw [if_pos (by decide +kernel)]; kernel_rfl) | (rw [if_neg (by decide +kernel)]; exact ⟨rfl, rfl⟩))
    (fun os started H enc _ => walks_row os started H enc)
#print axioms walks_holds
end Go.Proofs.Ytllidfmecghccaa
