/- The law OctetPuts, as its row says it: for every input it returns true. No condition. -/
import Derived.Test.YtllidfmecghccaaLa
import Derived.Test.YtllidfmecghccaaPz
import Derived.Test.YtllidfmecghccaaRows
namespace Go.Proofs.Ytllidfmecghccaa
open Go Go.Sy Go.ChangeShapes Go.WideShapes Go.ChangeAt Go.RowKit
set_option maxRecDepth 100000
set_option linter.unusedSimpArgs false
set_option linter.unusedVariables false

theorem puts_all (dts : List Dt) (h : goods [.slice 1 (.int .u8), .int .u64] dts) : Law Try.prog [] 3 (argDs [.slice 1 (.int .u8), .int .u64] dts) := by
  obtain ⟨d1, dts, rfl, g1, h⟩ := goods_cons h
  obtain ⟨d2, dts, rfl, g2, h⟩ := goods_cons h
  obtain rfl := goods_nil h
  obtain ⟨xs, rfl, l1, l2, g1⟩ := good_slice g1
  obtain ⟨bs, rfl, g3⟩ := good_ints g1
  obtain ⟨n, rfl, n3⟩ := good_int g2
  obtain ⟨n1, n2⟩ := rng_u64 n3
  simp only [List.length_map, Nat.mul_one] at l1 l2
  have e : argDs [.slice 1 (.int .u8), .int .u64] [.l (bs.map .n), .n n] = [By bs, .v (.int .u64 n)] := by
    simp only [argDs, argD, cellsD, cells_ints, Sh.size]
  rw [e]
  exact puts_law bs n n1 n2 (by omega) fun b hb => by have := rng_u8 (g3 b hb); omega


theorem puts_row (os : Os) (started : os.Started) (H : Type) (enc : TypeId × Value → H) :
    ReturnsInHanded {} Try.checked os 3 .any (Rows.octetPutsSpec.pre6 enc Try.prog Try.f3 Rows.octetPutsRow.domain false) (Rows.octetPutsSpec.post enc Try.prog Try.f3 false true false false) := by
  refine returnsInHanded_of_change_sized (C := Try.checked) own started (by kernel_rfl) Try.func3
    (ChangeSpec.witness6 (enc := enc) (C := Try.checked) false ⟨#[], #[.slice none 0 0, .int .u64 0], []⟩ 8 (by kernel_rfl) (by kernel_rfl) (by kernel_rfl) (by kernel_rfl)) ?_
  intro W base args ds gs before hval hW _ hsz _
  exact Law.contract rfl (by kernel_rfl) Try.underlying4 (by kernel_rfl) laidOut (by kernel_rfl) (fun ds hl => by
    have hl : ds.length = 2 := hl.trans (by kernel_rfl)
    match ds, hl with
    | [_, _], _ => exact ⟨rfl, rfl, rfl⟩) puts_all W base args ds gs before hval hW hsz

theorem puts_holds : Rows.OctetPutsSaid :=
  OpenClaim.holds_of_wide 3 Try.f3 rfl rfl rfl rfl rfl rfl rfl ⟨rfl, rfl, rfl, rfl, rfl⟩ rfl rfl rfl rfl rfl (by kernel_rfl) Try.func3 (by kernel_rfl)
    (of_decide_eq_true (by kernel_rfl)) (by unfold Func.isWrapper; first | (rw [if_pos (by decide +kernel)]; kernel_rfl) | (rw [if_neg (by decide +kernel)]; exact ⟨rfl, rfl⟩))
    (fun os started H enc _ => puts_row os started H enc)
#print axioms puts_holds
end Go.Proofs.Ytllidfmecghccaa
