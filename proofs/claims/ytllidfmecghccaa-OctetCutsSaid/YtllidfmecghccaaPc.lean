/- The law OctetCuts, as its row says it: for every input it returns true. No condition. -/
import Derived.Test.YtllidfmecghccaaLc
import Derived.Test.YtllidfmecghccaaPz
import Derived.Test.YtllidfmecghccaaRows
namespace Go.Proofs.Ytllidfmecghccaa
open Go Go.Sy Go.ChangeShapes Go.WideShapes Go.ChangeAt Go.RowKit
set_option maxRecDepth 100000
set_option linter.unusedSimpArgs false
set_option linter.unusedVariables false

theorem cuts_all (dts : List Dt) (h : goods [.slice 16 (.agg [.int .u64, .int .i64]), .int .i64] dts) : Law Try.prog [] 5 (argDs [.slice 16 (.agg [.int .u64, .int .i64]), .int .i64] dts) := by
  obtain ⟨d1, dts, rfl, g1, h⟩ := goods_cons h
  obtain ⟨d2, dts, rfl, g2, h⟩ := goods_cons h
  obtain rfl := goods_nil h
  obtain ⟨xs, rfl, l1, l2, g1⟩ := good_slice g1
  obtain ⟨n, rfl, n3⟩ := good_int g2
  obtain ⟨l, rfl, g3⟩ := all_of (F := fun p : Int × Int => .l [.n p.1, .n p.2]) (q := fun p => 0 ≤ p.1 ∧ p.1 ≤ 18446744073709551615) (fun d hd => by
    obtain ⟨x, w, rfl, x1, x2, _⟩ := good_mx hd
    exact ⟨(x, w), rfl, x1, x2⟩) xs g1
  simp only [List.length_map] at l1 l2
  have e : argDs [.slice 16 (.agg [.int .u64, .int .i64]), .int .i64] [.l (l.map fun p : Int × Int => .l [.n p.1, .n p.2]), .n n] = [MxR l, .v (.int .i64 n)] := by
    simp only [argDs, argD, cellsD, Sh.size, Sh.sizes, List.map_map]
    rfl
  rw [e]
  exact cuts_law l n g3 (by omega)

theorem cuts_row (os : Os) (started : os.Started) (H : Type) (enc : TypeId × Value → H) :
    ReturnsInHanded {} Try.checked os 5 .any (Rows.octetCutsSpec.pre6 enc Try.prog Try.f5 Rows.octetCutsRow.domain false) (Rows.octetCutsSpec.post enc Try.prog Try.f5 false true false false) := by
  refine returnsInHanded_of_change_sized (C := Try.checked) own started (by kernel_rfl) Try.func5
    (ChangeSpec.witness6 (enc := enc) (C := Try.checked) false ⟨#[], #[.slice none 0 0, .int .i64 0], []⟩ 8 (by kernel_rfl) (by kernel_rfl) (by kernel_rfl) (by kernel_rfl)) ?_
  intro W base args ds gs before hval hW _ hsz _
  exact Law.contract rfl (by kernel_rfl) Try.underlying4 (by kernel_rfl) laidOut (by kernel_rfl) (fun ds hl => by
    have hl : ds.length = 2 := hl.trans (by kernel_rfl)
    match ds, hl with
    | [_, _], _ => exact ⟨rfl, rfl, rfl⟩) cuts_all W base args ds gs before hval hW hsz

theorem cuts_holds : Rows.OctetCutsSaid :=
  OpenClaim.holds_of_wide 5 Try.f5 rfl rfl rfl rfl rfl rfl rfl ⟨rfl, rfl, rfl, rfl, rfl⟩ rfl rfl rfl rfl rfl (by kernel_rfl) Try.func5 (by kernel_rfl)
    (of_decide_eq_true (by kernel_rfl)) (by unfold Func.isWrapper; first | (rw [if_pos (by decide +kernel)]; kernel_rfl) | (rw [if_neg (by decide +kernel)]; exact ⟨rfl, rfl⟩))
    (fun os started H enc _ => cuts_row os started H enc)
#print axioms cuts_holds
end Go.Proofs.Ytllidfmecghccaa
