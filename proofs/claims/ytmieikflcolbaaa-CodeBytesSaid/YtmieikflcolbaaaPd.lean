/- The law CodeBytes, as its row says it: for every input it returns true. No condition. -/
import Derived.Test.YtmieikflcolbaaaLd
import Derived.Test.YtmieikflcolbaaaPp
namespace Go.Proofs.Ytmieikflcolbaaa
open Go Go.Sy Go.ChangeShapes Go.WideShapes Go.ChangeAt Go.RowKit
set_option maxRecDepth 100000
set_option linter.unusedSimpArgs false
set_option linter.unusedVariables false
def dBy (l : List Int) : Dt := .l (l.map .n)
theorem good_rows {d : Dt} (h : good (.slice 24 (.slice 1 (.int .u8))) d) : ∃ l : List (List Int), d = .l (l.map dBy) ∧ (∀ b ∈ l, isY b ∧ b.length < 2 ^ 47) ∧ l.length < 2 ^ 46 := by
  obtain ⟨ys, rfl, l1, l2, g⟩ := good_slice h
  obtain ⟨l, rfl, g3⟩ := all_of (F := dBy) (q := fun b => isY b ∧ b.length < 2 ^ 47) (fun d hd => by
    obtain ⟨l, rfl, h1, h2⟩ := good_bytes hd
    exact ⟨l, rfl, h1, h2⟩) ys g
  simp only [List.length_map] at l1 l2
  exact ⟨l, rfl, g3, by omega⟩
theorem arg_rows (l : List (List Int)) : argD (.slice 24 (.slice 1 (.int .u8))) (.l (l.map dBy)) = Bys l := by
  simp only [argD, cellsD, Sh.size, List.map_map]
  congr 1
  apply List.map_congr_left
  intro b _
  simp only [Function.comp, dBy, cellsD, cells_ints, Sh.size, eBy]
theorem bytes_all (dts : List Dt) (h : goods [.slice 24 (.slice 1 (.int .u8))] dts) : Law Try.prog gl0 3 (argDs [.slice 24 (.slice 1 (.int .u8))] dts) := by
  obtain ⟨d2, dts, rfl, g2, h⟩ := goods_cons h
  obtain rfl := goods_nil h
  obtain ⟨rs, rfl, hr, hn2⟩ := good_rows g2
  have e : argDs [.slice 24 (.slice 1 (.int .u8))] [.l (rs.map dBy)] = [Bys rs] := by rw [argDs, arg_rows]; rfl
  rw [e]
  exact bytes_law rs hr (by omega)

theorem bytes_row (os : Os) (started : os.Started) (H : Type) (enc : TypeId × Value → H) :
    ReturnsInHanded {} Try.checked os 3 .any (Rows.codeBytesSpec.pre6 enc Try.prog Try.f3 Rows.codeBytesRow.domain false) (Rows.codeBytesSpec.post enc Try.prog Try.f3 false true false false) := by
  refine returnsInHanded_of_change_sized (C := Try.checked) own started (by kernel_rfl) Try.func3
    (ChangeSpec.witness6 (enc := enc) (C := Try.checked) false ⟨#[], #[.slice none 0 0], []⟩ 8 (by kernel_rfl) (by kernel_rfl) (by kernel_rfl) (by kernel_rfl)) ?_
  intro W base args ds gs before hval hW _ hsz _
  exact Law.contract rfl (by kernel_rfl) Try.underlying4 (by kernel_rfl) laidOut (by kernel_rfl) (fun ds hl => by
    have hl : ds.length = 1 := hl.trans (by kernel_rfl)
    match ds, hl with
    | [_], _ => exact ⟨rfl, rfl, rfl⟩) bytes_all W base args ds gs before hval hW hsz

theorem bytes_holds : Rows.CodeBytesSaid :=
  OpenClaim.holds_of_wide 3 Try.f3 rfl rfl rfl rfl rfl rfl rfl ⟨rfl, rfl, rfl, rfl, rfl⟩ rfl rfl rfl rfl rfl (by kernel_rfl) Try.func3 (by kernel_rfl)
    (of_decide_eq_true (by kernel_rfl)) (by unfold Func.isWrapper; first | (rw [if_pos (by decide +kernel)]; kernel_rfl) | (rw [if_neg (by decide +kernel)]; exact ⟨rfl, rfl⟩))
    (fun os started H enc _ => bytes_row os started H enc)
#print axioms bytes_holds

end Go.Proofs.Ytmieikflcolbaaa
