/- The law CodeRows, as its row says it: for every input it returns true. No condition. -/
import Derived.Test.YtmieikflcolbaaaLr
import Derived.Test.YtmieikflcolbaaaPp
namespace Go.Proofs.Ytmieikflcolbaaa
open Go Go.Sy Go.ChangeShapes Go.WideShapes Go.ChangeAt Go.RowKit
set_option maxRecDepth 100000
set_option linter.unusedSimpArgs false
set_option linter.unusedVariables false
theorem good_Es {d : Dt} (h : good (.slice 248 shE) d) : ∃ l : List Evt, d = .l (l.map dE) ∧ (∀ a ∈ l, wf0 a) ∧ l.length < 2 ^ 46 := by
  obtain ⟨ys, rfl, l1, l2, g⟩ := good_slice h
  obtain ⟨l, rfl, g3⟩ := all_of (F := dE) (q := wf0) (fun d hd => good_E hd) ys g
  simp only [List.length_map] at l1 l2
  exact ⟨l, rfl, g3, by omega⟩
theorem arg_Es (l : List Evt) : argD (.slice 248 shE) (.l (l.map dE)) = Es l := by
  simp only [argD, cellsD, Sh.size, Sh.sizes, List.map_map]
  congr 1
  apply List.map_congr_left
  intro a _
  exact cells_E a
def dBy (l : List Int) : Dt := .l (l.map .n)
theorem good_rows {d : Dt} (h : good (.slice 24 (.slice 1 (.int .u8))) d) : ∃ l : List (List Int), d = .l (l.map dBy) ∧ (∀ b ∈ l, isY b ∧ b.length < 2 ^ 47) ∧ l.length < 2 ^ 46 := by
  obtain ⟨ys, rfl, l1, l2, g⟩ := good_slice h
  obtain ⟨l, rfl, g3⟩ := all_of (F := dBy) (q := fun b => isY b ∧ b.length < 2 ^ 47) (fun d hd => by
    obtain ⟨l, rfl, h1, h2⟩ := good_bytes hd
    exact ⟨l, rfl, h1, h2⟩) ys g
  simp only [List.length_map] at l1 l2
  exact ⟨l, rfl, g3, by omega⟩
theorem arg_rows (l : List (List Int)) : argD (.slice 24 (.slice 1 (.int .u8))) (.l (l.map dBy)) = Bys l := by
  simp only [argD, cellsD, Sh.size, List.map_map]
  congr 1
  apply List.map_congr_left
  intro b _
  simp only [Function.comp, dBy, cellsD, cells_ints, Sh.size, eBy]
theorem rows_all (dts : List Dt) (h : goods [.slice 248 shE, .slice 24 (.slice 1 (.int .u8)), .int .i64] dts) : Law Try.prog gl0 7 (argDs [.slice 248 shE, .slice 24 (.slice 1 (.int .u8)), .int .i64] dts) := by
  obtain ⟨d1, dts, rfl, g1, h⟩ := goods_cons h
  obtain ⟨d2, dts, rfl, g2, h⟩ := goods_cons h
  obtain ⟨d3, dts, rfl, g3, h⟩ := goods_cons h
  obtain rfl := goods_nil h
  obtain ⟨l, rfl, hl, hn⟩ := good_Es g1
  obtain ⟨rs, rfl, hr, hn2⟩ := good_rows g2
  obtain ⟨m, rfl, hm⟩ := good_i64 g3
  have e : argDs [.slice 248 shE, .slice 24 (.slice 1 (.int .u8)), .int .i64] [.l (l.map dE), .l (rs.map dBy), .n m] = [Es l, Bys rs, I m] := by rw [argDs, arg_Es, argDs, arg_rows]; rfl
  rw [e]
  exact rows_law l rs m hl hn hr (by omega) hm
theorem rows_row (os : Os) (started : os.Started) (H : Type) (enc : TypeId × Value → H) :
    ReturnsInHanded {} Try.checked os 7 .any (Rows.codeRowsSpec.pre6 enc Try.prog Try.f7 Rows.codeRowsRow.domain false) (Rows.codeRowsSpec.post enc Try.prog Try.f7 false true false false) := by
  refine returnsInHanded_of_change_sized (C := Try.checked) own started (by kernel_rfl) Try.func7
    (ChangeSpec.witness6 (enc := enc) (C := Try.checked) false ⟨#[], #[.slice none 0 0, .slice none 0 0, .int .i64 0], []⟩ 8 (by kernel_rfl) (by kernel_rfl) (by kernel_rfl) (by kernel_rfl)) ?_
  intro W base args ds gs before hval hW _ hsz _
  exact Law.contract rfl (by kernel_rfl) Try.underlying4 (by kernel_rfl) laidOut (by kernel_rfl) (fun ds hl => by
    have hl : ds.length = 3 := hl.trans (by kernel_rfl)
    match ds, hl with
    | [_, _, _], _ => exact ⟨rfl, rfl, rfl⟩) rows_all W base args ds gs before hval hW hsz
theorem rows_holds : Rows.CodeRowsSaid :=
  OpenClaim.holds_of_wide 7 Try.f7 rfl rfl rfl rfl rfl rfl rfl ⟨rfl, rfl, rfl, rfl, rfl⟩ rfl rfl rfl rfl rfl (by kernel_rfl) Try.func7 (by kernel_rfl)
    (of_decide_eq_true (by kernel_rfl)) (by unfold Func.isWrapper; first | (rw [if_pos (by decide +kernel)]; kernel_rfl) | (rw [if_neg (by decide +kernel)]; exact ⟨rfl, rfl⟩))
    (fun os started H enc _ => rows_row os started H enc)
#print axioms rows_holds
end Go.Proofs.Ytmieikflcolbaaa
