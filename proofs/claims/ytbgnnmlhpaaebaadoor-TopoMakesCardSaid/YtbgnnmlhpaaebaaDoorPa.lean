/- The card of TopoMakes: for every input the law returns true. No condition. -/
import Derived.Test.YtbgnnmlhpaaebaaDoorLa
import Derived.Test.YtbgnnmlhpaaebaaDoorPp
namespace Go.Proofs.YtbgnnmlhpaaebaaDoor
open Go Go.Sy Go.ChangeShapes Go.WideShapes Go.ChangeAt Go.WideMaps Go.WideElems Go.RowKit
set_option maxRecDepth 100000
set_option linter.unusedSimpArgs false
set_option linter.unusedVariables false
abbrev shTri : Sh := .agg [.int .i64, .int .i64, .int .i64]
def dTri (r : Tri) : Dt := .l [.n r.1, .n r.2.1, .n r.2.2]
theorem good_tri {d : Dt} (h : good shTri d) : ∃ r : Tri, d = dTri r ∧ True := by
  obtain ⟨xs, rfl, h⟩ := good_agg h
  obtain ⟨d1, xs, rfl, g1, h⟩ := goods_cons h
  obtain ⟨d2, xs, rfl, g2, h⟩ := goods_cons h
  obtain ⟨d3, xs, rfl, g3, h⟩ := goods_cons h
  obtain rfl := goods_nil h
  obtain ⟨a, rfl, -⟩ := good_i64 g1
  obtain ⟨b, rfl, -⟩ := good_i64 g2
  obtain ⟨c, rfl, -⟩ := good_i64 g3
  exact ⟨(a, b, c), rfl, trivial⟩
theorem good_tris {d : Dt} (h : good (.slice 24 shTri) d) : ∃ l : List Tri, d = .l (l.map dTri) ∧ l.length < 2 ^ 46 := by
  obtain ⟨ys, rfl, l1, l2, g⟩ := good_slice h
  obtain ⟨l, rfl, -⟩ := all_of (F := dTri) (q := fun _ => True) (fun d hd => good_tri hd) ys g
  simp only [List.length_map] at l1 l2
  exact ⟨l, rfl, by omega⟩
theorem arg_tris (l : List Tri) : argD (.slice 24 shTri) (.l (l.map dTri)) = .rd 3 (l.map e3) := by
  simp only [argD, cellsD, Sh.size, Sh.sizes, List.map_map]
  rfl
theorem makes_all (dts : List Dt) (h : goods [.slice 8 (.int .i64), .slice 24 shTri] dts) : Law Tryd.prog gl0 4 (argDs [.slice 8 (.int .i64), .slice 24 shTri] dts) := by
  obtain ⟨d1, dts, rfl, g1, h⟩ := goods_cons h
  obtain ⟨d2, dts, rfl, g2, h⟩ := goods_cons h
  obtain rfl := goods_nil h
  obtain ⟨cs, rfl, -, hn⟩ := good_nums g1
  obtain ⟨rs, rfl, hn2⟩ := good_tris g2
  have e : argDs [.slice 8 (.int .i64), .slice 24 shTri] [.l (cs.map .n), .l (rs.map dTri)] = [Is cs, .rd 3 (rs.map e3)] := by rw [argDs, arg_nums, argDs, arg_tris]; rfl
  rw [e]
  exact makes_law cs rs (by omega) (by omega)

theorem makes_row (os : Os) (started : os.Started) (H : Type) (enc : TypeId × Value → H) :
    ReturnsInHanded {} Tryd.checked os 4 .any (fun w args => (Rows.topoMakesSpec.pre enc Tryd.prog Tryd.f4 [] false w args ∧ laidMetH Tryd.prog laidL w) ∧ sizedMet enc Tryd.prog Tryd.f4 (OpenSpec.ofChange Rows.topoMakesSpec) false w args) (Rows.topoMakesSpec.post enc Tryd.prog Tryd.f4 false true false false) := by
  refine returnsInHanded_of_change_and (C := Tryd.checked) (X := fun w _ => laidMetH Tryd.prog laidL w) (fun _ _ _ hh h => h.of_heap hh) own started (by kernel_rfl) Tryd.func4
    (ChangeSpec.witness_shaped (enc := enc) (C := Tryd.checked) (os := os) (X := fun w _ => laidMetH Tryd.prog laidL w) false (World.doorLaid Tryd.prog 400 os) #[.slice none 0 0, .slice none 0 0] 8 rfl (World.shaped_of_RefB (by kernel_rfl) (by kernel_rfl)) (by kernel_rfl) (by kernel_rfl) (by kernel_rfl) (door_met os _)) ?_
  intro W base args ds gs before hval hW _ hsz hL _
  exact Law.contractL rfl (by kernel_rfl) Tryd.underlying4 (by kernel_rfl) laidOut (by kernel_rfl) (fun ds hl => by
    have hl : ds.length = 2 := hl.trans (by kernel_rfl)
    match ds, hl with
    | [_, _], _ => exact ⟨rfl, rfl, rfl⟩) makes_all W (gl_of_laid hL) base args ds gs before hval hW hsz

theorem makes_holds : Rows.TopoMakesSaid :=
  OpenClaim.holds_of_wide 4 Tryd.f4 rfl rfl rfl rfl rfl rfl rfl ⟨rfl, rfl, rfl, rfl, rfl⟩ rfl rfl rfl rfl rfl (by kernel_rfl) Tryd.func4 (by kernel_rfl)
    (of_decide_eq_true (by kernel_rfl)) (by unfold Func.isWrapper; first | (rw [if_pos (by decide +kernel)]; kernel_rfl) | (rw [if_neg (by decide +kernel)]; exact ⟨rfl, rfl⟩))
    (fun os started H enc _ => makes_row os started H enc)

theorem makes_card : Rows.TopoMakesCardSaid :=
  Claim7.holds_tied_plain_at .later [] [.data] true (true, "fcfc0c1e6bf65148b8be63425c7d23db8021aa311beb1b8d09a83ddeae41cc68") false
    makes_holds (fun _ h => by cases h) (by kernel_rfl) (fun _ h => by cases h) topoMakes_row_tie rfl ⟨rfl, rfl⟩ (by kernel_rfl) rfl
    (fun f fn hf hfn => by
      obtain rfl : f = 4 := Option.some.inj ((show Tryd.prog.funcNamed "mainsheet/mainsheetlaw06.TopoMakes" = some 4 by kernel_rfl).symm.trans hf) |>.symm
      obtain rfl : fn = Tryd.f4 := (Option.some.inj (Tryd.func4.symm.trans hfn)).symm
      exact ⟨by kernel_rfl, fun j t ht => by
        rw [Tryd.params4] at ht
        have hm : t ∈ [38, 46] := by simpa using Array.mem_of_getElem? ht
        have hall : ([38, 46].all fun u => !Tryd.prog.wantsStandIn u) = true := by kernel_rfl
        exact (show Tryd.prog.wantsStandIn t = false by simpa using List.all_eq_true.1 hall t hm)⟩)
    (by kernel_rfl)
#print axioms makes_card

end Go.Proofs.YtbgnnmlhpaaebaaDoor
