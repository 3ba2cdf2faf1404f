/- The card of TopoBytes: for every input the law returns true. No condition. -/
import Derived.Test.YtbgnnmlhpaaebaaDoorLd
import Derived.Test.YtbgnnmlhpaaebaaDoorPp
namespace Go.Proofs.YtbgnnmlhpaaebaaDoor
open Go Go.Sy Go.ChangeShapes Go.WideShapes Go.ChangeAt Go.WideMaps Go.WideElems Go.RowKit
set_option maxRecDepth 100000
set_option linter.unusedSimpArgs false
set_option linter.unusedVariables false
theorem arg_topos (l : List (List Sea)) : argD (.slice 24 shTo) (.l (l.map dTo)) = Tos l := by
  simp only [argD, cellsD, Sh.size, Sh.sizes, List.map_map]
  congr 1
  apply List.map_congr_left
  intro x _
  exact cells_topo x
def dBy (l : List Int) : Dt := .l (l.map .n)
theorem good_rows {d : Dt} (h : good (.slice 24 (.slice 1 (.int .u8))) d) : ∃ l : List (List Int), d = .l (l.map dBy) ∧ (∀ b ∈ l, isB b ∧ b.length < 2 ^ 47) ∧ l.length < 2 ^ 46 := by
  obtain ⟨ys, rfl, l1, l2, g⟩ := good_slice h
  obtain ⟨l, rfl, g3⟩ := all_of (F := dBy) (q := fun b => isB b ∧ b.length < 2 ^ 47) (fun d hd => by
    obtain ⟨l, rfl, h1, h2⟩ := good_bytes hd
    exact ⟨l, rfl, h1, h2⟩) ys g
  simp only [List.length_map] at l1 l2
  exact ⟨l, rfl, g3, by omega⟩
theorem arg_rows (l : List (List Int)) : argD (.slice 24 (.slice 1 (.int .u8))) (.l (l.map dBy)) = Bys l := by
  simp only [argD, cellsD, Sh.size, List.map_map]
  congr 1
  apply List.map_congr_left
  intro b _
  simp only [Function.comp, dBy, cellsD, cells_ints, Sh.size, eBy]
theorem bytes_all (dts : List Dt) (h : goods [.slice 24 shTo, .slice 24 (.slice 1 (.int .u8))] dts) : Law Tryd.prog gl0 8 (argDs [.slice 24 shTo, .slice 24 (.slice 1 (.int .u8))] dts) := by
  obtain ⟨d1, dts, rfl, g1, h⟩ := goods_cons h
  obtain ⟨d2, dts, rfl, g2, h⟩ := goods_cons h
  obtain rfl := goods_nil h
  obtain ⟨l, rfl, hl, hn⟩ := good_topos g1
  obtain ⟨rs, rfl, hr, hn2⟩ := good_rows g2
  have e : argDs [.slice 24 shTo, .slice 24 (.slice 1 (.int .u8))] [.l (l.map dTo), .l (rs.map dBy)] = [Tos l, Bys rs] := by rw [argDs, arg_topos, argDs, arg_rows]; rfl
  rw [e]
  exact bytes_law l rs hl hr (by omega) (by omega)

theorem bytes_row (os : Os) (started : os.Started) (H : Type) (enc : TypeId × Value → H) :
    ReturnsInHanded {} Tryd.checked os 8 .any (fun w args => (Rows.topoBytesSpec.pre enc Tryd.prog Tryd.f8 [] false w args ∧ laidMetH Tryd.prog laidL w) ∧ sizedMet enc Tryd.prog Tryd.f8 (OpenSpec.ofChange Rows.topoBytesSpec) false w args) (Rows.topoBytesSpec.post enc Tryd.prog Tryd.f8 false true false false) := by
  refine returnsInHanded_of_change_and (C := Tryd.checked) (X := fun w _ => laidMetH Tryd.prog laidL w) (fun _ _ _ hh h => h.of_heap hh) own started (by kernel_rfl) Tryd.func8
    (ChangeSpec.witness_shaped (enc := enc) (C := Tryd.checked) (os := os) (X := fun w _ => laidMetH Tryd.prog laidL w) false (World.doorLaid Tryd.prog 400 os) #[.slice none 0 0, .slice none 0 0] 8 rfl (World.shaped_of_RefB (by kernel_rfl) (by kernel_rfl)) (by kernel_rfl) (by kernel_rfl) (by kernel_rfl) (door_met os _)) ?_
  intro W base args ds gs before hval hW _ hsz hL _
  exact Law.contractL rfl (by kernel_rfl) Tryd.underlying4 (by kernel_rfl) laidOut (by kernel_rfl) (fun ds hl => by
    have hl : ds.length = 2 := hl.trans (by kernel_rfl)
    match ds, hl with
    | [_, _], _ => exact ⟨rfl, rfl, rfl⟩) bytes_all W (gl_of_laid hL) base args ds gs before hval hW hsz

theorem bytes_holds : Rows.TopoBytesSaid :=
  OpenClaim.holds_of_wide 8 Tryd.f8 rfl rfl rfl rfl rfl rfl rfl ⟨rfl, rfl, rfl, rfl, rfl⟩ rfl rfl rfl rfl rfl (by kernel_rfl) Tryd.func8 (by kernel_rfl)
    (of_decide_eq_true (by kernel_rfl)) (by unfold Func.isWrapper; first | (rw [if_pos (by decide +kernel)]; kernel_rfl) | (rw [if_neg (by decide +kernel)]; exact ⟨rfl, rfl⟩))
    (fun os started H enc _ => bytes_row os started H enc)

theorem bytes_card : Rows.TopoBytesCardSaid :=
  Claim7.holds_tied_plain_at .later [] [.data] true (true, "fcfc0c1e6bf65148b8be63425c7d23db8021aa311beb1b8d09a83ddeae41cc68") false
    bytes_holds (fun _ h => by cases h) (by kernel_rfl) (fun _ h => by cases h) topoBytes_row_tie rfl ⟨rfl, rfl⟩ (by kernel_rfl) rfl
    (fun f fn hf hfn => by
      obtain rfl : f = 8 := Option.some.inj ((show Tryd.prog.funcNamed "mainsheet/mainsheetlaw06.TopoBytes" = some 8 by kernel_rfl).symm.trans hf) |>.symm
      obtain rfl : fn = Tryd.f8 := (Option.some.inj (Tryd.func8.symm.trans hfn)).symm
      exact ⟨by kernel_rfl, fun j t ht => by
        rw [Tryd.params8] at ht
        have hm : t ∈ [64, 66] := by simpa using Array.mem_of_getElem? ht
        have hall : ([64, 66].all fun u => !Tryd.prog.wantsStandIn u) = true := by kernel_rfl
        exact (show Tryd.prog.wantsStandIn t = false by simpa using List.all_eq_true.1 hall t hm)⟩)
    (by kernel_rfl)
#print axioms bytes_card

end Go.Proofs.YtbgnnmlhpaaebaaDoor
