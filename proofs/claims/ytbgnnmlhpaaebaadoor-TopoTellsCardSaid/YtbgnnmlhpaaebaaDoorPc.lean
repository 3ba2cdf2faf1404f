/- The card of TopoTells: for every input the law returns true. No condition. -/
import Derived.Test.YtbgnnmlhpaaebaaDoorLc
import Derived.Test.YtbgnnmlhpaaebaaDoorPp
namespace Go.Proofs.YtbgnnmlhpaaebaaDoor
open Go Go.Sy Go.ChangeShapes Go.WideShapes Go.ChangeAt Go.WideMaps Go.WideElems Go.RowKit
set_option maxRecDepth 100000
set_option linter.unusedSimpArgs false
set_option linter.unusedVariables false
theorem arg_topos (l : List (List Sea)) : argD (.slice 24 shTo) (.l (l.map dTo)) = Tos l := by
  simp only [argD, cellsD, Sh.size, Sh.sizes, List.map_map]
  congr 1
  apply List.map_congr_left
  intro x _
  exact cells_topo x
theorem tells_all (dts : List Dt) (h : goods [.slice 24 shTo, .slice 8 (.int .i64)] dts) : Law Tryd.prog gl0 7 (argDs [.slice 24 shTo, .slice 8 (.int .i64)] dts) := by
  obtain ⟨d1, dts, rfl, g1, h⟩ := goods_cons h
  obtain ⟨d2, dts, rfl, g2, h⟩ := goods_cons h
  obtain rfl := goods_nil h
  obtain ⟨l, rfl, hl, hn⟩ := good_topos g1
  obtain ⟨cs, rfl, hc, hn2⟩ := good_nums g2
  have e : argDs [.slice 24 shTo, .slice 8 (.int .i64)] [.l (l.map dTo), .l (cs.map .n)] = [Tos l, Is cs] := by rw [argDs, arg_topos, argDs, arg_nums]; rfl
  rw [e]
  exact tells_law l cs hl hc (by omega) (by omega)

theorem tells_row (os : Os) (started : os.Started) (H : Type) (enc : TypeId × Value → H) :
    ReturnsInHanded {} Tryd.checked os 7 .any (fun w args => (Rows.topoTellsSpec.pre enc Tryd.prog Tryd.f7 [] false w args ∧ laidMetH Tryd.prog laidL w) ∧ sizedMet enc Tryd.prog Tryd.f7 (OpenSpec.ofChange Rows.topoTellsSpec) false w args) (Rows.topoTellsSpec.post enc Tryd.prog Tryd.f7 false true false false) := by
  refine returnsInHanded_of_change_and (C := Tryd.checked) (X := fun w _ => laidMetH Tryd.prog laidL w) (fun _ _ _ hh h => h.of_heap hh) own started (by kernel_rfl) Tryd.func7
    (ChangeSpec.witness_shaped (enc := enc) (C := Tryd.checked) (os := os) (X := fun w _ => laidMetH Tryd.prog laidL w) false (World.doorLaid Tryd.prog 400 os) #[.slice none 0 0, .slice none 0 0] 8 rfl (World.shaped_of_RefB (by kernel_rfl) (by kernel_rfl)) (by kernel_rfl) (by kernel_rfl) (by kernel_rfl) (door_met os _)) ?_
  intro W base args ds gs before hval hW _ hsz hL _
  exact Law.contractL rfl (by kernel_rfl) Tryd.underlying4 (by kernel_rfl) laidOut (by kernel_rfl) (fun ds hl => by
    have hl : ds.length = 2 := hl.trans (by kernel_rfl)
    match ds, hl with
    | [_, _], _ => exact ⟨rfl, rfl, rfl⟩) tells_all W (gl_of_laid hL) base args ds gs before hval hW hsz

theorem tells_holds : Rows.TopoTellsSaid :=
  OpenClaim.holds_of_wide 7 Tryd.f7 rfl rfl rfl rfl rfl rfl rfl ⟨rfl, rfl, rfl, rfl, rfl⟩ rfl rfl rfl rfl rfl (by kernel_rfl) Tryd.func7 (by kernel_rfl)
    (of_decide_eq_true (by kernel_rfl)) (by unfold Func.isWrapper; first | (rw [if_pos (by decide +kernel)]; kernel_rfl) | (rw [if_neg (by decide +kernel)]; exact ⟨rfl, rfl⟩))
    (fun os started H enc _ => tells_row os started H enc)

theorem tells_card : Rows.TopoTellsCardSaid :=
  Claim7.holds_tied_plain_at .later [] [.data] true (true, "fcfc0c1e6bf65148b8be63425c7d23db8021aa311beb1b8d09a83ddeae41cc68") false
    tells_holds (fun _ h => by cases h) (by kernel_rfl) (fun _ h => by cases h) topoTells_row_tie rfl ⟨rfl, rfl⟩ (by kernel_rfl) rfl
    (fun f fn hf hfn => by
      obtain rfl : f = 7 := Option.some.inj ((show Tryd.prog.funcNamed "mainsheet/mainsheetlaw06.TopoTells" = some 7 by kernel_rfl).symm.trans hf) |>.symm
      obtain rfl : fn = Tryd.f7 := (Option.some.inj (Tryd.func7.symm.trans hfn)).symm
      exact ⟨by kernel_rfl, fun j t ht => by
        rw [Tryd.params7] at ht
        have hm : t ∈ [64, 38] := by simpa using Array.mem_of_getElem? ht
        have hall : ([64, 38].all fun u => !Tryd.prog.wantsStandIn u) = true := by kernel_rfl
        exact (show Tryd.prog.wantsStandIn t = false by simpa using List.all_eq_true.1 hall t hm)⟩)
    (by kernel_rfl)
#print axioms tells_card

end Go.Proofs.YtbgnnmlhpaaebaaDoor
