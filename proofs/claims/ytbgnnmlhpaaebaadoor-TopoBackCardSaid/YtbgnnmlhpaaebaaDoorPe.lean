/- The card of TopoBack: for every input the law returns true. No condition. -/
import Derived.Test.YtbgnnmlhpaaebaaDoorLe
import Derived.Test.YtbgnnmlhpaaebaaDoorPp
namespace Go.Proofs.YtbgnnmlhpaaebaaDoor
open Go Go.Sy Go.ChangeShapes Go.WideShapes Go.ChangeAt Go.WideMaps Go.WideElems Go.RowKit
set_option maxRecDepth 100000
set_option linter.unusedSimpArgs false
set_option linter.unusedVariables false
theorem arg_bytes (l : List Int) : argD (.slice 1 (.int .u8)) (.l (l.map .n)) = By l := by
  simp only [argD, cellsD, cells_ints, Sh.size]
theorem back_all (dts : List Dt) (h : goods [shTo, .slice 1 (.int .u8)] dts) : Law Tryd.prog gl0 9 (argDs [shTo, .slice 1 (.int .u8)] dts) := by
  obtain ⟨d1, dts, rfl, g1, h⟩ := goods_cons h
  obtain ⟨d2, dts, rfl, g2, h⟩ := goods_cons h
  obtain rfl := goods_nil h
  obtain ⟨x, rfl, hx, hn⟩ := good_topo g1
  obtain ⟨b, rfl, hb, hn2⟩ := good_bytes g2
  have e : argDs [shTo, .slice 1 (.int .u8)] [dTo x, .l (b.map .n)] = [To x, By b] := by rw [argDs, arg_topo, argDs, arg_bytes]; rfl
  rw [e]
  exact back_law x b hx hb (by omega) (by omega)

theorem back_row (os : Os) (started : os.Started) (H : Type) (enc : TypeId × Value → H) :
    ReturnsInHanded {} Tryd.checked os 9 .any (fun w args => (Rows.topoBackSpec.pre enc Tryd.prog Tryd.f9 [] false w args ∧ laidMetH Tryd.prog laidL w) ∧ sizedMet enc Tryd.prog Tryd.f9 (OpenSpec.ofChange Rows.topoBackSpec) false w args) (Rows.topoBackSpec.post enc Tryd.prog Tryd.f9 false true false false) := by
  refine returnsInHanded_of_change_and (C := Tryd.checked) (X := fun w _ => laidMetH Tryd.prog laidL w) (fun _ _ _ hh h => h.of_heap hh) own started (by kernel_rfl) Tryd.func9
    (ChangeSpec.witness_shaped (enc := enc) (C := Tryd.checked) (os := os) (X := fun w _ => laidMetH Tryd.prog laidL w) false (World.doorLaid Tryd.prog 400 os) #[.agg #[.slice none 0 0], .slice none 0 0] 8 rfl (World.shaped_of_RefB (by kernel_rfl) (by kernel_rfl)) (by kernel_rfl) (by kernel_rfl) (by kernel_rfl) (door_met os _)) ?_
  intro W base args ds gs before hval hW _ hsz hL _
  exact Law.contractL rfl (by kernel_rfl) Tryd.underlying4 (by kernel_rfl) laidOut (by kernel_rfl) (fun ds hl => by
    have hl : ds.length = 2 := hl.trans (by kernel_rfl)
    match ds, hl with
    | [_, _], _ => exact ⟨rfl, rfl, rfl⟩) back_all W (gl_of_laid hL) base args ds gs before hval hW hsz

theorem back_holds : Rows.TopoBackSaid :=
  OpenClaim.holds_of_wide 9 Tryd.f9 rfl rfl rfl rfl rfl rfl rfl ⟨rfl, rfl, rfl, rfl, rfl⟩ rfl rfl rfl rfl rfl (by kernel_rfl) Tryd.func9 (by kernel_rfl)
    (of_decide_eq_true (by kernel_rfl)) (by unfold Func.isWrapper; first | (rw [if_pos (by decide +kernel)]; kernel_rfl) | (rw [if_neg (by decide +kernel)]; exact ⟨rfl, rfl⟩))
    (fun os started H enc _ => back_row os started H enc)

theorem back_card : Rows.TopoBackCardSaid :=
  Claim7.holds_tied_plain_at .later [] [.data] true (true, "fcfc0c1e6bf65148b8be63425c7d23db8021aa311beb1b8d09a83ddeae41cc68") false
    back_holds (fun _ h => by cases h) (by kernel_rfl) (fun _ h => by cases h) topoBack_row_tie rfl ⟨rfl, rfl⟩ (by kernel_rfl) rfl
    (fun f fn hf hfn => by
      obtain rfl : f = 9 := Option.some.inj ((show Tryd.prog.funcNamed "mainsheet/mainsheetlaw06.TopoBack" = some 9 by kernel_rfl).symm.trans hf) |>.symm
      obtain rfl : fn = Tryd.f9 := (Option.some.inj (Tryd.func9.symm.trans hfn)).symm
      exact ⟨by kernel_rfl, fun j t ht => by
        rw [Tryd.params9] at ht
        have hm : t ∈ [24, 67] := by simpa using Array.mem_of_getElem? ht
        have hall : ([24, 67].all fun u => !Tryd.prog.wantsStandIn u) = true := by kernel_rfl
        exact (show Tryd.prog.wantsStandIn t = false by simpa using List.all_eq_true.1 hall t hm)⟩)
    (by kernel_rfl)
#print axioms back_card

end Go.Proofs.YtbgnnmlhpaaebaaDoor
