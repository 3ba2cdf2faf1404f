/- The card of PickChoices: for every input the law returns true. No condition. -/
import Derived.Test.YtnjgmjcokcfmkaaDoorQh
import Derived.Test.YtnjgmjcokcfmkaaDoorPr
namespace Go.Proofs.YtnjgmjcokcfmkaaDoor
open Go Go.Sy Go.ChangeShapes Go.WideShapes Go.ChangeAt Go.WideMaps Go.WideElems Go.RowKit
set_option maxRecDepth 100000
set_option linter.unusedSimpArgs false
set_option linter.unusedVariables false
theorem choices_all (dts : List Dt) (h : goods [shW, shC] dts) : Law Tryd.prog gl0 4 (argDs [shW, shC] dts) := by
  obtain ⟨d1, dts, rfl, g1, h⟩ := goods_cons h
  obtain ⟨d2, dts, rfl, g2, h⟩ := goods_cons h
  obtain rfl := goods_nil h
  obtain ⟨w, rfl, hw⟩ := good_wish g1
  obtain ⟨s, rfl, hs⟩ := good_u32 g2
  have e : argDs [shW, shC] [dW w, .n (s : Int)] = [.agg (eW w), S s] := by
    simp only [argDs, argD, dW, cellsD, cellsDs, Sh.size, Sh.sizes, List.cons_append, List.nil_append, List.append_nil, eW]
  rw [e]
  exact choices_law w s hw hs

theorem choices_row (os : Os) (started : os.Started) (H : Type) (enc : TypeId × Value → H) :
    ReturnsInHanded {} Tryd.checked os 4 .any (fun w args => (Rows.pickChoicesSpec.pre enc Tryd.prog Tryd.f4 [] false w args ∧ laidMetH Tryd.prog laidL w) ∧ sizedMet enc Tryd.prog Tryd.f4 (OpenSpec.ofChange Rows.pickChoicesSpec) false w args) (Rows.pickChoicesSpec.post enc Tryd.prog Tryd.f4 false true false false) := by
  refine returnsInHanded_of_change_and (C := Tryd.checked) (X := fun w _ => laidMetH Tryd.prog laidL w) (fun _ _ _ hh h => h.of_heap hh) own started (by kernel_rfl) Tryd.func4
    (ChangeSpec.witness_shaped (enc := enc) (C := Tryd.checked) (os := os) (X := fun w _ => laidMetH Tryd.prog laidL w) false (World.doorLaid Tryd.prog 400 os) #[.agg #[.int .i64 0, .int .i64 0, .int .u32 0, .int .u32 0], .int .u32 0] 8 rfl (World.shaped_of_RefB (by kernel_rfl) (by kernel_rfl)) (by kernel_rfl) (by kernel_rfl) (by kernel_rfl) (door_met os _)) ?_
  intro W base args ds gs before hval hW _ hsz hL _
  exact Law.contractL rfl (by kernel_rfl) Tryd.underlying4 (by kernel_rfl) laidOut (by kernel_rfl) (fun ds hl => by
    have hl : ds.length = 2 := hl.trans (by kernel_rfl)
    match ds, hl with
    | [_, _], _ => exact ⟨rfl, rfl, rfl⟩) choices_all W (gl_of_laid hL) base args ds gs before hval hW hsz

theorem choices_holds : Rows.PickChoicesSaid :=
  OpenClaim.holds_of_wide 4 Tryd.f4 rfl rfl rfl rfl rfl rfl rfl ⟨rfl, rfl, rfl, rfl, rfl⟩ rfl rfl rfl rfl rfl (by kernel_rfl) Tryd.func4 (by kernel_rfl)
    (of_decide_eq_true (by kernel_rfl)) (by unfold Func.isWrapper; first | (rw [if_pos (by decide +kernel)]; kernel_rfl) | (rw [if_neg (by decide +kernel)]; exact ⟨rfl, rfl⟩))
    (fun os started H enc _ => choices_row os started H enc)

theorem choices_card : Rows.PickChoicesCardSaid :=
  Claim7.holds_tied_plain_at .later [] [.data] true (true, "d7585accccd236e0355fccb6a96b2a5f7a0646a1b103af99b09353d6d591397e") false
    choices_holds (fun _ h => by cases h) (by kernel_rfl) (fun _ h => by cases h) pickChoices_row_tie rfl ⟨rfl, rfl⟩ (by kernel_rfl) rfl
    (fun f fn hf hfn => by
      obtain rfl : f = 4 := Option.some.inj ((show Tryd.prog.funcNamed "mainsheet/mainsheetlaw19.PickChoices" = some 4 by kernel_rfl).symm.trans hf) |>.symm
      obtain rfl : fn = Tryd.f4 := (Option.some.inj (Tryd.func4.symm.trans hfn)).symm
      exact ⟨by kernel_rfl, fun j t ht => by
        rw [Tryd.params4] at ht
        have hm : t ∈ [45, 25] := by simpa using Array.mem_of_getElem? ht
        have hall : ([45, 25].all fun u => !Tryd.prog.wantsStandIn u) = true := by kernel_rfl
        exact (show Tryd.prog.wantsStandIn t = false by simpa using List.all_eq_true.1 hall t hm)⟩)
    (by kernel_rfl)
#print axioms choices_card

end Go.Proofs.YtnjgmjcokcfmkaaDoor
