/- The card of PickPicks: for every input the law returns true. No condition. -/
import Derived.Test.YtnjgmjcokcfmkaaDoorQy
import Derived.Test.YtnjgmjcokcfmkaaDoorPp
namespace Go.Proofs.YtnjgmjcokcfmkaaDoor
open Go Go.Sy Go.ChangeShapes Go.WideShapes Go.ChangeAt Go.WideMaps Go.WideElems Go.RowKit
set_option maxRecDepth 100000
set_option linter.unusedSimpArgs false
set_option linter.unusedVariables false
theorem picks_all (dts : List Dt) (h : goods [shAsk] dts) : Law Tryd.prog gl0 3 (argDs [shAsk] dts) := by
  obtain ⟨d1, dts, rfl, g1, h⟩ := goods_cons h
  obtain rfl := goods_nil h
  obtain ⟨l, w, s, rfl, hl, hw, hn, hn2, hs⟩ := good_Ak g1
  rw [argDs, arg_Ak]
  exact picks_law l w s hl hw hn hn2 hs

theorem picks_row (os : Os) (started : os.Started) (H : Type) (enc : TypeId × Value → H) :
    ReturnsInHanded {} Tryd.checked os 3 .any (fun w args => (Rows.pickPicksSpec.pre enc Tryd.prog Tryd.f3 [] false w args ∧ laidMetH Tryd.prog laidL w) ∧ sizedMet enc Tryd.prog Tryd.f3 (OpenSpec.ofChange Rows.pickPicksSpec) false w args) (Rows.pickPicksSpec.post enc Tryd.prog Tryd.f3 false true false false) := by
  refine returnsInHanded_of_change_and (C := Tryd.checked) (X := fun w _ => laidMetH Tryd.prog laidL w) (fun _ _ _ hh h => h.of_heap hh) own started (by kernel_rfl) Tryd.func3
    (ChangeSpec.witness_shaped (enc := enc) (C := Tryd.checked) (os := os) (X := fun w _ => laidMetH Tryd.prog laidL w) false (World.doorLaid Tryd.prog 400 os) #[.agg #[.slice none 0 0, .slice none 0 0, .int .u32 0]] 8 rfl (World.shaped_of_RefB (by kernel_rfl) (by kernel_rfl)) (by kernel_rfl) (by kernel_rfl) (by kernel_rfl) (door_met os _)) ?_
  intro W base args ds gs before hval hW _ hsz hL _
  exact Law.contractL rfl (by kernel_rfl) Tryd.underlying4 (by kernel_rfl) laidOut (by kernel_rfl) (fun ds hl => by
    have hl : ds.length = 1 := hl.trans (by kernel_rfl)
    match ds, hl with
    | [_], _ => exact ⟨rfl, rfl, rfl⟩) picks_all W (gl_of_laid hL) base args ds gs before hval hW hsz

theorem picks_holds : Rows.PickPicksSaid :=
  OpenClaim.holds_of_wide 3 Tryd.f3 rfl rfl rfl rfl rfl rfl rfl ⟨rfl, rfl, rfl, rfl, rfl⟩ rfl rfl rfl rfl rfl (by kernel_rfl) Tryd.func3 (by kernel_rfl)
    (of_decide_eq_true (by kernel_rfl)) (by unfold Func.isWrapper; first | (rw [if_pos (by decide +kernel)]; kernel_rfl) | (rw [if_neg (by decide +kernel)]; exact ⟨rfl, rfl⟩))
    (fun os started H enc _ => picks_row os started H enc)

theorem picks_card : Rows.PickPicksCardSaid :=
  Claim7.holds_tied_plain_at .later [] [.data] true (true, "d7585accccd236e0355fccb6a96b2a5f7a0646a1b103af99b09353d6d591397e") false
    picks_holds (fun _ h => by cases h) (by kernel_rfl) (fun _ h => by cases h) pickPicks_row_tie rfl ⟨rfl, rfl⟩ (by kernel_rfl) rfl
    (fun f fn hf hfn => by
      obtain rfl : f = 3 := Option.some.inj ((show Tryd.prog.funcNamed "mainsheet/mainsheetlaw19.PickPicks" = some 3 by kernel_rfl).symm.trans hf) |>.symm
      obtain rfl : fn = Tryd.f3 := (Option.some.inj (Tryd.func3.symm.trans hfn)).symm
      exact ⟨by kernel_rfl, fun j t ht => by
        rw [Tryd.params3] at ht
        have hm : t ∈ [27] := by simpa using Array.mem_of_getElem? ht
        have hall : ([27].all fun u => !Tryd.prog.wantsStandIn u) = true := by kernel_rfl
        exact (show Tryd.prog.wantsStandIn t = false by simpa using List.all_eq_true.1 hall t hm)⟩)
    (by kernel_rfl)
#print axioms picks_card

end Go.Proofs.YtnjgmjcokcfmkaaDoor
