/- The card of PickTells: for every input the law returns true. No condition. -/
import Derived.Test.YtnjgmjcokcfmkaaDoorRh
import Derived.Test.YtnjgmjcokcfmkaaDoorPp
namespace Go.Proofs.YtnjgmjcokcfmkaaDoor
open Go Go.Sy Go.ChangeShapes Go.WideShapes Go.ChangeAt Go.WideMaps Go.WideElems Go.RowKit
set_option maxRecDepth 100000
set_option linter.unusedSimpArgs false
set_option linter.unusedVariables false
abbrev shP : Sh := .agg [.int .i64, .int .i64]
def dP (p : Int × Int) : Dt := .l [.n p.1, .n p.2]
theorem good_put {d : Dt} (h : good shP d) : ∃ p : Int × Int, d = dP p ∧ True := by
  obtain ⟨xs, rfl, h⟩ := good_agg h
  obtain ⟨d1, xs, rfl, g1, h⟩ := goods_cons h
  obtain ⟨d2, xs, rfl, g2, h⟩ := goods_cons h
  obtain rfl := goods_nil h
  obtain ⟨v, rfl, v1⟩ := good_i64 g1
  obtain ⟨a, rfl, a1⟩ := good_i64 g2
  exact ⟨(v, a), rfl, trivial⟩
theorem good_puts {d : Dt} (h : good (.slice 16 shP) d) : ∃ l : List (Int × Int), d = .l (l.map dP) ∧ l.length < 2 ^ 46 := by
  obtain ⟨xs, rfl, l1, l2, g⟩ := good_slice h
  obtain ⟨l, rfl, g3⟩ := all_of (F := dP) (q := fun _ : Int × Int => True) (fun d hd => good_put hd) xs g
  simp only [List.length_map] at l1 l2
  exact ⟨l, rfl, by omega⟩
theorem arg_puts (l : List (Int × Int)) : argD (.slice 16 shP) (.l (l.map dP)) = Ps l := by
  simp only [argD, cellsD, Sh.size, Sh.sizes, List.map_map]
  rfl
theorem tells_all (dts : List Dt) (h : goods [shAsk, .slice 16 shP, .slice 16 shP] dts) : Law Tryd.prog gl0 9 (argDs [shAsk, .slice 16 shP, .slice 16 shP] dts) := by
  obtain ⟨d1, dts, rfl, g1, h⟩ := goods_cons h
  obtain ⟨d2, dts, rfl, g2, h⟩ := goods_cons h
  obtain ⟨d3, dts, rfl, g3, h⟩ := goods_cons h
  obtain rfl := goods_nil h
  obtain ⟨l, w, s, rfl, hl, hw, hn, hn2, hs⟩ := good_Ak g1
  obtain ⟨was, rfl, hn3⟩ := good_puts g2
  obtain ⟨is, rfl, hn4⟩ := good_puts g3
  have e : argDs [shAsk, .slice 16 shP, .slice 16 shP] [dAk l w s, .l (was.map dP), .l (is.map dP)] = [Ak l w s, Ps was, Ps is] := by
    rw [argDs, arg_Ak, argDs, arg_puts, argDs, arg_puts]; rfl
  rw [e]
  exact tells_law l w s was is hl hw hn hn2 hs hn3 hn4

theorem tells_row (os : Os) (started : os.Started) (H : Type) (enc : TypeId × Value → H) :
    ReturnsInHanded {} Tryd.checked os 9 .any (fun w args => (Rows.pickTellsSpec.pre enc Tryd.prog Tryd.f9 [] false w args ∧ laidMetH Tryd.prog laidL w) ∧ sizedMet enc Tryd.prog Tryd.f9 (OpenSpec.ofChange Rows.pickTellsSpec) false w args) (Rows.pickTellsSpec.post enc Tryd.prog Tryd.f9 false true false false) := by
  refine returnsInHanded_of_change_and (C := Tryd.checked) (X := fun w _ => laidMetH Tryd.prog laidL w) (fun _ _ _ hh h => h.of_heap hh) own started (by kernel_rfl) Tryd.func9
    (ChangeSpec.witness_shaped (enc := enc) (C := Tryd.checked) (os := os) (X := fun w _ => laidMetH Tryd.prog laidL w) false (World.doorLaid Tryd.prog 400 os) #[.agg #[.slice none 0 0, .slice none 0 0, .int .u32 0], .slice none 0 0, .slice none 0 0] 8 rfl (World.shaped_of_RefB (by kernel_rfl) (by kernel_rfl)) (by kernel_rfl) (by kernel_rfl) (by kernel_rfl) (door_met os _)) ?_
  intro W base args ds gs before hval hW _ hsz hL _
  exact Law.contractL rfl (by kernel_rfl) Tryd.underlying4 (by kernel_rfl) laidOut (by kernel_rfl) (fun ds hl => by
    have hl : ds.length = 3 := hl.trans (by kernel_rfl)
    match ds, hl with
    | [_, _, _], _ => exact ⟨rfl, rfl, rfl⟩) tells_all W (gl_of_laid hL) base args ds gs before hval hW hsz

theorem tells_holds : Rows.PickTellsSaid :=
  OpenClaim.holds_of_wide 9 Tryd.f9 rfl rfl rfl rfl rfl rfl rfl ⟨rfl, rfl, rfl, rfl, rfl⟩ rfl rfl rfl rfl rfl (by kernel_rfl) Tryd.func9 (by kernel_rfl)
    (of_decide_eq_true (by kernel_rfl)) (by unfold Func.isWrapper; first | (rw [if_pos (by decide +kernel)]; kernel_rfl) | (rw [if_neg (by decide +kernel)]; exact ⟨rfl, rfl⟩))
    (fun os started H enc _ => tells_row os started H enc)

theorem tells_card : Rows.PickTellsCardSaid :=
  Claim7.holds_tied_plain_at .later [] [.data] true (true, "d7585accccd236e0355fccb6a96b2a5f7a0646a1b103af99b09353d6d591397e") false
    tells_holds (fun _ h => by cases h) (by kernel_rfl) (fun _ h => by cases h) pickTells_row_tie rfl ⟨rfl, rfl⟩ (by kernel_rfl) rfl
    (fun f fn hf hfn => by
      obtain rfl : f = 9 := Option.some.inj ((show Tryd.prog.funcNamed "mainsheet/mainsheetlaw19.PickTells" = some 9 by kernel_rfl).symm.trans hf) |>.symm
      obtain rfl : fn = Tryd.f9 := (Option.some.inj (Tryd.func9.symm.trans hfn)).symm
      exact ⟨by kernel_rfl, fun j t ht => by
        rw [Tryd.params9] at ht
        have hm : t ∈ [27, 30, 30] := by simpa using Array.mem_of_getElem? ht
        have hall : ([27, 30, 30].all fun u => !Tryd.prog.wantsStandIn u) = true := by kernel_rfl
        exact (show Tryd.prog.wantsStandIn t = false by simpa using List.all_eq_true.1 hall t hm)⟩)
    (by kernel_rfl)
#print axioms tells_card

end Go.Proofs.YtnjgmjcokcfmkaaDoor
