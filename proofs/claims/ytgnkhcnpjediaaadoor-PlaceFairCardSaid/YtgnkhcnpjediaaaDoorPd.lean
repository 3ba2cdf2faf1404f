/- The card of PlaceFair: for every input the law returns true. No condition. -/
import Derived.Test.YtgnkhcnpjediaaaDoorLd
import Derived.Test.YtgnkhcnpjediaaaDoorPr
namespace Go.Proofs.YtgnkhcnpjediaaaDoor
open Go Go.Sy Go.ChangeShapes Go.WideShapes Go.ChangeAt Go.WideMaps Go.WideElems Go.RowKit
set_option maxRecDepth 100000
set_option linter.unusedSimpArgs false
set_option linter.unusedVariables false
abbrev shP : Sh := .agg [.int .i64, .int .i64]
def dP (p : Int × Int) : Dt := .l [.n p.1, .n p.2]
theorem good_put {d : Dt} (h : good shP d) : ∃ p : Int × Int, d = dP p ∧ (-9223372036854775808 ≤ p.1 ∧ p.1 ≤ 9223372036854775807) ∧ (-9223372036854775808 ≤ p.2 ∧ p.2 ≤ 9223372036854775807) := by
  obtain ⟨xs, rfl, h⟩ := good_agg h
  obtain ⟨d1, xs, rfl, g1, h⟩ := goods_cons h
  obtain ⟨d2, xs, rfl, g2, h⟩ := goods_cons h
  obtain rfl := goods_nil h
  obtain ⟨v, rfl, v1⟩ := good_i64 g1
  obtain ⟨a, rfl, a1⟩ := good_i64 g2
  exact ⟨(v, a), rfl, v1, a1⟩
theorem good_puts {d : Dt} (h : good (.slice 16 shP) d) : ∃ l : List (Int × Int), d = .l (l.map dP) ∧ (∀ p ∈ l, (-9223372036854775808 ≤ p.1 ∧ p.1 ≤ 9223372036854775807) ∧ (-9223372036854775808 ≤ p.2 ∧ p.2 ≤ 9223372036854775807)) ∧ l.length < 2 ^ 46 := by
  obtain ⟨xs, rfl, l1, l2, g⟩ := good_slice h
  obtain ⟨l, rfl, g3⟩ := all_of (F := dP) (q := fun p : Int × Int => (-9223372036854775808 ≤ p.1 ∧ p.1 ≤ 9223372036854775807) ∧ (-9223372036854775808 ≤ p.2 ∧ p.2 ≤ 9223372036854775807)) (fun d hd => good_put hd) xs g
  simp only [List.length_map] at l1 l2
  exact ⟨l, rfl, g3, by omega⟩
theorem arg_puts (l : List (Int × Int)) : argD (.slice 16 shP) (.l (l.map dP)) = Ps l := by
  simp only [argD, cellsD, Sh.size, Sh.sizes, List.map_map]
  rfl
theorem fair_all (dts : List Dt) (h : goods [.slice 24 shW, shC, .slice 16 shP] dts) : Law Tryd.prog gl0 7 (argDs [.slice 24 shW, shC, .slice 16 shP] dts) := by
  obtain ⟨d1, dts, rfl, g1, h⟩ := goods_cons h
  obtain ⟨d2, dts, rfl, g2, h⟩ := goods_cons h
  obtain ⟨d3, dts, rfl, g3, h⟩ := goods_cons h
  obtain rfl := goods_nil h
  obtain ⟨l, rfl, hl, hn⟩ := good_wishes g1
  obtain ⟨s, rfl, hs⟩ := good_u32 g2
  obtain ⟨ps, rfl, hp, hn2⟩ := good_puts g3
  have e : argDs [.slice 24 shW, shC, .slice 16 shP] [.l (l.map dW), .n (s : Int), .l (ps.map dP)] = [Ws l, S s, Ps ps] := by
    rw [argDs, arg_wishes, argDs, argDs, arg_puts]; rfl
  rw [e]
  exact fair_law l s ps hl hp (by omega) (by omega) hs

theorem fair_row (os : Os) (started : os.Started) (H : Type) (enc : TypeId × Value → H) :
    ReturnsInHanded {} Tryd.checked os 7 .any (fun w args => (Rows.placeFairSpec.pre enc Tryd.prog Tryd.f7 [] false w args ∧ laidMetH Tryd.prog laidL w) ∧ sizedMet enc Tryd.prog Tryd.f7 (OpenSpec.ofChange Rows.placeFairSpec) false w args) (Rows.placeFairSpec.post enc Tryd.prog Tryd.f7 false true false false) := by
  refine returnsInHanded_of_change_and (C := Tryd.checked) (X := fun w _ => laidMetH Tryd.prog laidL w) (fun _ _ _ hh h => h.of_heap hh) own started (by kernel_rfl) Tryd.func7
    (ChangeSpec.witness_shaped (enc := enc) (C := Tryd.checked) (os := os) (X := fun w _ => laidMetH Tryd.prog laidL w) false (World.doorLaid Tryd.prog 400 os) #[.slice none 0 0, .int .u32 0, .slice none 0 0] 8 rfl (World.shaped_of_RefB (by kernel_rfl) (by kernel_rfl)) (by kernel_rfl) (by kernel_rfl) (by kernel_rfl) (door_met os _)) ?_
  intro W base args ds gs before hval hW _ hsz hL _
  exact Law.contractL rfl (by kernel_rfl) Tryd.underlying4 (by kernel_rfl) laidOut (by kernel_rfl) (fun ds hl => by
    have hl : ds.length = 3 := hl.trans (by kernel_rfl)
    match ds, hl with
    | [_, _, _], _ => exact ⟨rfl, rfl, rfl⟩) fair_all W (gl_of_laid hL) base args ds gs before hval hW hsz

theorem fair_holds : Rows.PlaceFairSaid :=
  OpenClaim.holds_of_wide 7 Tryd.f7 rfl rfl rfl rfl rfl rfl rfl ⟨rfl, rfl, rfl, rfl, rfl⟩ rfl rfl rfl rfl rfl (by kernel_rfl) Tryd.func7 (by kernel_rfl)
    (of_decide_eq_true (by kernel_rfl)) (by unfold Func.isWrapper; first | (rw [if_pos (by decide +kernel)]; kernel_rfl) | (rw [if_neg (by decide +kernel)]; exact ⟨rfl, rfl⟩))
    (fun os started H enc _ => fair_row os started H enc)

theorem fair_card : Rows.PlaceFairCardSaid :=
  Claim7.holds_tied_plain_at .later [] [.data] true (true, "0c8fa9bc705c550fb7202bc74e66e2c9f6a91511e455dede4a558d1a93900975") false
    fair_holds (fun _ h => by cases h) (by kernel_rfl) (fun _ h => by cases h) placeFair_row_tie rfl ⟨rfl, rfl⟩ (by kernel_rfl) rfl
    (fun f fn hf hfn => by
      obtain rfl : f = 7 := Option.some.inj ((show Tryd.prog.funcNamed "mainsheet/mainsheetlaw13.PlaceFair" = some 7 by kernel_rfl).symm.trans hf) |>.symm
      obtain rfl : fn = Tryd.f7 := (Option.some.inj (Tryd.func7.symm.trans hfn)).symm
      exact ⟨by kernel_rfl, fun j t ht => by
        rw [Tryd.params7] at ht
        have hm : t ∈ [22, 24, 26] := by simpa using Array.mem_of_getElem? ht
        have hall : ([22, 24, 26].all fun u => !Tryd.prog.wantsStandIn u) = true := by kernel_rfl
        exact (show Tryd.prog.wantsStandIn t = false by simpa using List.all_eq_true.1 hall t hm)⟩)
    (by kernel_rfl)
#print axioms fair_card

end Go.Proofs.YtgnkhcnpjediaaaDoor
