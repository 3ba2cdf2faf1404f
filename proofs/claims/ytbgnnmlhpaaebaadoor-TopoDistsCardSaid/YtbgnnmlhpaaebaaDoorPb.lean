/- The card of TopoDists: for every input the law returns true. No condition. -/
import Derived.Test.YtbgnnmlhpaaebaaDoorLb
import Derived.Test.YtbgnnmlhpaaebaaDoorPp
namespace Go.Proofs.YtbgnnmlhpaaebaaDoor
open Go Go.Sy Go.ChangeShapes Go.WideShapes Go.ChangeAt Go.WideMaps Go.WideElems Go.RowKit
set_option maxRecDepth 100000
set_option linter.unusedSimpArgs false
set_option linter.unusedVariables false
abbrev shPai : Sh := .agg [.int .i64, .int .i64]
def dPai (r : Pai) : Dt := .l [.n r.1, .n r.2]
theorem good_pai {d : Dt} (h : good shPai d) : ∃ r : Pai, d = dPai r ∧ True := by
  obtain ⟨xs, rfl, h⟩ := good_agg h
  obtain ⟨d1, xs, rfl, g1, h⟩ := goods_cons h
  obtain ⟨d2, xs, rfl, g2, h⟩ := goods_cons h
  obtain rfl := goods_nil h
  obtain ⟨a, rfl, -⟩ := good_i64 g1
  obtain ⟨b, rfl, -⟩ := good_i64 g2
  exact ⟨(a, b), rfl, trivial⟩
theorem good_pais {d : Dt} (h : good (.slice 16 shPai) d) : ∃ l : List Pai, d = .l (l.map dPai) ∧ l.length < 2 ^ 46 := by
  obtain ⟨ys, rfl, l1, l2, g⟩ := good_slice h
  obtain ⟨l, rfl, -⟩ := all_of (F := dPai) (q := fun _ => True) (fun d hd => good_pai hd) ys g
  simp only [List.length_map] at l1 l2
  exact ⟨l, rfl, by omega⟩
theorem arg_pais (l : List Pai) : argD (.slice 16 shPai) (.l (l.map dPai)) = .rd 2 (l.map e2) := by
  simp only [argD, cellsD, Sh.size, Sh.sizes, List.map_map]
  rfl
def dCp (s : Nat) : Dt := .n s
theorem good_sets {d : Dt} (h : good (.slice 4 (.int .u32)) d) : ∃ l : List Nat, d = .l (l.map dCp) ∧ (∀ s ∈ l, s < 4294967296) ∧ l.length < 2 ^ 46 := by
  obtain ⟨ys, rfl, l1, l2, g⟩ := good_slice h
  obtain ⟨l, rfl, g3⟩ := all_of (F := dCp) (q := fun s => s < 4294967296) (fun d hd => good_u32 hd) ys g
  simp only [List.length_map] at l1 l2
  exact ⟨l, rfl, g3, by omega⟩
theorem arg_sets (l : List Nat) : argD (.slice 4 (.int .u32)) (.l (l.map dCp)) = .rd 1 (l.map eC) := by
  simp only [argD, cellsD, Sh.size, List.map_map]
  rfl
abbrev shD : List Sh := [shTo, .slice 16 shPai, .slice 4 (.int .u32)]
theorem dists_all (dts : List Dt) (h : goods shD dts) : Law Tryd.prog gl0 3 (argDs shD dts) := by
  obtain ⟨d1, dts, rfl, g1, h⟩ := goods_cons h
  obtain ⟨d2, dts, rfl, g2, h⟩ := goods_cons h
  obtain ⟨d3, dts, rfl, g3, h⟩ := goods_cons h
  obtain rfl := goods_nil h
  obtain ⟨x, rfl, hx, hn⟩ := good_topo g1
  obtain ⟨ps, rfl, hn1⟩ := good_pais g2
  obtain ⟨am, rfl, ha, hn2⟩ := good_sets g3
  have e : argDs shD [dTo x, .l (ps.map dPai), .l (am.map dCp)] = [To x, .rd 2 (ps.map e2), .rd 1 (am.map eC)] := by rw [argDs, arg_topo, argDs, arg_pais, argDs, arg_sets]; rfl
  rw [e]
  exact dists_law x ps am hx ha (by omega) (by omega) (by omega)

theorem dists_row (os : Os) (started : os.Started) (H : Type) (enc : TypeId × Value → H) :
    ReturnsInHanded {} Tryd.checked os 3 .any (fun w args => (Rows.topoDistsSpec.pre enc Tryd.prog Tryd.f3 [] false w args ∧ laidMetH Tryd.prog laidL w) ∧ sizedMet enc Tryd.prog Tryd.f3 (OpenSpec.ofChange Rows.topoDistsSpec) false w args) (Rows.topoDistsSpec.post enc Tryd.prog Tryd.f3 false true false false) := by
  refine returnsInHanded_of_change_and (C := Tryd.checked) (X := fun w _ => laidMetH Tryd.prog laidL w) (fun _ _ _ hh h => h.of_heap hh) own started (by kernel_rfl) Tryd.func3
    (ChangeSpec.witness_shaped (enc := enc) (C := Tryd.checked) (os := os) (X := fun w _ => laidMetH Tryd.prog laidL w) false (World.doorLaid Tryd.prog 400 os) #[.agg #[.slice none 0 0], .slice none 0 0, .slice none 0 0] 8 rfl (World.shaped_of_RefB (by kernel_rfl) (by kernel_rfl)) (by kernel_rfl) (by kernel_rfl) (by kernel_rfl) (door_met os _)) ?_
  intro W base args ds gs before hval hW _ hsz hL _
  exact Law.contractL rfl (by kernel_rfl) Tryd.underlying4 (by kernel_rfl) laidOut (by kernel_rfl) (fun ds hl => by
    have hl : ds.length = 3 := hl.trans (by kernel_rfl)
    match ds, hl with
    | [_, _, _], _ => exact ⟨rfl, rfl, rfl⟩) dists_all W (gl_of_laid hL) base args ds gs before hval hW hsz

theorem dists_holds : Rows.TopoDistsSaid :=
  OpenClaim.holds_of_wide 3 Tryd.f3 rfl rfl rfl rfl rfl rfl rfl ⟨rfl, rfl, rfl, rfl, rfl⟩ rfl rfl rfl rfl rfl (by kernel_rfl) Tryd.func3 (by kernel_rfl)
    (of_decide_eq_true (by kernel_rfl)) (by unfold Func.isWrapper; first | (rw [if_pos (by decide +kernel)]; kernel_rfl) | (rw [if_neg (by decide +kernel)]; exact ⟨rfl, rfl⟩))
    (fun os started H enc _ => dists_row os started H enc)

theorem dists_card : Rows.TopoDistsCardSaid :=
  Claim7.holds_tied_plain_at .later [] [.data] true (true, "fcfc0c1e6bf65148b8be63425c7d23db8021aa311beb1b8d09a83ddeae41cc68") false
    dists_holds (fun _ h => by cases h) (by kernel_rfl) (fun _ h => by cases h) topoDists_row_tie rfl ⟨rfl, rfl⟩ (by kernel_rfl) rfl
    (fun f fn hf hfn => by
      obtain rfl : f = 3 := Option.some.inj ((show Tryd.prog.funcNamed "mainsheet/mainsheetlaw06.TopoDists" = some 3 by kernel_rfl).symm.trans hf) |>.symm
      obtain rfl : fn = Tryd.f3 := (Option.some.inj (Tryd.func3.symm.trans hfn)).symm
      exact ⟨by kernel_rfl, fun j t ht => by
        rw [Tryd.params3] at ht
        have hm : t ∈ [24, 25, 26] := by simpa using Array.mem_of_getElem? ht
        have hall : ([24, 25, 26].all fun u => !Tryd.prog.wantsStandIn u) = true := by kernel_rfl
        exact (show Tryd.prog.wantsStandIn t = false by simpa using List.all_eq_true.1 hall t hm)⟩)
    (by kernel_rfl)
#print axioms dists_card

end Go.Proofs.YtbgnnmlhpaaebaaDoor
