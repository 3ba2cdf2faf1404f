/- The card of PoolParts: for every input the law returns true. No condition. -/
import Derived.Test.YtfhiaddbpacgeaaDoorLg
import Derived.Test.YtfhiaddbpacgeaaDoorDz
namespace Go.Proofs.YtfhiaddbpacgeaaDoor
open Go Go.Sy Go.ChangeShapes Go.WideShapes Go.ChangeAt Go.WideMaps Go.WideElems Go.RowKit
set_option maxRecDepth 100000
set_option linter.unusedSimpArgs false
set_option linter.unusedVariables false
def dN (s : Nat) : Dt := .n (s : Int)
theorem good_u32 {d : Dt} (h : good (.int .u32) d) : ∃ s : Nat, d = dN s ∧ s < 4294967296 := by
  obtain ⟨n, rfl, h⟩ := good_int h
  obtain ⟨h1, h2⟩ := rng_u32 h
  exact ⟨n.toNat, by rw [dN, Int.toNat_of_nonneg h1], by omega⟩
theorem good_i64 {d : Dt} (h : good (.int .i64) d) : ∃ n : Int, d = .n n ∧ -9223372036854775808 ≤ n ∧ n ≤ 9223372036854775807 := by
  obtain ⟨n, rfl, h⟩ := good_int h
  exact ⟨n, rfl, rng_i64 h⟩
abbrev shO : Sh := .agg [.int .i64, .int .i64, .int .i64, .int .i64, .int .u32]
def dO (o : Od) : Dt := .l [.n o.k, .n o.a, .n o.b, .n o.c, dN o.s]
theorem good_od {d : Dt} (h : good shO d) : ∃ o : Od, d = dO o ∧ inO o := by
  obtain ⟨xs, rfl, h⟩ := good_agg h
  obtain ⟨d1, xs, rfl, g1, h⟩ := goods_cons h
  obtain ⟨d2, xs, rfl, g2, h⟩ := goods_cons h
  obtain ⟨d3, xs, rfl, g3, h⟩ := goods_cons h
  obtain ⟨d4, xs, rfl, g4, h⟩ := goods_cons h
  obtain ⟨d5, xs, rfl, g5, h⟩ := goods_cons h
  obtain rfl := goods_nil h
  obtain ⟨k, rfl, k1⟩ := good_i64 g1
  obtain ⟨a, rfl, a1⟩ := good_i64 g2
  obtain ⟨b, rfl, b1⟩ := good_i64 g3
  obtain ⟨c, rfl, c1⟩ := good_i64 g4
  obtain ⟨s, rfl, s1⟩ := good_u32 g5
  exact ⟨⟨k, a, b, c, s⟩, rfl, k1, a1, b1, c1, s1⟩
theorem good_ods {d : Dt} (h : good (.slice 40 shO) d) : ∃ l : List Od, d = .l (l.map dO) ∧ (∀ o ∈ l, inO o) ∧ l.length < 2 ^ 46 := by
  obtain ⟨ys, rfl, l1, l2, g⟩ := good_slice h
  obtain ⟨l, rfl, g3⟩ := all_of (F := dO) (q := inO) (fun d hd => good_od hd) ys g
  simp only [List.length_map] at l1 l2
  exact ⟨l, rfl, g3, by omega⟩
theorem arg_ods (l : List Od) : argD (.slice 40 shO) (.l (l.map dO)) = Ods l := by
  simp only [argD, cellsD, Sh.size, Sh.sizes, List.map_map]
  rfl
theorem parts_all (dts : List Dt) (h : goods [.int .i64, .slice 40 shO] dts) : Law Tryd.prog gl0 3 (argDs [.int .i64, .slice 40 shO] dts) := by
  obtain ⟨d1, dts, rfl, g1, h⟩ := goods_cons h
  obtain ⟨d2, dts, rfl, g2, h⟩ := goods_cons h
  obtain rfl := goods_nil h
  obtain ⟨n, rfl, hn⟩ := good_i64 g1
  obtain ⟨l, rfl, hl, hll⟩ := good_ods g2
  have e : argDs [.int .i64, .slice 40 shO] [.n n, .l (l.map dO)] = [I n, Ods l] := by rw [argDs, argDs, arg_ods]; rfl
  rw [e]
  exact parts_law n l hn hl (by omega)

theorem parts_row (os : Os) (started : os.Started) (H : Type) (enc : TypeId × Value → H) :
    ReturnsInHanded {} Tryd.checked os 3 .any (fun w args => (Rows.poolPartsSpec.pre enc Tryd.prog Tryd.f3 [] false w args ∧ laidMetH Tryd.prog laidL w) ∧ sizedMet enc Tryd.prog Tryd.f3 (OpenSpec.ofChange Rows.poolPartsSpec) false w args) (Rows.poolPartsSpec.post enc Tryd.prog Tryd.f3 false true false false) := by
  refine returnsInHanded_of_change_and (C := Tryd.checked) (X := fun w _ => laidMetH Tryd.prog laidL w) (fun _ _ _ hh h => h.of_heap hh) own started (by kernel_rfl) Tryd.func3
    (ChangeSpec.witness_shaped (enc := enc) (C := Tryd.checked) (os := os) (X := fun w _ => laidMetH Tryd.prog laidL w) false (World.doorLaid Tryd.prog 400 os) #[.int .i64 0, .slice none 0 0] 8 rfl (World.shaped_of_RefB (by kernel_rfl) (by kernel_rfl)) (by kernel_rfl) (by kernel_rfl) (by kernel_rfl) (door_met os _)) ?_
  intro W base args ds gs before hval hW _ hsz hL _
  exact Law.contractL rfl (by kernel_rfl) Tryd.underlying4 (by kernel_rfl) laidOut (by kernel_rfl) (fun ds hl => by
    have hl : ds.length = 2 := hl.trans (by kernel_rfl)
    match ds, hl with
    | [_, _], _ => exact ⟨rfl, rfl, rfl⟩) parts_all W (gl_of_laid hL) base args ds gs before hval hW hsz

theorem parts_holds : Rows.PoolPartsSaid :=
  OpenClaim.holds_of_wide 3 Tryd.f3 rfl rfl rfl rfl rfl rfl rfl ⟨rfl, rfl, rfl, rfl, rfl⟩ rfl rfl rfl rfl rfl (by kernel_rfl) Tryd.func3 (by kernel_rfl)
    (of_decide_eq_true (by kernel_rfl)) (by unfold Func.isWrapper; first | (rw [if_pos (by decide +kernel)]; kernel_rfl) | (rw [if_neg (by decide +kernel)]; exact ⟨rfl, rfl⟩))
    (fun os started H enc _ => parts_row os started H enc)

theorem parts_card : Rows.PoolPartsCardSaid :=
  Claim7.holds_tied_plain_at .later [] [.data] true (true, "b0a623852c93321e025831e5d6589d23aafa53196e09d8e580bf0e300d2dcf66") false
    parts_holds (fun _ h => by cases h) (by kernel_rfl) (fun _ h => by cases h) poolParts_row_tie rfl ⟨rfl, rfl⟩ (by kernel_rfl) rfl
    (fun f fn hf hfn => by
      obtain rfl : f = 3 := Option.some.inj ((show Tryd.prog.funcNamed "mainsheet/mainsheetlaw08.PoolParts" = some 3 by kernel_rfl).symm.trans hf) |>.symm
      obtain rfl : fn = Tryd.f3 := (Option.some.inj (Tryd.func3.symm.trans hfn)).symm
      exact ⟨by kernel_rfl, fun j t ht => by
        rw [Tryd.params3] at ht
        have hm : t ∈ [3, 22] := by simpa using Array.mem_of_getElem? ht
        have hall : ([3, 22].all fun u => !Tryd.prog.wantsStandIn u) = true := by kernel_rfl
        exact (show Tryd.prog.wantsStandIn t = false by simpa using List.all_eq_true.1 hall t hm)⟩)
    (by kernel_rfl)
#print axioms parts_card

end Go.Proofs.YtfhiaddbpacgeaaDoor
