/- What traces are as arguments. No condition. -/
import Derived.Test.YtcpanpkhdcifoaaPz
import Derived.Test.YtcpanpkhdcifoaaTa
namespace Go.Proofs.Ytcpanpkhdcifoaa
open Go Go.Sy
set_option maxRecDepth 100000
set_option linter.unusedSimpArgs false
set_option linter.unusedVariables false
abbrev shPt : Sh := .agg [.int .i64, .int .i64]
abbrev shPs : Sh := .slice 16 shPt
abbrev shFr : Sh := .agg [.int .i64, shPs]
abbrev shTr : Sh := .agg [.slice 32 shFr, .int .i64]
def dPt (p : Pt) : Dt := .l [.n p.1, .n p.2]
def dFr (f : Fr) : Dt := .l [.n f.1, .l (f.2.map dPt)]
def dTr (fs : List Fr) (en : Int) : Dt := .l [.l (fs.map dFr), .n en]
theorem good_i64 {d : Dt} (h : good (.int .i64) d) : ∃ n : Int, d = .n n ∧ i64 n := by
  obtain ⟨n, rfl, h⟩ := good_int h
  exact ⟨n, rfl, rng_i64 h⟩
theorem good_pt {d : Dt} (h : good shPt d) : ∃ p : Pt, d = dPt p ∧ inPt p := by
  obtain ⟨xs, rfl, h⟩ := good_agg h
  obtain ⟨d1, xs, rfl, g1, h⟩ := goods_cons h
  obtain ⟨d2, xs, rfl, g2, h⟩ := goods_cons h
  obtain rfl := goods_nil h
  obtain ⟨a, rfl, a1⟩ := good_i64 g1
  obtain ⟨b, rfl, b1⟩ := good_i64 g2
  exact ⟨(a, b), rfl, a1, b1⟩
theorem good_pts {d : Dt} (h : good shPs d) : ∃ l : List Pt, d = .l (l.map dPt) ∧ (∀ p ∈ l, inPt p) ∧ l.length < 2 ^ 46 := by
  obtain ⟨ys, rfl, l1, l2, g⟩ := good_slice h
  obtain ⟨l, rfl, g3⟩ := all_of (F := dPt) (q := inPt) (fun d hd => good_pt hd) ys g
  simp only [List.length_map] at l1 l2
  exact ⟨l, rfl, g3, by omega⟩
theorem good_fr {d : Dt} (h : good shFr d) : ∃ f : Fr, d = dFr f ∧ inFr f := by
  obtain ⟨xs, rfl, h⟩ := good_agg h
  obtain ⟨d1, xs, rfl, g1, h⟩ := goods_cons h
  obtain ⟨d2, xs, rfl, g2, h⟩ := goods_cons h
  obtain rfl := goods_nil h
  obtain ⟨a, rfl, a1⟩ := good_i64 g1
  obtain ⟨l, rfl, b1, b2⟩ := good_pts g2
  exact ⟨(a, l), rfl, a1, b1, b2⟩
theorem good_tr {d : Dt} (h : good shTr d) : ∃ (fs : List Fr) (en : Int), d = dTr fs en ∧ (∀ f ∈ fs, inFr f) ∧ i64 en ∧ fs.length < 2 ^ 46 := by
  obtain ⟨xs, rfl, h⟩ := good_agg h
  obtain ⟨d1, xs, rfl, g1, h⟩ := goods_cons h
  obtain ⟨d2, xs, rfl, g2, h⟩ := goods_cons h
  obtain rfl := goods_nil h
  obtain ⟨ys, rfl, l1, l2, g⟩ := good_slice g1
  obtain ⟨l, rfl, g3⟩ := all_of (F := dFr) (q := inFr) (fun d hd => good_fr hd) ys g
  simp only [List.length_map] at l1 l2
  obtain ⟨b, rfl, b1⟩ := good_i64 g2
  exact ⟨l, b, rfl, g3, b1, by omega⟩
theorem cells_pts (l : List Pt) : cellsD shPs (.l (l.map dPt)) = [Ps l] := by
  simp only [cellsD, Sh.size, Sh.sizes, List.map_map]
  rfl
theorem arg_pts (l : List Pt) : argD shPs (.l (l.map dPt)) = Ps l := by
  simp only [argD, cells_pts]
theorem cells_fr (f : Fr) : cellsD shFr (dFr f) = eF f := by
  simp only [dFr, cellsD, cellsDs, Sh.size, Sh.sizes, List.map_map]
  rfl
theorem arg_tr (fs : List Fr) (en : Int) : argD shTr (dTr fs en) = Tr fs en := by
  simp only [argD, dTr, cellsD, cellsDs, Sh.size, Sh.sizes, List.map_map, List.cons_append, List.nil_append]
  congr 3
  apply List.map_congr_left
  intro f _
  exact cells_fr f
end Go.Proofs.Ytcpanpkhdcifoaa
