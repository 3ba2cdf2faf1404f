/- What watches are as arguments. No condition. -/
import Derived.Test.YtbjhphjpdeblnaaPz
import Derived.Test.YtbjhphjpdeblnaaAe
namespace Go.Proofs.Ytbjhphjpdeblnaa
open Go Go.Sy
set_option maxRecDepth 100000
set_option linter.unusedSimpArgs false
set_option linter.unusedVariables false
abbrev shX : Sh := .agg [.int .i64, .int .i64, .int .i64, .int .i64, .int .i64, .bool, .bool, .int .u32, .int .i64, .int .i64, .int .i64]
abbrev shXs : Sh := .slice 72 shX
abbrev shM : Sh := .agg [.int .i64, shXs]
abbrev shW : Sh := .agg [.slice 32 shM, .int .i64]
def dX (x : Se) : Dt := .l [.n x.v, .n x.d, .n x.g, .n x.p, .n x.c, .b x.r, .b x.k, .n x.m, .n x.w, .n x.n, .n x.a]
def dM (m : Mo) : Dt := .l [.n m.1, .l (m.2.map dX)]
def dW (ms : List Mo) (en : Int) : Dt := .l [.l (ms.map dM), .n en]
theorem good_i64 {d : Dt} (h : good (.int .i64) d) : ∃ n : Int, d = .n n ∧ i64 n := by
  obtain ⟨n, rfl, h⟩ := good_int h
  exact ⟨n, rfl, rng_i64 h⟩
theorem good_bo {d : Dt} (h : good .bool d) : ∃ b : Bool, d = .b b := by
  cases d <;> simp only [good] at h
  exact ⟨_, rfl⟩
theorem good_u32 {d : Dt} (h : good (.int .u32) d) : ∃ s : Nat, d = .n (s : Int) ∧ s < 4294967296 := by
  obtain ⟨n, rfl, h⟩ := good_int h
  obtain ⟨h1, h2⟩ := rng_u32 h
  exact ⟨n.toNat, by rw [Int.toNat_of_nonneg h1], by omega⟩
theorem good_x {d : Dt} (h : good shX d) : ∃ x : Se, d = dX x ∧ inX x := by
  obtain ⟨xs, rfl, h⟩ := good_agg h
  obtain ⟨d1, xs, rfl, g1, h⟩ := goods_cons h
  obtain ⟨d2, xs, rfl, g2, h⟩ := goods_cons h
  obtain ⟨d3, xs, rfl, g3, h⟩ := goods_cons h
  obtain ⟨d4, xs, rfl, g4, h⟩ := goods_cons h
  obtain ⟨d5, xs, rfl, g5, h⟩ := goods_cons h
  obtain ⟨d6, xs, rfl, g6, h⟩ := goods_cons h
  obtain ⟨d7, xs, rfl, g7, h⟩ := goods_cons h
  obtain ⟨d8, xs, rfl, g8, h⟩ := goods_cons h
  obtain ⟨d9, xs, rfl, g9, h⟩ := goods_cons h
  obtain ⟨d10, xs, rfl, g10, h⟩ := goods_cons h
  obtain ⟨d11, xs, rfl, g11, h⟩ := goods_cons h
  obtain rfl := goods_nil h
  obtain ⟨v, rfl, v1⟩ := good_i64 g1
  obtain ⟨dd, rfl, d1⟩ := good_i64 g2
  obtain ⟨g, rfl, g1⟩ := good_i64 g3
  obtain ⟨p, rfl, p1⟩ := good_i64 g4
  obtain ⟨c, rfl, c1⟩ := good_i64 g5
  obtain ⟨r, rfl⟩ := good_bo g6
  obtain ⟨k, rfl⟩ := good_bo g7
  obtain ⟨m, rfl, m1⟩ := good_u32 g8
  obtain ⟨w, rfl, w1⟩ := good_i64 g9
  obtain ⟨n, rfl, n1⟩ := good_i64 g10
  obtain ⟨a, rfl, a1⟩ := good_i64 g11
  exact ⟨⟨v, dd, g, p, c, r, k, m, w, n, a⟩, rfl, v1, d1, g1, p1, c1, m1, w1, n1, a1⟩
theorem good_m {d : Dt} (h : good shM d) : ∃ m : Mo, d = dM m ∧ inM0 m := by
  obtain ⟨xs, rfl, h⟩ := good_agg h
  obtain ⟨d1, xs, rfl, g1, h⟩ := goods_cons h
  obtain ⟨d2, xs, rfl, g2, h⟩ := goods_cons h
  obtain rfl := goods_nil h
  obtain ⟨a, rfl, a1⟩ := good_i64 g1
  obtain ⟨ys, rfl, l1, l2, g⟩ := good_slice g2
  obtain ⟨l, rfl, g3⟩ := all_of (F := dX) (q := inX) (fun d hd => good_x hd) ys g
  simp only [List.length_map] at l1 l2
  exact ⟨(a, l), rfl, a1, g3, by dsimp only; omega⟩
theorem good_w {d : Dt} (h : good shW d) : ∃ (ms : List Mo) (en : Int), d = dW ms en ∧ (∀ m ∈ ms, inM0 m) ∧ i64 en ∧ ms.length < 2 ^ 46 := by
  obtain ⟨xs, rfl, h⟩ := good_agg h
  obtain ⟨d1, xs, rfl, g1, h⟩ := goods_cons h
  obtain ⟨d2, xs, rfl, g2, h⟩ := goods_cons h
  obtain rfl := goods_nil h
  obtain ⟨ys, rfl, l1, l2, g⟩ := good_slice g1
  obtain ⟨l, rfl, g3⟩ := all_of (F := dM) (q := inM0) (fun d hd => good_m hd) ys g
  simp only [List.length_map] at l1 l2
  obtain ⟨b, rfl, b1⟩ := good_i64 g2
  exact ⟨l, b, rfl, g3, b1, by omega⟩
theorem cells_m (m : Mo) : cellsD shM (dM m) = eM m := by
  simp only [dM, cellsD, cellsDs, Sh.size, Sh.sizes, List.map_map]
  rfl
theorem arg_m (m : Mo) : argD shM (dM m) = .agg (eM m) := by
  simp only [argD, cells_m]
theorem arg_w (ms : List Mo) (en : Int) : argD shW (dW ms en) = Wt ms en := by
  simp only [argD, dW, cellsD, cellsDs, Sh.size, Sh.sizes, List.map_map, List.cons_append, List.nil_append]
  congr 3
  apply List.map_congr_left
  intro m _
  exact cells_m m
end Go.Proofs.Ytbjhphjpdeblnaa
