/- What wishes are as arguments. No condition. -/
import Derived.Test.YtnjgmjcokcfmkaaDoorDz
import Derived.Test.YtnjgmjcokcfmkaaDoorPw
namespace Go.Proofs.YtnjgmjcokcfmkaaDoor
open Go Go.Sy
set_option maxRecDepth 100000
set_option linter.unusedSimpArgs false
set_option linter.unusedVariables false
abbrev shW : Sh := .agg [.int .i64, .int .i64, .agg [.int .u32, .int .u32]]
abbrev shC : Sh := .int .u32
def dW (w : Wi) : Dt := .l [.n w.v, .n w.a, .l [.n w.m.1, .n w.m.2]]
theorem good_u32 {d : Dt} (h : good (.int .u32) d) : ∃ s : Nat, d = .n (s : Int) ∧ s < 4294967296 := by
  obtain ⟨n, rfl, h⟩ := good_int h
  obtain ⟨h1, h2⟩ := rng_u32 h
  exact ⟨n.toNat, by rw [Int.toNat_of_nonneg h1], by omega⟩
theorem good_i64 {d : Dt} (h : good (.int .i64) d) : ∃ n : Int, d = .n n ∧ -9223372036854775808 ≤ n ∧ n ≤ 9223372036854775807 := by
  obtain ⟨n, rfl, h⟩ := good_int h
  exact ⟨n, rfl, rng_i64 h⟩
theorem good_mask {d : Dt} (h : good (.agg [.int .u32, .int .u32]) d) : ∃ m : Msk, d = .l [.n m.1, .n m.2] ∧ u32M m := by
  obtain ⟨xs, rfl, h⟩ := good_agg h
  obtain ⟨d1, xs, rfl, g1, h⟩ := goods_cons h
  obtain ⟨d2, xs, rfl, g2, h⟩ := goods_cons h
  obtain rfl := goods_nil h
  obtain ⟨a, rfl, a1⟩ := good_u32 g1
  obtain ⟨b, rfl, b1⟩ := good_u32 g2
  exact ⟨(a, b), rfl, a1, b1⟩
theorem good_wish {d : Dt} (h : good shW d) : ∃ w : Wi, d = dW w ∧ inW w := by
  obtain ⟨xs, rfl, h⟩ := good_agg h
  obtain ⟨d1, xs, rfl, g1, h⟩ := goods_cons h
  obtain ⟨d2, xs, rfl, g2, h⟩ := goods_cons h
  obtain ⟨d3, xs, rfl, g3, h⟩ := goods_cons h
  obtain rfl := goods_nil h
  obtain ⟨v, rfl, v1⟩ := good_i64 g1
  obtain ⟨a, rfl, a1⟩ := good_i64 g2
  obtain ⟨m, rfl, m1⟩ := good_mask g3
  exact ⟨⟨v, a, m⟩, rfl, v1, a1, m1⟩
theorem good_wishes {d : Dt} (h : good (.slice 24 shW) d) : ∃ l : List Wi, d = .l (l.map dW) ∧ (∀ w ∈ l, inW w) ∧ l.length < 2 ^ 46 := by
  obtain ⟨xs, rfl, l1, l2, g⟩ := good_slice h
  obtain ⟨l, rfl, g3⟩ := all_of (F := dW) (q := inW) (fun d hd => good_wish hd) xs g
  simp only [List.length_map] at l1 l2
  exact ⟨l, rfl, g3, by omega⟩
theorem arg_wishes (l : List Wi) : argD (.slice 24 shW) (.l (l.map dW)) = Ws l := by
  simp only [argD, cellsD, Sh.size, Sh.sizes, List.map_map]
  rfl
end Go.Proofs.YtnjgmjcokcfmkaaDoor
