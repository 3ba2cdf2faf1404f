/- What masks are as arguments. No condition. -/
import Derived.Test.YtgmedcnpgpehfaaDoorDz
import Derived.Test.YtgmedcnpgpehfaaDoorMk
namespace Go.Proofs.YtgmedcnpgpehfaaDoor
open Go Go.Sy
set_option maxRecDepth 100000
set_option linter.unusedSimpArgs false
set_option linter.unusedVariables false
abbrev shM : Sh := .agg [.int .u32, .int .u32]
abbrev shC : Sh := .int .u32
def dM (m : Msk) : Dt := .l [.n m.1, .n m.2]
theorem good_u32 {d : Dt} (h : good (.int .u32) d) : ∃ s : Nat, d = .n (s : Int) ∧ s < 4294967296 := by
  obtain ⟨n, rfl, h⟩ := good_int h
  obtain ⟨h1, h2⟩ := rng_u32 h
  exact ⟨n.toNat, by rw [Int.toNat_of_nonneg h1], by omega⟩
theorem good_i64 {d : Dt} (h : good (.int .i64) d) : ∃ n : Int, d = .n n ∧ -9223372036854775808 ≤ n ∧ n ≤ 9223372036854775807 := by
  obtain ⟨n, rfl, h⟩ := good_int h
  exact ⟨n, rfl, rng_i64 h⟩
theorem good_mask {d : Dt} (h : good shM d) : ∃ m : Msk, d = dM m ∧ u32M m := by
  obtain ⟨xs, rfl, h⟩ := good_agg h
  obtain ⟨d1, xs, rfl, g1, h⟩ := goods_cons h
  obtain ⟨d2, xs, rfl, g2, h⟩ := goods_cons h
  obtain rfl := goods_nil h
  obtain ⟨a, rfl, a1⟩ := good_u32 g1
  obtain ⟨b, rfl, b1⟩ := good_u32 g2
  exact ⟨(a, b), rfl, a1, b1⟩
theorem good_masks {d : Dt} (h : good (.slice 8 shM) d) : ∃ l : List Msk, d = .l (l.map dM) ∧ (∀ m ∈ l, u32M m) ∧ l.length < 2 ^ 46 := by
  obtain ⟨xs, rfl, l1, l2, g⟩ := good_slice h
  obtain ⟨l, rfl, g3⟩ := all_of (F := dM) (q := u32M) (fun d hd => good_mask hd) xs g
  simp only [List.length_map] at l1 l2
  exact ⟨l, rfl, g3, by omega⟩
theorem arg_masks (l : List Msk) : argD (.slice 8 shM) (.l (l.map dM)) = .rd 2 (l.map eK) := by
  simp only [argD, cellsD, Sh.size, Sh.sizes, List.map_map]
  rfl
end Go.Proofs.YtgmedcnpgpehfaaDoor
