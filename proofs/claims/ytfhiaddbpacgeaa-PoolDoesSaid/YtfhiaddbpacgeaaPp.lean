/- What pools are as arguments. No condition. -/
import Derived.Test.YtfhiaddbpacgeaaPz
import Derived.Test.YtfhiaddbpacgeaaOa
import Derived.Test.YtfhiaddbpacgeaaR4
namespace Go.Proofs.Ytfhiaddbpacgeaa
open Go Go.Sy
set_option maxRecDepth 100000
set_option linter.unusedSimpArgs false
set_option linter.unusedVariables false
abbrev shS : Sh := .slice 4 (.int .u32)
abbrev shPo : Sh := .agg [shS]
def dN (s : Nat) : Dt := .n (s : Int)
def dPo (xs : List Nat) : Dt := .l [.l (xs.map dN)]
theorem good_u32 {d : Dt} (h : good (.int .u32) d) : ∃ s : Nat, d = dN s ∧ s < 4294967296 := by
  obtain ⟨n, rfl, h⟩ := good_int h
  obtain ⟨h1, h2⟩ := rng_u32 h
  exact ⟨n.toNat, by rw [dN, Int.toNat_of_nonneg h1], by omega⟩
theorem good_i64 {d : Dt} (h : good (.int .i64) d) : ∃ n : Int, d = .n n ∧ -9223372036854775808 ≤ n ∧ n ≤ 9223372036854775807 := by
  obtain ⟨n, rfl, h⟩ := good_int h
  exact ⟨n, rfl, rng_i64 h⟩
theorem good_pool {d : Dt} (h : good shPo d) : ∃ xs : List Nat, d = dPo xs ∧ u32s xs ∧ xs.length < 2 ^ 46 := by
  obtain ⟨ys, rfl, h⟩ := good_agg h
  obtain ⟨d1, ys, rfl, g1, h⟩ := goods_cons h
  obtain rfl := goods_nil h
  obtain ⟨zs, rfl, l1, l2, g⟩ := good_slice g1
  obtain ⟨xs, rfl, g3⟩ := all_of (F := dN) (q := fun s => s < 4294967296) (fun d hd => good_u32 hd) zs g
  simp only [List.length_map] at l1 l2
  exact ⟨xs, rfl, g3, by omega⟩
theorem good_pools {d : Dt} (h : good (.slice 24 shPo) d) : ∃ l : List (List Nat), d = .l (l.map dPo) ∧ (∀ xs ∈ l, u32s xs ∧ xs.length < 2 ^ 46) ∧ l.length < 2 ^ 46 := by
  obtain ⟨ys, rfl, l1, l2, g⟩ := good_slice h
  obtain ⟨l, rfl, g3⟩ := all_of (F := dPo) (q := fun xs => u32s xs ∧ xs.length < 2 ^ 46) (fun d hd => good_pool hd) ys g
  simp only [List.length_map] at l1 l2
  exact ⟨l, rfl, g3, by omega⟩
theorem good_nums {d : Dt} (h : good (.slice 8 (.int .i64)) d) : ∃ l : List Int, d = .l (l.map .n) ∧ (∀ n ∈ l, -9223372036854775808 ≤ n ∧ n ≤ 9223372036854775807) ∧ l.length < 2 ^ 46 := by
  obtain ⟨ys, rfl, l1, l2, g⟩ := good_slice h
  obtain ⟨l, rfl, g3⟩ := good_ints g
  simp only [List.length_map] at l1 l2
  exact ⟨l, rfl, fun n hn => rng_i64 (g3 n hn), by omega⟩
theorem good_bytes {d : Dt} (h : good (.slice 1 (.int .u8)) d) : ∃ l : List Int, d = .l (l.map .n) ∧ (∀ n ∈ l, 0 ≤ n ∧ n ≤ 255) ∧ l.length < 2 ^ 47 := by
  obtain ⟨ys, rfl, l1, l2, g⟩ := good_slice h
  obtain ⟨l, rfl, g3⟩ := good_ints g
  simp only [List.length_map] at l1 l2
  exact ⟨l, rfl, fun n hn => rng_u8 (g3 n hn), by omega⟩
theorem cells_pool (xs : List Nat) : cellsD shPo (dPo xs) = [.rd 1 (xs.map eS)] := by
  simp only [dPo, cellsD, cellsDs, Sh.size, List.map_map, List.append_nil]
  rfl
theorem arg_pool (xs : List Nat) : argD shPo (dPo xs) = Po xs := by
  simp only [argD, cells_pool]
theorem arg_nums (l : List Int) : argD (.slice 8 (.int .i64)) (.l (l.map .n)) = Is l := by
  simp only [argD, cellsD, cells_ints, Sh.size]
/-- A row of pools. -/
def eP (xs : List Nat) : List SV := [.rd 1 (xs.map eS)]
abbrev Pos (l : List (List Nat)) : SV := .rd 1 (l.map eP)
theorem arg_pools (l : List (List Nat)) : argD (.slice 24 shPo) (.l (l.map dPo)) = Pos l := by
  simp only [argD, cellsD, Sh.size, Sh.sizes, List.map_map]
  congr 1
  apply List.map_congr_left
  intro xs _
  exact cells_pool xs
end Go.Proofs.Ytfhiaddbpacgeaa
