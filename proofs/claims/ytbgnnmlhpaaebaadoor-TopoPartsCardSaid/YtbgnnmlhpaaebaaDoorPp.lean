/- What topologies are as arguments. No condition. -/
import Derived.Test.YtbgnnmlhpaaebaaDoorDz
import Derived.Test.YtbgnnmlhpaaebaaDoorTa
namespace Go.Proofs.YtbgnnmlhpaaebaaDoor
open Go Go.Sy
set_option maxRecDepth 100000
set_option linter.unusedSimpArgs false
set_option linter.unusedVariables false
abbrev shSe : Sh := .agg [.int .i64, .int .i64]
abbrev shTo : Sh := .agg [.slice 16 shSe]
def dSe (s : Sea) : Dt := .l [.n s.1, .n s.2]
def dTo (l : List Sea) : Dt := .l [.l (l.map dSe)]
theorem good_i64 {d : Dt} (h : good (.int .i64) d) : ∃ n : Int, d = .n n ∧ i64 n := by
  obtain ⟨n, rfl, h⟩ := good_int h
  exact ⟨n, rfl, rng_i64 h⟩
theorem good_u32 {d : Dt} (h : good (.int .u32) d) : ∃ s : Nat, d = .n (s : Int) ∧ s < 4294967296 := by
  obtain ⟨n, rfl, h⟩ := good_int h
  obtain ⟨h1, h2⟩ := rng_u32 h
  exact ⟨n.toNat, by rw [Int.toNat_of_nonneg h1], by omega⟩
theorem good_seat {d : Dt} (h : good shSe d) : ∃ s : Sea, d = dSe s ∧ inT s := by
  obtain ⟨xs, rfl, h⟩ := good_agg h
  obtain ⟨d1, xs, rfl, g1, h⟩ := goods_cons h
  obtain ⟨d2, xs, rfl, g2, h⟩ := goods_cons h
  obtain rfl := goods_nil h
  obtain ⟨a, rfl, a1⟩ := good_i64 g1
  obtain ⟨b, rfl, b1⟩ := good_i64 g2
  exact ⟨(a, b), rfl, a1, b1⟩
theorem good_topo {d : Dt} (h : good shTo d) : ∃ l : List Sea, d = dTo l ∧ (∀ s ∈ l, inT s) ∧ l.length < 2 ^ 46 := by
  obtain ⟨xs, rfl, h⟩ := good_agg h
  obtain ⟨d1, xs, rfl, g1, h⟩ := goods_cons h
  obtain rfl := goods_nil h
  obtain ⟨ys, rfl, l1, l2, g⟩ := good_slice g1
  obtain ⟨l, rfl, g3⟩ := all_of (F := dSe) (q := inT) (fun d hd => good_seat hd) ys g
  simp only [List.length_map] at l1 l2
  exact ⟨l, rfl, g3, by omega⟩
theorem good_topos {d : Dt} (h : good (.slice 24 shTo) d) : ∃ l : List (List Sea), d = .l (l.map dTo) ∧ (∀ x ∈ l, (∀ s ∈ x, inT s) ∧ x.length < 2 ^ 46) ∧ l.length < 2 ^ 46 := by
  obtain ⟨ys, rfl, l1, l2, g⟩ := good_slice h
  obtain ⟨l, rfl, g3⟩ := all_of (F := dTo) (q := fun x => (∀ s ∈ x, inT s) ∧ x.length < 2 ^ 46) (fun d hd => good_topo hd) ys g
  simp only [List.length_map] at l1 l2
  exact ⟨l, rfl, g3, by omega⟩
theorem good_nums {d : Dt} (h : good (.slice 8 (.int .i64)) d) : ∃ l : List Int, d = .l (l.map .n) ∧ (∀ n ∈ l, i64 n) ∧ l.length < 2 ^ 46 := by
  obtain ⟨ys, rfl, l1, l2, g⟩ := good_slice h
  obtain ⟨l, rfl, g3⟩ := good_ints g
  simp only [List.length_map] at l1 l2
  exact ⟨l, rfl, fun n hn => rng_i64 (g3 n hn), by omega⟩
theorem good_bytes {d : Dt} (h : good (.slice 1 (.int .u8)) d) : ∃ l : List Int, d = .l (l.map .n) ∧ (∀ n ∈ l, 0 ≤ n ∧ n ≤ 255) ∧ l.length < 2 ^ 47 := by
  obtain ⟨ys, rfl, l1, l2, g⟩ := good_slice h
  obtain ⟨l, rfl, g3⟩ := good_ints g
  simp only [List.length_map] at l1 l2
  exact ⟨l, rfl, fun n hn => rng_u8 (g3 n hn), by omega⟩
theorem cells_topo (l : List Sea) : cellsD shTo (dTo l) = [Ss l] := by
  simp only [dTo, cellsD, cellsDs, Sh.size, Sh.sizes, List.map_map, List.append_nil]
  rfl
theorem arg_topo (l : List Sea) : argD shTo (dTo l) = To l := by
  simp only [argD, cells_topo]
theorem arg_nums (l : List Int) : argD (.slice 8 (.int .i64)) (.l (l.map .n)) = Is l := by
  simp only [argD, cellsD, cells_ints, Sh.size]
end Go.Proofs.YtbgnnmlhpaaebaaDoor
