/- What parties are as arguments. No condition. -/
import Derived.Test.YtomfpciigaopiaaPz
import Derived.Test.YtomfpciigaopiaaAi
namespace Go.Proofs.Ytomfpciigaopiaa
open Go Go.Sy
set_option maxRecDepth 100000
set_option linter.unusedSimpArgs false
set_option linter.unusedVariables false
abbrev shP : Sh := .agg [.int .i64, .int .i64]
abbrev shPs : Sh := .slice 16 shP
def dP (p : Pt) : Dt := .l [.n p.1, .n p.2]
def dPs (l : List Pt) : Dt := .l (l.map dP)
theorem good_i64 {d : Dt} (h : good (.int .i64) d) : ∃ n : Int, d = .n n ∧ i64 n := by
  obtain ⟨n, rfl, h⟩ := good_int h
  exact ⟨n, rfl, rng_i64 h⟩
theorem good_u64 {d : Dt} (h : good (.int .u64) d) : ∃ s : Nat, d = .n (s : Int) ∧ s < 18446744073709551616 := by
  obtain ⟨n, rfl, h⟩ := good_int h
  obtain ⟨h1, h2⟩ := rng_u64 h
  exact ⟨n.toNat, by rw [Int.toNat_of_nonneg h1], by omega⟩
theorem good_p {d : Dt} (h : good shP d) : ∃ p : Pt, d = dP p ∧ inP p := by
  obtain ⟨xs, rfl, h⟩ := good_agg h
  obtain ⟨d1, xs, rfl, g1, h⟩ := goods_cons h
  obtain ⟨d2, xs, rfl, g2, h⟩ := goods_cons h
  obtain rfl := goods_nil h
  obtain ⟨a, rfl, a1⟩ := good_i64 g1
  obtain ⟨b, rfl, b1⟩ := good_i64 g2
  exact ⟨(a, b), rfl, a1, b1⟩
theorem good_ps {d : Dt} (h : good shPs d) : ∃ l : List Pt, d = dPs l ∧ (∀ p ∈ l, inP p) ∧ l.length < 2 ^ 46 := by
  obtain ⟨ys, rfl, l1, l2, g⟩ := good_slice h
  obtain ⟨l, rfl, g3⟩ := all_of (F := dP) (q := inP) (fun d hd => good_p hd) ys g
  simp only [List.length_map] at l1 l2
  exact ⟨l, rfl, g3, by omega⟩
theorem cells_p (p : Pt) : cellsD shP (dP p) = eP p := by
  simp only [dP, cellsD, cellsDs, Sh.size, Sh.sizes]
  rfl
theorem arg_ps (l : List Pt) : argD shPs (dPs l) = Ps l := by
  simp only [argD, dPs, cellsD, Sh.size, Sh.sizes, List.map_map]
  congr 1
/-- A number of pCPUs, a place, a gap. -/
abbrev shA : Sh := .agg [.int .i64, .int .i64, .int .i64]
def dA (a b c : Int) : Dt := .l [.n a, .n b, .n c]
theorem good_a {d : Dt} (h : good shA d) : ∃ a b c : Int, d = dA a b c ∧ i64 a ∧ i64 b ∧ i64 c := by
  obtain ⟨xs, rfl, h⟩ := good_agg h
  obtain ⟨d1, xs, rfl, g1, h⟩ := goods_cons h
  obtain ⟨d2, xs, rfl, g2, h⟩ := goods_cons h
  obtain ⟨d3, xs, rfl, g3, h⟩ := goods_cons h
  obtain rfl := goods_nil h
  obtain ⟨a, rfl, a1⟩ := good_i64 g1
  obtain ⟨b, rfl, b1⟩ := good_i64 g2
  obtain ⟨c, rfl, c1⟩ := good_i64 g3
  exact ⟨a, b, c, rfl, a1, b1, c1⟩
theorem arg_a (a b c : Int) : argD shA (dA a b c) = .agg [I a, I b, I c] := by
  simp only [argD, dA, cellsD, cellsDs, Sh.size, Sh.sizes]
  rfl
/-- Times. -/
abbrev shT : Sh := .slice 8 (.int .i64)
def dT (l : List Int) : Dt := .l (l.map .n)
theorem good_ts {d : Dt} (h : good shT d) : ∃ l : List Int, d = dT l ∧ (∀ n ∈ l, i64 n) ∧ l.length < 2 ^ 46 := by
  obtain ⟨ys, rfl, l1, l2, g⟩ := good_slice h
  obtain ⟨l, rfl, g3⟩ := good_ints g
  simp only [List.length_map] at l1 l2
  exact ⟨l, rfl, fun n hn => rng_i64 (g3 n hn), by omega⟩
theorem arg_ts (l : List Int) : argD shT (dT l) = .rd 1 (l.map (eI .i64)) := by
  simp only [argD, dT, cellsD, cells_ints, Sh.size]
/-- A number of 128 bits. -/
abbrev shW : Sh := .agg [.int .u64, .int .u64]
def dW (n : Nat) : Dt := .l [.n (n / 18446744073709551616 : Nat), .n (n % 18446744073709551616 : Nat)]
theorem good_w {d : Dt} (h : good shW d) : ∃ n : Nat, d = dW n ∧ n < 2 ^ 128 := by
  obtain ⟨xs, rfl, h⟩ := good_agg h
  obtain ⟨d1, xs, rfl, g1, h⟩ := goods_cons h
  obtain ⟨d2, xs, rfl, g2, h⟩ := goods_cons h
  obtain rfl := goods_nil h
  obtain ⟨a, rfl, a1⟩ := good_u64 g1
  obtain ⟨b, rfl, b1⟩ := good_u64 g2
  refine ⟨a * 18446744073709551616 + b, ?_, by omega⟩
  rw [dW, show (a * 18446744073709551616 + b) / 18446744073709551616 = a by omega, show (a * 18446744073709551616 + b) % 18446744073709551616 = b by omega]
theorem arg_w (n : Nat) : argD shW (dW n) = W n := by
  simp only [argD, dW, cellsD, cellsDs, Sh.size, Sh.sizes]
  rfl
end Go.Proofs.Ytomfpciigaopiaa
