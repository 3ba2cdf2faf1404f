/- What is picked from, as an argument. No condition. -/
import Derived.Test.YtnjgmjcokcfmkaaDoorQm
import Derived.Test.YtnjgmjcokcfmkaaDoorPr
namespace Go.Proofs.YtnjgmjcokcfmkaaDoor
open Go Go.Sy
set_option maxRecDepth 100000
set_option linter.unusedSimpArgs false
set_option linter.unusedVariables false
abbrev shEn : Sh := .agg [.slice 8 (.int .i64), .agg [.agg [.int .u64, .int .u64], .int .u64], .int .u64, .bool]
abbrev shAsk : Sh := .agg [.slice 64 shEn, .slice 24 shW, shC]
def dEn (x : En) : Dt := .l [.l (x.ms.map .n), .l [.l [.n x.hi, .n x.lo], .n x.w], .n x.o, .b x.fr]
def dAk (l : List En) (w : List Wi) (s : Nat) : Dt := .l [.l (l.map dEn), .l (w.map dW), .n s]
theorem good_bo {d : Dt} (h : good .bool d) : ∃ b : Bool, d = .b b := by
  cases d <;> simp only [good] at h
  exact ⟨_, rfl⟩
theorem good_En {d : Dt} (h : good shEn d) : ∃ x : En, d = dEn x ∧ inE0 x := by
  obtain ⟨xs, rfl, h⟩ := good_agg h
  obtain ⟨d1, xs, rfl, g1, h⟩ := goods_cons h
  obtain ⟨d2, xs, rfl, g2, h⟩ := goods_cons h
  obtain ⟨d3, xs, rfl, g3, h⟩ := goods_cons h
  obtain ⟨d4, xs, rfl, g4, h⟩ := goods_cons h
  obtain rfl := goods_nil h
  obtain ⟨ys, rfl, hy⟩ := good_agg g2
  obtain ⟨e1, ys, rfl, k1, hy⟩ := goods_cons hy
  obtain ⟨e2, ys, rfl, k2, hy⟩ := goods_cons hy
  obtain rfl := goods_nil hy
  obtain ⟨zs, rfl, hz⟩ := good_agg k1
  obtain ⟨f1, zs, rfl, m1, hz⟩ := goods_cons hz
  obtain ⟨f2, zs, rfl, m2, hz⟩ := goods_cons hz
  obtain rfl := goods_nil hz
  obtain ⟨hi, rfl, -⟩ := good_int m1
  obtain ⟨lo, rfl, -⟩ := good_int m2
  obtain ⟨w, rfl, -⟩ := good_int k2
  obtain ⟨o, rfl, -⟩ := good_int g3
  obtain ⟨fr, rfl⟩ := good_bo g4
  obtain ⟨ys, rfl, l1, l2, g⟩ := good_slice g1
  obtain ⟨ms, rfl, g5⟩ := good_ints g
  simp only [List.length_map] at l1 l2
  exact ⟨⟨ms, hi, lo, w, o, fr⟩, rfl, fun n hn => rng_i64 (g5 n hn), by dsimp only; omega⟩
theorem good_Ens {d : Dt} (h : good (.slice 64 shEn) d) : ∃ l : List En, d = .l (l.map dEn) ∧ (∀ x ∈ l, inE0 x) ∧ l.length < 2 ^ 46 := by
  obtain ⟨xs, rfl, l1, l2, g⟩ := good_slice h
  obtain ⟨l, rfl, g3⟩ := all_of (F := dEn) (q := inE0) (fun d hd => good_En hd) xs g
  simp only [List.length_map] at l1 l2
  exact ⟨l, rfl, g3, by omega⟩
theorem good_Ak {d : Dt} (h : good shAsk d) : ∃ (l : List En) (w : List Wi) (s : Nat), d = dAk l w s ∧ (∀ x ∈ l, inE0 x) ∧ (∀ x ∈ w, inW x) ∧ l.length < 2 ^ 46 ∧ w.length < 2 ^ 46 ∧ s < 4294967296 := by
  obtain ⟨xs, rfl, h⟩ := good_agg h
  obtain ⟨d1, xs, rfl, g1, h⟩ := goods_cons h
  obtain ⟨d2, xs, rfl, g2, h⟩ := goods_cons h
  obtain ⟨d3, xs, rfl, g3, h⟩ := goods_cons h
  obtain rfl := goods_nil h
  obtain ⟨l, rfl, a1, a2⟩ := good_Ens g1
  obtain ⟨w, rfl, b1, b2⟩ := good_wishes g2
  obtain ⟨s, rfl, c1⟩ := good_u32 g3
  exact ⟨l, w, s, rfl, a1, b1, a2, b2, c1⟩
theorem cells_En (x : En) : cellsD shEn (dEn x) = eEn x := by
  simp only [cellsD, cellsDs, dEn, Sh.size, Sh.sizes, List.map_map, eEn, List.cons_append, List.nil_append, List.append_nil]
  rfl
theorem arg_Ak (l : List En) (w : List Wi) (s : Nat) : argD shAsk (dAk l w s) = Ak l w s := by
  have e1 : List.map (cellsD shEn) (l.map dEn) = l.map eEn := by
    rw [List.map_map]
    exact List.map_congr_left fun x _ => cells_En x
  have e2 : List.map (cellsD shW) (w.map dW) = w.map eW := by
    rw [List.map_map]; rfl
  simp only [argD, dAk, cellsD, cellsDs]
  rw [e1, e2]
  rfl
end Go.Proofs.YtnjgmjcokcfmkaaDoor
