/- What is done, as an argument. No condition. -/
import Derived.Test.YtfhiaddbpacgeaaPp
import Derived.Test.YtfhiaddbpacgeaaLo
namespace Go.Proofs.Ytfhiaddbpacgeaa
open Go Go.Sy
set_option maxRecDepth 100000
set_option linter.unusedSimpArgs false
set_option linter.unusedVariables false
abbrev shO : Sh := .agg [.int .i64, .int .i64, .int .i64, .int .i64, .int .u32]
def dO (o : Od) : Dt := .l [.n o.k, .n o.a, .n o.b, .n o.c, dN o.s]
theorem good_od {d : Dt} (h : good shO d) : ∃ o : Od, d = dO o ∧ inO o := by
  obtain ⟨xs, rfl, h⟩ := good_agg h
  obtain ⟨d1, xs, rfl, g1, h⟩ := goods_cons h
  obtain ⟨d2, xs, rfl, g2, h⟩ := goods_cons h
  obtain ⟨d3, xs, rfl, g3, h⟩ := goods_cons h
  obtain ⟨d4, xs, rfl, g4, h⟩ := goods_cons h
  obtain ⟨d5, xs, rfl, g5, h⟩ := goods_cons h
  obtain rfl := goods_nil h
  obtain ⟨k, rfl, k1⟩ := good_i64 g1
  obtain ⟨a, rfl, a1⟩ := good_i64 g2
  obtain ⟨b, rfl, b1⟩ := good_i64 g3
  obtain ⟨c, rfl, c1⟩ := good_i64 g4
  obtain ⟨s, rfl, s1⟩ := good_u32 g5
  exact ⟨⟨k, a, b, c, s⟩, rfl, k1, a1, b1, c1, s1⟩
theorem good_ods {d : Dt} (h : good (.slice 40 shO) d) : ∃ l : List Od, d = .l (l.map dO) ∧ (∀ o ∈ l, inO o) ∧ l.length < 2 ^ 46 := by
  obtain ⟨ys, rfl, l1, l2, g⟩ := good_slice h
  obtain ⟨l, rfl, g3⟩ := all_of (F := dO) (q := inO) (fun d hd => good_od hd) ys g
  simp only [List.length_map] at l1 l2
  exact ⟨l, rfl, g3, by omega⟩
theorem arg_od (o : Od) : argD shO (dO o) = .agg (eO o) := rfl
abbrev Ods (l : List Od) : SV := .rd 5 (l.map eO)
theorem arg_ods (l : List Od) : argD (.slice 40 shO) (.l (l.map dO)) = Ods l := by
  simp only [argD, cellsD, Sh.size, Sh.sizes, List.map_map]
  rfl
end Go.Proofs.Ytfhiaddbpacgeaa
