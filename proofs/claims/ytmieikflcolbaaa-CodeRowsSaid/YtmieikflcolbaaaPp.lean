/- What events are as arguments. No condition. -/
import Derived.Test.YtmieikflcolbaaaPz
import Derived.Test.YtmieikflcolbaaaLa
namespace Go.Proofs.Ytmieikflcolbaaa
open Go Go.Sy
set_option maxRecDepth 100000
set_option linter.unusedSimpArgs false
set_option linter.unusedVariables false
abbrev shN : Sh := .slice 8 (.int .i64)
abbrev shD4 : Sh := .agg [.int .i64, .int .i64, .int .i64, .int .i64]
abbrev shMk : Sh := .agg [.int .u32, .int .u32]
abbrev shCa : Sh := .agg [.int .i64, .int .i64, .int .i64, .int .i64, .bool, shN, .int .i64, .int .i64, shD4, shMk]
abbrev shCh : Sh := .agg [.int .i64, .int .i64, .int .i64, .int .i64, .int .i64, .int .i64, .int .i64, .int .i64, .int .i64, shMk, .int .u32, shN]
abbrev shE : Sh := .agg [.int .i64, shCa, shCh, .int .i64]
def dN (l : List Int) : Dt := .l (l.map .n)
def dE (a : Evt) : Dt := .l [.n (a.1 0), .l [.n (a.1 1), .n (a.1 2), .n (a.1 3), .n (a.1 4), .b (decide (a.1 5 = 1)), dN a.2.1, .n (a.1 7), .n (a.1 8), .l [.n (a.1 9), .n (a.1 10), .n (a.1 11), .n (a.1 12)], .l [.n (a.1 13), .n (a.1 14)]],
  .l [.n (a.1 15), .n (a.1 16), .n (a.1 17), .n (a.1 18), .n (a.1 19), .n (a.1 20), .n (a.1 21), .n (a.1 22), .n (a.1 23), .l [.n (a.1 24), .n (a.1 25)], .n (a.1 26), dN a.2.2], .n (a.1 28)]
theorem good_i64 {d : Dt} (h : good (.int .i64) d) : ∃ n : Int, d = .n n ∧ (-2 ^ 63 ≤ n ∧ n < 2 ^ 63) := by
  obtain ⟨n, rfl, h⟩ := good_int h
  have := rng_i64 h
  exact ⟨n, rfl, by omega⟩
theorem good_bo {d : Dt} (h : good .bool d) : ∃ b : Bool, d = .b b := by
  cases d <;> simp only [good] at h
  exact ⟨_, rfl⟩
theorem good_u32 {d : Dt} (h : good (.int .u32) d) : ∃ s : Int, d = .n s ∧ (0 ≤ s ∧ s < 2 ^ 32) := by
  obtain ⟨n, rfl, h⟩ := good_int h
  obtain ⟨h1, h2⟩ := rng_u32 h
  exact ⟨n, rfl, by omega⟩
theorem good_N {d : Dt} (h : good shN d) : ∃ l : List Int, d = dN l ∧ (∀ n ∈ l, -2 ^ 63 ≤ n ∧ n < 2 ^ 63) ∧ l.length < 2 ^ 46 := by
  obtain ⟨ys, rfl, l1, l2, g⟩ := good_slice h
  obtain ⟨l, rfl, g3⟩ := good_ints g
  simp only [List.length_map] at l1 l2
  exact ⟨l, rfl, fun n hn => by have := rng_i64 (g3 n hn); omega, by omega⟩
theorem good_bytes {d : Dt} (h : good (.slice 1 (.int .u8)) d) : ∃ l : List Int, d = .l (l.map .n) ∧ (∀ n ∈ l, 0 ≤ n ∧ n < 256) ∧ l.length < 2 ^ 47 := by
  obtain ⟨ys, rfl, l1, l2, g⟩ := good_slice h
  obtain ⟨l, rfl, g3⟩ := good_ints g
  simp only [List.length_map] at l1 l2
  exact ⟨l, rfl, fun n hn => by have := rng_u8 (g3 n hn); omega, by omega⟩
def mk (l : List Int) : Nat → Int := fun i => l.getD i 0
theorem mk_all {l : List Int} {p : Int → Prop} (h : ∀ x ∈ l, p x) (h0 : p 0) (i : Nat) : p (mk l i) := by
  rw [mk, List.getD]
  cases hi : l[i]? with
  | none => exact h0
  | some x => exact h x (List.mem_of_getElem? hi)
theorem good_E {d : Dt} (h : good shE d) : ∃ a : Evt, d = dE a ∧ wf0 a := by
  obtain ⟨xs, rfl, h⟩ := good_agg h
  obtain ⟨e0, xs, rfl, ge0, h⟩ := goods_cons h
  obtain ⟨e1, xs, rfl, ge1, h⟩ := goods_cons h
  obtain ⟨e2, xs, rfl, ge2, h⟩ := goods_cons h
  obtain ⟨e3, xs, rfl, ge3, h⟩ := goods_cons h
  obtain rfl := goods_nil h
  obtain ⟨xs, rfl, hc⟩ := good_agg ge1
  obtain ⟨c0, xs, rfl, gc0, hc⟩ := goods_cons hc
  obtain ⟨c1, xs, rfl, gc1, hc⟩ := goods_cons hc
  obtain ⟨c2, xs, rfl, gc2, hc⟩ := goods_cons hc
  obtain ⟨c3, xs, rfl, gc3, hc⟩ := goods_cons hc
  obtain ⟨c4, xs, rfl, gc4, hc⟩ := goods_cons hc
  obtain ⟨c5, xs, rfl, gc5, hc⟩ := goods_cons hc
  obtain ⟨c6, xs, rfl, gc6, hc⟩ := goods_cons hc
  obtain ⟨c7, xs, rfl, gc7, hc⟩ := goods_cons hc
  obtain ⟨c8, xs, rfl, gc8, hc⟩ := goods_cons hc
  obtain ⟨c9, xs, rfl, gc9, hc⟩ := goods_cons hc
  obtain rfl := goods_nil hc
  obtain ⟨xs, rfl, hl⟩ := good_agg ge2
  obtain ⟨l0, xs, rfl, gl0, hl⟩ := goods_cons hl
  obtain ⟨l1, xs, rfl, gl1, hl⟩ := goods_cons hl
  obtain ⟨l2, xs, rfl, gl2, hl⟩ := goods_cons hl
  obtain ⟨l3, xs, rfl, gl3, hl⟩ := goods_cons hl
  obtain ⟨l4, xs, rfl, gl4, hl⟩ := goods_cons hl
  obtain ⟨l5, xs, rfl, gl5, hl⟩ := goods_cons hl
  obtain ⟨l6, xs, rfl, gl6, hl⟩ := goods_cons hl
  obtain ⟨l7, xs, rfl, gl7, hl⟩ := goods_cons hl
  obtain ⟨l8, xs, rfl, gl8, hl⟩ := goods_cons hl
  obtain ⟨l9, xs, rfl, gl9, hl⟩ := goods_cons hl
  obtain ⟨l10, xs, rfl, gl10, hl⟩ := goods_cons hl
  obtain ⟨l11, xs, rfl, gl11, hl⟩ := goods_cons hl
  obtain rfl := goods_nil hl
  obtain ⟨xs, rfl, hd⟩ := good_agg gc8
  obtain ⟨d0, xs, rfl, gd0, hd⟩ := goods_cons hd
  obtain ⟨d1, xs, rfl, gd1, hd⟩ := goods_cons hd
  obtain ⟨d2, xs, rfl, gd2, hd⟩ := goods_cons hd
  obtain ⟨d3, xs, rfl, gd3, hd⟩ := goods_cons hd
  obtain rfl := goods_nil hd
  obtain ⟨xs, rfl, hm⟩ := good_agg gc9
  obtain ⟨m0, xs, rfl, gm0, hm⟩ := goods_cons hm
  obtain ⟨m1, xs, rfl, gm1, hm⟩ := goods_cons hm
  obtain rfl := goods_nil hm
  obtain ⟨xs, rfl, hk⟩ := good_agg gl9
  obtain ⟨k0, xs, rfl, gk0, hk⟩ := goods_cons hk
  obtain ⟨k1, xs, rfl, gk1, hk⟩ := goods_cons hk
  obtain rfl := goods_nil hk
  obtain ⟨v0, rfl, r0⟩ := good_i64 ge0
  obtain ⟨v1, rfl, r1⟩ := good_i64 gc0
  obtain ⟨v2, rfl, r2⟩ := good_i64 gc1
  obtain ⟨v3, rfl, r3⟩ := good_i64 gc2
  obtain ⟨v4, rfl, r4⟩ := good_i64 gc3
  obtain ⟨v5, rfl⟩ := good_bo gc4
  obtain ⟨v7, rfl, r7⟩ := good_i64 gc6
  obtain ⟨v8, rfl, r8⟩ := good_i64 gc7
  obtain ⟨v9, rfl, r9⟩ := good_i64 gd0
  obtain ⟨v10, rfl, r10⟩ := good_i64 gd1
  obtain ⟨v11, rfl, r11⟩ := good_i64 gd2
  obtain ⟨v12, rfl, r12⟩ := good_i64 gd3
  obtain ⟨v13, rfl, r13⟩ := good_u32 gm0
  obtain ⟨v14, rfl, r14⟩ := good_u32 gm1
  obtain ⟨v15, rfl, r15⟩ := good_i64 gl0
  obtain ⟨v16, rfl, r16⟩ := good_i64 gl1
  obtain ⟨v17, rfl, r17⟩ := good_i64 gl2
  obtain ⟨v18, rfl, r18⟩ := good_i64 gl3
  obtain ⟨v19, rfl, r19⟩ := good_i64 gl4
  obtain ⟨v20, rfl, r20⟩ := good_i64 gl5
  obtain ⟨v21, rfl, r21⟩ := good_i64 gl6
  obtain ⟨v22, rfl, r22⟩ := good_i64 gl7
  obtain ⟨v23, rfl, r23⟩ := good_i64 gl8
  obtain ⟨v24, rfl, r24⟩ := good_u32 gk0
  obtain ⟨v25, rfl, r25⟩ := good_u32 gk1
  obtain ⟨v26, rfl, r26⟩ := good_u32 gl10
  obtain ⟨v28, rfl, r28⟩ := good_i64 ge3
  obtain ⟨ns, rfl, r6, n6⟩ := good_N gc5
  obtain ⟨ms, rfl, r27, n27⟩ := good_N gl11
  refine ⟨(mk [v0, v1, v2, v3, v4, (if v5 = true then 1 else 0), 0, v7, v8, v9, v10, v11, v12, v13, v14, v15, v16, v17, v18, v19, v20, v21, v22, v23, v24, v25, v26, 0, v28], ns, ms), ?_, ?_⟩
  · cases v5 <;> rfl
  · constructor
    · intro i
      refine mk_all (p := fun x => -2 ^ 63 ≤ x ∧ x < 2 ^ 63) ?_ (by decide) i
      intro x hx
      have h5 : -2 ^ 63 ≤ (if v5 = true then (1 : Int) else 0) ∧ (if v5 = true then (1 : Int) else 0) < 2 ^ 63 := by cases v5 <;> decide
      simp only [List.mem_cons, List.not_mem_nil, or_false] at hx
      rcases hx with rfl | rfl | rfl | rfl | rfl | rfl | rfl | rfl | rfl | rfl | rfl | rfl | rfl | rfl | rfl | rfl | rfl | rfl | rfl | rfl | rfl | rfl | rfl | rfl | rfl | rfl | rfl | rfl | rfl
      all_goals first | assumption | omega
    · rintro i (rfl | rfl | rfl | rfl | rfl)
      · exact r13
      · exact r14
      · exact r24
      · exact r25
      · exact r26
    · show (if v5 = true then (1 : Int) else 0) = 0 ∨ (if v5 = true then (1 : Int) else 0) = 1
      cases v5 <;> simp
    · rintro i (rfl | rfl | h)
      · rfl
      · rfl
      · show mk _ i = 0
        rw [mk, List.getD, List.getElem?_eq_none (by simpa using h)]
        rfl
    · exact r6
    · exact r27
    · exact n6
    · exact n27
theorem cells_E (a : Evt) : cellsD shE (dE a) = ec a := by
  simp only [dE, dN, cellsD, cellsDs, cells_ints, Sh.size, Sh.sizes, List.map_map, List.cons_append, List.nil_append, List.append_nil]
  rfl
end Go.Proofs.Ytmieikflcolbaaa
