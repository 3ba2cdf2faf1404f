/- The document's sameness of events. No condition. -/
import Derived.Test.YtmieikflcolbaaaRf
namespace Go.Proofs.Ytmieikflcolbaaa
open Go Go.Sy
set_option maxRecDepth 100000
set_option linter.unusedSimpArgs false
set_option linter.unusedVariables false
set_option maxHeartbeats 4000000
def letS : ByteArray := { data := #[100, 119, 99, 113, 118, 112, 111, 102, 97, 101, 116, 68, 87, 67, 80, 86, 71, 83, 73, 85] }
theorem letS_dec : ∀ k : Nat, k < 20 → Utf8.decode letS k = ((U1.getD k 0 : Nat), 1) := by decide +kernel
theorem U1_mem : ∀ k : Nat, k < 20 → U1.getD k 0 ∈ U1 := by decide
theorem U1_lt : ∀ c ∈ U1, c < 256 := by decide
theorem U1_all : ∀ i : Nat, i < 29 → (i ≠ 0 ∧ i ≠ 1 ∧ i ≠ 6 ∧ i ≠ 13 ∧ i ≠ 14 ∧ i ≠ 15 ∧ i ≠ 24 ∧ i ≠ 25 ∧ i ≠ 27) → ∃ j, j < 20 ∧ cel (U1.getD j 0) = i := by decide
theorem same_ne {a b : Evt} (ha : wf a) (hb : wf b) (h : ¬ a = b) : sameE a b = false := by
  cases hs : sameE a b
  · rfl
  · exact absurd ((same_iff ha hb).1 hs) h
theorem rsame_ok (a b : Evt) (ha : wf a) (hb : wf b) : Con Try.prog gl0 (fnv 12) [Ev a, Ev b] 0 [] (Ret (Bo (sameE a b))) := by
  have ga := fun c hc => get_ok a c hc ha.f (ha.u 26 (by simp))
  have gb := fun c hc => get_ok b c hc hb.f (hb.u 26 (by simp))
  have ne : ∀ i, ¬ a.1 i = b.1 i → sameE a b = false := fun i h => same_ne ha hb fun e => h (by rw [e])
  refine Con.of Try.ok12 (nt := 77) (res := [.tmp 4]) Try.mixed Try.func12 rfl rfl rfl rfl fun κ xc hκ => hκ.run 300 ?_
  simp (disch := omega) only [push_cast, simprocAttr, tec, lec, oec, oec2, ones_ec]
  refine Sat.less (Sat.loop (γ := Nat) (fun k => ([(7, .ptr 2 0 0 0), (4, Bo false), (3, .ptr 1 0 0 0), (2, .ptr 0 0 0 0)], [(2, .obj (.stringIter letS k)), (1, .own (ec b) 37), (0, .own (ec a) 37)], 3)) (fun k => 20 - k)
    (fun k => k ≤ 20 ∧ ∀ j, j < k → a.1 (cel (U1.getD j 0)) = b.1 (cel (U1.getD j 0))) ?round 0 ⟨by omega, fun j h => absurd h (by omega)⟩) (by repeat' (first | exact EnvSub.nil _ | exact HeapSub.nil _ | refine EnvSub.cons rfl ?_ | refine HeapSub.cons rfl ?_ | (refine EnvSub.cons (by simp [Env.get]; done) ?_) | (refine HeapSub.cons (by simp [Heap.get]; done) ?_))) (by repeat' (first | exact EnvSub.nil _ | exact HeapSub.nil _ | refine EnvSub.cons rfl ?_ | refine HeapSub.cons rfl ?_ | (refine EnvSub.cons (by simp [Env.get]; done) ?_) | (refine HeapSub.cons (by simp [Heap.get]; done) ?_)))
  case round =>
    rintro k ⟨hk, hl⟩ ih
    dsimp only at hk hl ih ⊢
    have hsz : letS.size = 20 := rfl
    by_cases h20 : k < 20
    · have hd := letS_dec k h20
      have hm := U1_mem k h20
      have hz := fun h => ih (k + 1) ⟨by omega, h⟩ (by omega)
      have hstep : a.1 (cel (U1.getD k 0)) = b.1 (cel (U1.getD k 0)) → ∀ j, j < k + 1 → a.1 (cel (U1.getD j 0)) = b.1 (cel (U1.getD j 0)) := fun h j hj => by
        by_cases e : j = k
        · rw [e]; exact h
        · exact hl j (by omega)
      have c1 := ga _ hm
      have c2 := gb _ hm
      have hn := ne (cel (U1.getD k 0))
      have hlt := U1_lt _ hm
      generalize U1.getD k 0 = c at *
      have hw : IntKind.u8.wrap (c : Int) = c := by rw [wrap_u8_mod]; omega
      have q1 : (k < 20) = True := by first | (simp only [eq_iff_iff, iff_true]; first | assumption | omega) | (simp; omega)
      refine hκ.runD 300 ?_
      simp (disch := omega) only [push_cast, simprocAttr, q1, hsz, hd, hw, tec, lec, oec, oec2, ones_ec]
      refine hκ.draw (.q 0 (.q 1 (.q 2 (.q 4 (.q 5 (.q 6 (.l 3 [4] (.l 7 [0] (.q 8 (.fin)))))))))) [0, 1, 2, 4, 5, 6, 8] (by kernel_rfl) (by kernel_rfl) rfl ?_
      simp (disch := omega) only [push_cast, simprocAttr, q1, hsz, hd, hw, tec, lec, oec, oec2, ones_ec]
      refine DCall.of (Does.ret hκ.hP hκ.hgl c1 ⟨trivial, by first | (simp [SV.bnd, SV.bndL]; done) | (simp [SV.bnd, SV.bndL, ec_bnd]; done), by first | (simp [SV.bnd, SV.bndL]; done) | (simp [SV.bnd, SV.bndL, ec_bnd]; done) | assumption⟩ ?_)
      simp (disch := omega) only [push_cast, simprocAttr, q1, hsz, hd, hw, tec, lec, oec, oec2, ones_ec]
      refine DCall.of (Does.ret hκ.hP hκ.hgl c2 ⟨trivial, by first | (simp [SV.bnd, SV.bndL]; done) | (simp [SV.bnd, SV.bndL, ec_bnd]; done), by first | (simp [SV.bnd, SV.bndL]; done) | (simp [SV.bnd, SV.bndL, ec_bnd]; done) | assumption⟩ ?_)
      simp (disch := omega) only [push_cast, simprocAttr, q1, hsz, hd, hw, tec, lec, oec, oec2, ones_ec]
      by_cases he : a.1 (cel c) = b.1 (cel c)
      · have hz := hz (hstep he)
        generalize a.1 (cel c) = x at *
        refine hκ.run 300 ?_
        simp (disch := omega) only [push_cast, simprocAttr, he, tec, lec, oec, oec2, ones_ec]
        exact hz.less (by repeat' (first | exact EnvSub.nil _ | exact HeapSub.nil _ | refine EnvSub.cons rfl ?_ | refine HeapSub.cons rfl ?_ | (refine EnvSub.cons (by simp [Env.get]; done) ?_) | (refine HeapSub.cons (by simp [Heap.get]; done) ?_))) (by repeat' (first | exact EnvSub.nil _ | exact HeapSub.nil _ | refine EnvSub.cons rfl ?_ | refine HeapSub.cons rfl ?_ | (refine EnvSub.cons (by simp [Env.get]; done) ?_) | (refine HeapSub.cons (by simp [Heap.get]; done) ?_)))
      · rw [hn he] at hκ
        generalize a.1 (cel c) = x at *
        generalize b.1 (cel c) = y at *
        refine hκ.run 300 ?_
        simp (disch := omega) only [push_cast, simprocAttr, he, tec, lec, oec, oec2, ones_ec]
        refine hκ.ret _ _ _ _ _ _ trivial rfl ?_
        exact .ret trivial
    · obtain rfl : k = 20 := by omega
      have q1 : (20 < 20) = False := by first | (simp only [eq_iff_iff, iff_false]; first | assumption | omega) | (simp; omega)
      have cx : ∀ x, cut (ec x) 0 1 = some [I (x.1 0)] := fun _ => rfl
      have c1 : ∀ x, cut (ec x) 1 1 = some [I (x.1 1)] := fun _ => rfl
      have c2 : ∀ x, cut (ec x) 15 1 = some [I (x.1 15)] := fun _ => rfl
      have c3 : ∀ x, cut (ec x) 13 2 = some [U (x.1 13), U (x.1 14)] := fun _ => rfl
      have c4 : ∀ x, cut (ec x) 24 2 = some [U (x.1 24), U (x.1 25)] := fun _ => rfl
      have c5 : ∀ x, cut (ec x) 6 1 = some [Is x.2.1] := fun _ => rfl
      have c6 : ∀ x, cut (ec x) 27 1 = some [Is x.2.2] := fun _ => rfl
      by_cases e0 : a.1 0 = b.1 0
      rotate_left
      · rw [ne 0 e0] at hκ
        refine hκ.run 300 ?_
        simp (disch := omega) only [push_cast, simprocAttr, q1, hsz, cx, c1, c2, c3, c4, c5, c6, e0]
        refine hκ.ret _ _ _ _ _ _ trivial rfl ?_
        exact .ret trivial
      by_cases e1 : a.1 1 = b.1 1
      rotate_left
      · rw [ne 1 e1] at hκ
        refine hκ.run 300 ?_
        simp (disch := omega) only [push_cast, simprocAttr, q1, hsz, cx, c1, c2, c3, c4, c5, c6, e0, e1]
        refine hκ.ret _ _ _ _ _ _ trivial rfl ?_
        exact .ret trivial
      by_cases e15 : a.1 15 = b.1 15
      rotate_left
      · rw [ne 15 e15] at hκ
        refine hκ.run 300 ?_
        simp (disch := omega) only [push_cast, simprocAttr, q1, hsz, cx, c1, c2, c3, c4, c5, c6, e0, e1, e15]
        refine hκ.ret _ _ _ _ _ _ trivial rfl ?_
        exact .ret trivial
      by_cases e13 : a.1 13 = b.1 13
      rotate_left
      · rw [ne 13 e13] at hκ
        refine hκ.run 300 ?_
        simp (disch := omega) only [push_cast, simprocAttr, q1, hsz, cx, c1, c2, c3, c4, c5, c6, e0, e1, e15, e13]
        refine hκ.ret _ _ _ _ _ _ trivial rfl ?_
        exact .ret trivial
      by_cases e14 : a.1 14 = b.1 14
      rotate_left
      · rw [ne 14 e14] at hκ
        refine hκ.run 300 ?_
        simp (disch := omega) only [push_cast, simprocAttr, q1, hsz, cx, c1, c2, c3, c4, c5, c6, e0, e1, e15, e13, e14]
        refine hκ.ret _ _ _ _ _ _ trivial rfl ?_
        exact .ret trivial
      by_cases e24 : a.1 24 = b.1 24
      rotate_left
      · rw [ne 24 e24] at hκ
        refine hκ.run 300 ?_
        simp (disch := omega) only [push_cast, simprocAttr, q1, hsz, cx, c1, c2, c3, c4, c5, c6, e0, e1, e15, e13, e14, e24]
        refine hκ.ret _ _ _ _ _ _ trivial rfl ?_
        exact .ret trivial
      by_cases e25 : a.1 25 = b.1 25
      rotate_left
      · rw [ne 25 e25] at hκ
        refine hκ.run 300 ?_
        simp (disch := omega) only [push_cast, simprocAttr, q1, hsz, cx, c1, c2, c3, c4, c5, c6, e0, e1, e15, e13, e14, e24, e25]
        refine hκ.ret _ _ _ _ _ _ trivial rfl ?_
        exact .ret trivial
      have k1 := sameInts_ok a.2.1 b.2.1 (by have := ha.nl; omega)
      have k2 := sameInts_ok a.2.2 b.2.2 (by have := ha.ml; omega)
      refine hκ.run 300 ?_
      simp (disch := omega) only [push_cast, simprocAttr, q1, hsz, cx, c1, c2, c3, c4, c5, c6, e0, e1, e15, e13, e14, e24, e25]
      refine Does.ret hκ.hP hκ.hgl k1 ⟨trivial, by first | (simp [SV.bnd, SV.bndL]; done) | (simp [SV.bnd, SV.bndL, ec_bnd]; done), by first | (simp [SV.bnd, SV.bndL]; done) | (simp [SV.bnd, SV.bndL, ec_bnd]; done) | assumption⟩ ?_
      by_cases l1 : a.2.1 = b.2.1
      · by_cases l2 : a.2.2 = b.2.2
        · have hab : a = b := evt_ext (fun i => by
            by_cases hi : i < 29 ∧ i ≠ 0 ∧ i ≠ 1 ∧ i ≠ 6 ∧ i ≠ 13 ∧ i ≠ 14 ∧ i ≠ 15 ∧ i ≠ 24 ∧ i ≠ 25 ∧ i ≠ 27
            · obtain ⟨j, hj, hj2⟩ := U1_all i hi.1 hi.2
              have := hl j hj
              rw [hj2] at this
              exact this
            · by_cases hz : i = 6 ∨ i = 27 ∨ 29 ≤ i
              · rw [ha.z i hz, hb.z i hz]
              · rcases (show i = 0 ∨ i = 1 ∨ i = 13 ∨ i = 14 ∨ i = 15 ∨ i = 24 ∨ i = 25 by omega) with rfl | rfl | rfl | rfl | rfl | rfl | rfl <;> assumption) (Prod.ext l1 l2)
          rw [(same_iff ha hb).2 hab] at hκ
          rw [decide_eq_true l2] at k2
          simp (disch := omega) only [push_cast, simprocAttr, l1, q1, hsz, cx, c1, c2, c3, c4, c5, c6, e0, e1, e15, e13, e14, e24, e25]
          refine hκ.run 300 ?_
          simp (disch := omega) only [push_cast, simprocAttr, q1, hsz, cx, c1, c2, c3, c4, c5, c6, e0, e1, e15, e13, e14, e24, e25]
          refine Does.ret hκ.hP hκ.hgl k2 ⟨trivial, by first | (simp [SV.bnd, SV.bndL]; done) | (simp [SV.bnd, SV.bndL, ec_bnd]; done), by first | (simp [SV.bnd, SV.bndL]; done) | (simp [SV.bnd, SV.bndL, ec_bnd]; done) | assumption⟩ ?_
          refine hκ.run 300 ?_
          simp (disch := omega) only [push_cast, simprocAttr, q1, hsz, cx, c1, c2, c3, c4, c5, c6, e0, e1, e15, e13, e14, e24, e25]
          refine hκ.ret _ _ _ _ _ _ trivial rfl ?_
          exact .ret trivial
        · rw [same_ne ha hb (fun e => l2 (by rw [e]))] at hκ
          rw [decide_eq_false l2] at k2
          simp (disch := omega) only [push_cast, simprocAttr, l1, q1, hsz, cx, c1, c2, c3, c4, c5, c6, e0, e1, e15, e13, e14, e24, e25]
          refine hκ.run 300 ?_
          simp (disch := omega) only [push_cast, simprocAttr, q1, hsz, cx, c1, c2, c3, c4, c5, c6, e0, e1, e15, e13, e14, e24, e25]
          refine Does.ret hκ.hP hκ.hgl k2 ⟨trivial, by first | (simp [SV.bnd, SV.bndL]; done) | (simp [SV.bnd, SV.bndL, ec_bnd]; done), by first | (simp [SV.bnd, SV.bndL]; done) | (simp [SV.bnd, SV.bndL, ec_bnd]; done) | assumption⟩ ?_
          refine hκ.run 300 ?_
          simp (disch := omega) only [push_cast, simprocAttr, q1, hsz, cx, c1, c2, c3, c4, c5, c6, e0, e1, e15, e13, e14, e24, e25]
          refine hκ.ret _ _ _ _ _ _ trivial rfl ?_
          exact .ret trivial
      · rw [same_ne ha hb (fun e => l1 (by rw [e]))] at hκ
        simp (disch := omega) only [push_cast, simprocAttr, l1, q1, hsz, cx, c1, c2, c3, c4, c5, c6, e0, e1, e15, e13, e14, e24, e25]
        refine hκ.run 300 ?_
        simp (disch := omega) only [push_cast, simprocAttr, q1, hsz, cx, c1, c2, c3, c4, c5, c6, e0, e1, e15, e13, e14, e24, e25]
        refine hκ.ret _ _ _ _ _ _ trivial rfl ?_
        exact .ret trivial
end Go.Proofs.Ytmieikflcolbaaa
