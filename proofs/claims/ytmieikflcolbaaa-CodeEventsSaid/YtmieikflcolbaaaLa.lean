/- CodeApart: the walk of the law. No condition. -/
import Derived.Test.YtmieikflcolbaaaWa
import Derived.Test.YtmieikflcolbaaaVh
namespace Go.Proofs.Ytmieikflcolbaaa
open Go Go.Sy
set_option maxRecDepth 100000
set_option linter.unusedSimpArgs false
set_option linter.unusedVariables false
set_option maxHeartbeats 4000000

/-- An event as an argument. -/
structure wf0 (a : Evt) : Prop where
  i : ∀ i, -2 ^ 63 ≤ a.1 i ∧ a.1 i < 2 ^ 63
  u : ∀ i, (i = 13 ∨ i = 14 ∨ i = 24 ∨ i = 25 ∨ i = 26) → 0 ≤ a.1 i ∧ a.1 i < 2 ^ 32
  f : a.1 5 = 0 ∨ a.1 5 = 1
  z : ∀ i, (i = 6 ∨ i = 27 ∨ 29 ≤ i) → a.1 i = 0
  n : ∀ x ∈ a.2.1, -2 ^ 63 ≤ x ∧ x < 2 ^ 63
  m : ∀ x ∈ a.2.2, -2 ^ 63 ≤ x ∧ x < 2 ^ 63
  nl : a.2.1.length < 2 ^ 46
  ml : a.2.2.length < 2 ^ 46
theorem wf_few {a : Evt} (h : wf0 a) : wf (few a) :=
  ⟨h.i, h.u, h.f, h.z, fun x hx => h.n x (List.mem_of_mem_take hx), fun x hx => h.m x (List.mem_of_mem_take hx), by show (a.2.1.take 33).length < _; rw [List.length_take]; omega, by show (a.2.2.take 33).length < _; rw [List.length_take]; omega⟩
theorem isB_Y {l : List Int} (h : isY l) : isB l := fun b hb => by have := h b hb; omega
theorem few_okw (a : Evt) (h : wf0 a) : Con Try.prog gl0 (fnv 13) [Ev a] 0 [] (Ret (Ev (few a))) := few_ok a ⟨h.nl, h.ml⟩
theorem same_okw (a b : Evt) (h : wf a) : Con Try.prog gl0 (fnv 16) [Ev a, Ev b] 0 [] (Ret (Bo (sameE a b))) := same_ok a b ⟨by have := h.nl; omega, by have := h.ml; omega⟩
theorem apart_law (x z : Evt) (hx : wf0 x) (hz : wf0 z) : Law Try.prog gl0 4 [Ev x, Ev z] := by
  have f1 := few_okw x hx
  have f2 := few_okw z hz
  have wa := wf_few hx
  have wc := wf_few hz
  generalize few x = a at *
  generalize few z = c at *
  have e1 := encode_ok a wa
  have e2 := encode_ok c wc
  have s1 := same_okw a c wa
  have b1 := bequal_ok (encB a) (encB c) (isB_Y (encB_Y a)) (isB_Y (encB_Y c))
  have p1 := prefix_ok (encB a) (encB c) (isB_Y (encB_Y a)) (isB_Y (encB_Y c))
  have p2 := prefix_ok (encB c) (encB a) (isB_Y (encB_Y c)) (isB_Y (encB_Y a))
  refine Law.of (nt := 55) (res := [.tmp 4]) Try.mixed Try.func4 rfl rfl rfl rfl fun κ xc hκ => hκ.run 300 ?_
  simp (disch := omega) only [push_cast, simprocAttr, tec, lec, oec, ones_ec]
  refine Does.ret hκ.hP hκ.hgl wakes_ok ⟨trivial, by first | (simp [SV.bnd, SV.bndL]; done) | (simp [SV.bnd, SV.bndL, ec_bnd]; done), by first | (simp [SV.bnd, SV.bndL]; done) | (simp [SV.bnd, SV.bndL, ec_bnd]; done) | assumption⟩ ?_
  refine hκ.runD 300 ?_
  simp (disch := omega) only [push_cast, simprocAttr, tec, lec, oec, ones_ec]
  apply Sat.join (α := Unit) (nx := 4) (dfs := []) (fun _ => True) (fun _ => ([(6, .ptr 3 0 0 0), (5, .ptr 2 0 0 0)], [(3, .own (ec c) 37), (2, .own (ec a) 37)]))
  · intro hj
    have hj := hj () trivial
    dsimp only at hj
    refine hκ.draw (.q 0 (.q 2 (.or (.m 1 [2] (.or (.m 3 [0] (.or (.m 4 [0, 2] (.l 5 [0, 2] (.l 6 [2] (.l 7 [] (.fin))))) (.m 5 [0, 2] (.l 4 [0, 2] (.l 6 [2] (.l 7 [] (.fin))))))) (.or (.m 4 [0, 2] (.or (.m 3 [0] (.l 5 [0, 2] (.l 6 [2] (.l 7 [] (.fin))))) (.m 5 [0, 2] (.l 3 [0] (.l 6 [2] (.l 7 [] (.fin))))))) (.m 5 [0, 2] (.or (.m 3 [0] (.l 4 [0, 2] (.l 6 [2] (.l 7 [] (.fin))))) (.m 4 [0, 2] (.l 3 [0] (.l 6 [2] (.l 7 [] (.fin)))))))))) (.or (.m 4 [0, 2] (.or (.m 1 [2] (.or (.m 3 [0] (.l 5 [0, 2] (.l 6 [2] (.l 7 [] (.fin))))) (.m 5 [0, 2] (.l 3 [0] (.l 6 [2] (.l 7 [] (.fin))))))) (.m 5 [0, 2] (.l 1 [2] (.l 3 [0] (.l 6 [2] (.l 7 [] (.fin)))))))) (.m 5 [0, 2] (.or (.m 1 [2] (.or (.m 3 [0] (.l 4 [0, 2] (.l 6 [2] (.l 7 [] (.fin))))) (.m 4 [0, 2] (.l 3 [0] (.l 6 [2] (.l 7 [] (.fin))))))) (.m 4 [0, 2] (.l 1 [2] (.l 3 [0] (.l 6 [2] (.l 7 [] (.fin)))))))))))) [0, 2] (by kernel_rfl) (by kernel_rfl) rfl ?_
    simp (disch := omega) only [push_cast, simprocAttr, tec, lec, oec, ones_ec]
    repeat' (refine And.intro ?_ ?_)
    all_goals
      refine DCall.of (Does.ret hκ.hP hκ.hgl f1 ⟨trivial, by first | (simp [SV.bnd, SV.bndL]; done) | (simp [SV.bnd, SV.bndL, ec_bnd]; done), by first | (simp [SV.bnd, SV.bndL]; done) | (simp [SV.bnd, SV.bndL, ec_bnd]; done) | assumption⟩ ?_)
      simp (disch := omega) only [push_cast, simprocAttr, tec, lec, oec, ones_ec]
    repeat' (refine And.intro ?_ ?_)
    all_goals
      refine DCall.of (Does.ret hκ.hP hκ.hgl f2 ⟨trivial, by first | (simp [SV.bnd, SV.bndL]; done) | (simp [SV.bnd, SV.bndL, ec_bnd]; done), by first | (simp [SV.bnd, SV.bndL]; done) | (simp [SV.bnd, SV.bndL, ec_bnd]; done) | assumption⟩ ?_)
      simp (disch := omega) only [push_cast, simprocAttr, tec, lec, oec, ones_ec]
    repeat' (refine And.intro ?_ ?_)
    all_goals first
      | (refine hj.less ?_ ?_ <;> (repeat' (first | exact EnvSub.nil _ | exact HeapSub.nil _ | refine EnvSub.cons rfl ?_ | refine HeapSub.cons rfl ?_)) <;> done)
      | (refine Sat.via (fun i => if i = 2 then 3 else if i = 3 then 2 else i) (hj) ?_ ?_ ?_ ?_ ?_; (focus (intro i j; (repeat (first | omega | split)); done)); (focus ((repeat' (first | exact EnvVia.nil | refine EnvVia.cons (by first | trivial | decide | (simp [SV.bnd, SV.bndL]; done)) rfl ?_)); done)); (focus ((repeat' (first | exact HeapVia.nil | refine HeapVia.cons (by decide) (by first | trivial | exact Blk.bnd_own0 (by assumption) | (simp [Blk.bnd, SV.bnd, SV.bndL]; done) | exact bndL_mapV _ _ _ | exact LR.bnd (by rw [l2]; simp [bndE, SV.bnd, SV.bndL]) (by rw [l6]; decide)) (by first | (rw [Blk.ren_own0 (by assumption)]; rfl) | rfl | (simp only [Blk.ren, renL_mapV]; rfl) | (rw [LR.ren (by rw [l2] <;> rfl) (by rw [l6] <;> rfl)]; rfl)) ?_)); done)); (focus (exact ⟨by have := hκ.hm; (try dsimp only at this); (first | done | omega), fun i hi => by have := hκ.hm; (try dsimp only at this); (first | omega | (dsimp only; omega) | (rw [if_neg (by omega)]))⟩)); (focus (exact ⟨by simp, rfl⟩)))
  intro _ _
  dsimp only
  refine hκ.run 300 ?_
  simp (disch := omega) only [push_cast, simprocAttr, tec, lec, oec, ones_ec]
  rcases encE_or wa with ha | ha
  · rcases encE_or wc with hc | hc
    · rw [ha] at e1
      rw [hc] at e2
      refine Does.ret hκ.hP hκ.hgl (e1) ⟨trivial, by first | (simp [SV.bnd, SV.bndL]; done) | (simp [SV.bnd, SV.bndL, ec_bnd]; done), by first | (simp [SV.bnd, SV.bndL]; done) | (simp [SV.bnd, SV.bndL, ec_bnd]; done) | assumption⟩ ?_
      refine hκ.run 300 ?_
      simp (disch := omega) only [push_cast, simprocAttr, tec, lec, oec, ones_ec]
      refine Does.ret hκ.hP hκ.hgl e2 ⟨trivial, by first | (simp [SV.bnd, SV.bndL]; done) | (simp [SV.bnd, SV.bndL, ec_bnd]; done), by first | (simp [SV.bnd, SV.bndL]; done) | (simp [SV.bnd, SV.bndL, ec_bnd]; done) | assumption⟩ ?_
      refine hκ.runD 300 ?_
      simp (disch := omega) only [push_cast, simprocAttr, tec, lec, oec, ones_ec]
      have hs : (decide (encB a = encB c)) = sameE a c := by
        cases h : sameE a c
        · apply decide_eq_false
          intro e
          have g1 := pD_enc0 wa ha
          rw [e, pD_enc0 wc hc] at g1
          have := (same_iff wa wc).2 (Pr.ok.inj g1).1.symm
          rw [h] at this
          cases this
        · rw [(same_iff wa wc).1 h]
          exact decide_eq_true rfl
      rw [hs] at b1
      refine hκ.draw (.q 0 (.q 1 (.q 3 (.q 4 (.l 2 [3, 4] (.l 5 [] (.q 6 (.fin)))))))) [0, 1, 3, 4, 6] (by kernel_rfl) (by kernel_rfl) rfl ?_
      simp (disch := omega) only [push_cast, simprocAttr, tec, lec, oec, ones_ec]
      refine DCall.of (Does.ret hκ.hP hκ.hgl b1 ⟨trivial, by first | (simp [SV.bnd, SV.bndL]; done) | (simp [SV.bnd, SV.bndL, ec_bnd]; done), by first | (simp [SV.bnd, SV.bndL]; done) | (simp [SV.bnd, SV.bndL, ec_bnd]; done) | assumption⟩ ?_)
      simp (disch := omega) only [push_cast, simprocAttr, tec, lec, oec, ones_ec]
      refine DCall.of (Does.ret hκ.hP hκ.hgl s1 ⟨trivial, by first | (simp [SV.bnd, SV.bndL]; done) | (simp [SV.bnd, SV.bndL, ec_bnd]; done), by first | (simp [SV.bnd, SV.bndL]; done) | (simp [SV.bnd, SV.bndL, ec_bnd]; done) | assumption⟩ ?_)
      cases h : sameE a c
      · rw [h] at s1
        simp (disch := omega) only [push_cast, simprocAttr, tec, lec, oec, ones_ec]
        refine hκ.run 300 ?_
        simp (disch := omega) only [push_cast, simprocAttr, tec, lec, oec, ones_ec]
        refine Does.ret hκ.hP hκ.hgl (s1) ⟨trivial, by first | (simp [SV.bnd, SV.bndL]; done) | (simp [SV.bnd, SV.bndL, ec_bnd]; done), by first | (simp [SV.bnd, SV.bndL]; done) | (simp [SV.bnd, SV.bndL, ec_bnd]; done) | assumption⟩ ?_
        refine hκ.run 300 ?_
        simp (disch := omega) only [push_cast, simprocAttr, tec, lec, oec, ones_ec]
        have hn : ∀ p q : Evt, wf p → wf q → encE p = 0 → encE q = 0 → p ≠ q → decide ((encB q).length ≤ (encB p).length ∧ (encB p).take (encB q).length = encB q) = false := fun p q hp hq h1 h2 h3 => decide_eq_false fun h => h3 (apart hp hq h1 h2 h)
        have hne : a ≠ c := fun e => by rw [(same_iff wa wc).2 e] at h; cases h
        rw [hn a c wa wc ha hc hne] at p1
        rw [hn c a wc wa hc ha hne.symm] at p2
        refine Does.ret hκ.hP hκ.hgl (p1) ⟨trivial, by first | (simp [SV.bnd, SV.bndL]; done) | (simp [SV.bnd, SV.bndL, ec_bnd]; done), by first | (simp [SV.bnd, SV.bndL]; done) | (simp [SV.bnd, SV.bndL, ec_bnd]; done) | assumption⟩ ?_
        refine hκ.run 300 ?_
        simp (disch := omega) only [push_cast, simprocAttr, tec, lec, oec, ones_ec]
        refine Does.ret hκ.hP hκ.hgl (p2) ⟨trivial, by first | (simp [SV.bnd, SV.bndL]; done) | (simp [SV.bnd, SV.bndL, ec_bnd]; done), by first | (simp [SV.bnd, SV.bndL]; done) | (simp [SV.bnd, SV.bndL, ec_bnd]; done) | assumption⟩ ?_
        refine hκ.run 300 ?_
        simp (disch := omega) only [push_cast, simprocAttr, tec, lec, oec, ones_ec]
        refine hκ.ret _ _ _ _ _ _ trivial rfl ?_
        rfl
      · rw [h] at s1
        simp (disch := omega) only [push_cast, simprocAttr, tec, lec, oec, ones_ec]
        refine hκ.run 300 ?_
        simp (disch := omega) only [push_cast, simprocAttr, tec, lec, oec, ones_ec]
        refine Does.ret hκ.hP hκ.hgl (s1) ⟨trivial, by first | (simp [SV.bnd, SV.bndL]; done) | (simp [SV.bnd, SV.bndL, ec_bnd]; done), by first | (simp [SV.bnd, SV.bndL]; done) | (simp [SV.bnd, SV.bndL, ec_bnd]; done) | assumption⟩ ?_
        refine hκ.run 300 ?_
        simp (disch := omega) only [push_cast, simprocAttr, tec, lec, oec, ones_ec]
        refine hκ.ret _ _ _ _ _ _ trivial rfl ?_
        rfl
    · rw [ha] at e1
      rw [hc] at e2
      refine Does.ret hκ.hP hκ.hgl (e1) ⟨trivial, by first | (simp [SV.bnd, SV.bndL]; done) | (simp [SV.bnd, SV.bndL, ec_bnd]; done), by first | (simp [SV.bnd, SV.bndL]; done) | (simp [SV.bnd, SV.bndL, ec_bnd]; done) | assumption⟩ ?_
      refine hκ.run 300 ?_
      simp (disch := omega) only [push_cast, simprocAttr, tec, lec, oec, ones_ec]
      refine Does.ret hκ.hP hκ.hgl (e2) ⟨trivial, by first | (simp [SV.bnd, SV.bndL]; done) | (simp [SV.bnd, SV.bndL, ec_bnd]; done), by first | (simp [SV.bnd, SV.bndL]; done) | (simp [SV.bnd, SV.bndL, ec_bnd]; done) | assumption⟩ ?_
      refine hκ.run 300 ?_
      simp (disch := omega) only [push_cast, simprocAttr, tec, lec, oec, ones_ec]
      refine hκ.ret _ _ _ _ _ _ trivial rfl ?_
      rfl
  · rw [ha] at e1
    refine Does.ret hκ.hP hκ.hgl (e1) ⟨trivial, by first | (simp [SV.bnd, SV.bndL]; done) | (simp [SV.bnd, SV.bndL, ec_bnd]; done), by first | (simp [SV.bnd, SV.bndL]; done) | (simp [SV.bnd, SV.bndL, ec_bnd]; done) | assumption⟩ ?_
    refine hκ.run 300 ?_
    simp (disch := omega) only [push_cast, simprocAttr, tec, lec, oec, ones_ec]
    refine Does.ret hκ.hP hκ.hgl (e2) ⟨trivial, by first | (simp [SV.bnd, SV.bndL]; done) | (simp [SV.bnd, SV.bndL, ec_bnd]; done), by first | (simp [SV.bnd, SV.bndL]; done) | (simp [SV.bnd, SV.bndL, ec_bnd]; done) | assumption⟩ ?_
    refine hκ.run 300 ?_
    simp (disch := omega) only [push_cast, simprocAttr, tec, lec, oec, ones_ec]
    refine hκ.ret _ _ _ _ _ _ trivial rfl ?_
    rfl
end Go.Proofs.Ytmieikflcolbaaa
