/- Walks of the reference's words on wishes. No condition. -/
import Derived.Test.YtnjgmjcokcfmkaaDoorR7
import Derived.Test.YtnjgmjcokcfmkaaDoorPx
namespace Go.Proofs.YtnjgmjcokcfmkaaDoor
open Go Go.Sy
set_option maxRecDepth 100000
set_option linter.unusedSimpArgs false
set_option linter.unusedVariables false

/-- Do two wishes clash? -/
def clash (w u : Wi) : Bool := decide (u.v = w.v) || (decide (0 ≤ w.a) && decide (u.a = w.a))
theorem okB_clash (pre : List Wi) (w : Wi) : okB pre w = (ok1 w && !pre.any (clash w)) := by
  have key : pre.any (clash w) = ((pre.any fun u => decide (u.v = w.v)) || (decide (0 ≤ w.a) && pre.any fun u => decide (u.a = w.a))) := by
    induction pre with
    | nil => simp
    | cons u pre ih =>
      simp only [List.any_cons, ih, clash]
      generalize decide (u.v = w.v) = a
      generalize decide (0 ≤ w.a) = b
      generalize decide (u.a = w.a) = c
      generalize (pre.any fun u => decide (u.v = w.v)) = d
      generalize (pre.any fun u => decide (u.a = w.a)) = e
      revert a b c d e; decide
  rw [key, okB]
  generalize ok1 w = a
  generalize decide (0 ≤ w.a) = b
  generalize (pre.any fun u => decide (u.v = w.v)) = d
  generalize (pre.any fun u => decide (u.a = w.a)) = e
  revert a b d e; decide
theorem any_take_succ {p : Wi → Bool} {l : List Wi} {k : Nat} (h : k < l.length) : (l.take (k + 1)).any p = ((l.take k).any p || p (l.getD k default)) := by
  rw [List.take_succ_eq_append_getElem h, List.any_append]
  simp [List.getD, h]
theorem any_take_le {p : Wi → Bool} {l : List Wi} {k i : Nat} (h : k ≤ i) (hk : (l.take i).any p = false) : (l.take k).any p = false := by
  rw [List.any_eq_false] at hk ⊢
  intro x hx
  exact hk x (List.take_subset_take_left l h hx)

theorem rwright_ok (l : List Wi) (hl : ∀ w ∈ l, inW w) (hn : l.length < 2 ^ 40) : Con Tryd.prog gl0 (fnv 45) [Ws l] 0 [] (Ret (Bo (okWs [] l))) := by
  refine Con.of Tryd.ok45 (nt := 68) (res := [.tmp 2]) Tryd.mixed Tryd.func45 rfl rfl rfl rfl fun κ xc hκ => hκ.run 300 ?_
  simp (disch := omega) only [push_cast, simprocAttr, eW]
  refine Sat.less (Sat.loop (γ := Nat) (fun i => ([(3, I i), (0, Ws l)], [], 0)) (fun i => l.length - i)
    (fun i => i ≤ l.length ∧ okWs (l.take i) (l.drop i) = okWs [] l) ?round 0 ⟨Nat.zero_le _, rfl⟩) (by repeat' (first | exact EnvSub.nil _ | exact HeapSub.nil _ | refine EnvSub.cons rfl ?_ | refine HeapSub.cons rfl ?_ | (refine EnvSub.cons (by simp [Env.get]; done) ?_) | (refine HeapSub.cons (by simp [Heap.get]; done) ?_))) (by repeat' (first | exact EnvSub.nil _ | exact HeapSub.nil _ | refine EnvSub.cons rfl ?_ | refine HeapSub.cons rfl ?_ | (refine EnvSub.cons (by simp [Env.get]; done) ?_) | (refine HeapSub.cons (by simp [Heap.get]; done) ?_)))
  case round =>
    rintro i ⟨hi, hl1⟩ ih
    dsimp only at hl1 ih ⊢
    refine hκ.run 300 ?_
    simp (disch := omega) only [push_cast, simprocAttr, eW]
    refine OutOK_fork (fun h => ?_) (fun h => ?_) <;> try simp only [Bool.not_true, Bool.not_false, decide_eq_true_eq, decide_eq_false_iff_not, Bool.not_eq_true', Bool.not_eq_false', Bool.and_eq_true, Bool.or_eq_false_iff, Bool.or_eq_true, Bool.and_eq_false_iff] at h
    · simp (disch := omega) only [push_cast, simprocAttr, eW]
      (repeat (refine ⟨by first | omega | (refine ⟨?_, ?_⟩ <;> omega) | trivial | (simp; done) | decide +kernel, fun _ => ?_⟩))
      have hd : l.drop i = l.getD i default :: l.drop (i + 1) := by
        rw [List.drop_eq_getElem_cons (by omega), List.getD, List.getElem?_eq_getElem (by omega)]; rfl
      have ht : l.take (i + 1) = l.take i ++ [l.getD i default] := by
        rw [List.take_succ_eq_append_getElem (by omega), List.getD, List.getElem?_eq_getElem (by omega)]; rfl
      have hz := fun h => ih (i + 1) ⟨by omega, h⟩ (by omega)
      rw [hd, okWs] at hl1
      rw [ht] at hz
      generalize hw : l.getD i default = w at hl1 hz ⊢
      have bad : ∀ {H : Heap} {nx : Nat}, okB (l.take i) w = false → Post 0 (Ret (Bo (okWs [] l))) (Bo false) H nx := fun h => by
        rw [← hl1, h]
        exact .ret trivial
      (first | refine OutOK_guard (fun h => ?_) (fun h => ?_) | refine GF.of (fun h => ?_) (fun h => ?_)) <;> try simp only [Bool.not_true, Bool.not_false, decide_eq_true_eq, decide_eq_false_iff_not, Bool.not_eq_true', Bool.not_eq_false', Bool.and_eq_true, Bool.or_eq_false_iff, Bool.or_eq_true, Bool.and_eq_false_iff] at h
      rotate_left
      · simp (disch := omega) only [push_cast, simprocAttr, eW]
        refine hκ.ret _ _ _ _ _ _ trivial rfl ?_
        exact bad (by simp [okB, ok1]; omega)
      simp (disch := omega) only [push_cast, simprocAttr, eW]
      (first | refine OutOK_guard (fun h => ?_) (fun h => ?_) | refine GF.of (fun h => ?_) (fun h => ?_)) <;> try simp only [Bool.not_true, Bool.not_false, decide_eq_true_eq, decide_eq_false_iff_not, Bool.not_eq_true', Bool.not_eq_false', Bool.and_eq_true, Bool.or_eq_false_iff, Bool.or_eq_true, Bool.and_eq_false_iff] at h
      rotate_left
      · simp (disch := omega) only [push_cast, simprocAttr, eW]
        refine hκ.ret _ _ _ _ _ _ trivial rfl ?_
        exact bad (by simp [okB, ok1]; omega)
      simp (disch := omega) only [push_cast, simprocAttr, eW]
      (first | refine OutOK_guard (fun h => ?_) (fun h => ?_) | refine GF.of (fun h => ?_) (fun h => ?_)) <;> try simp only [Bool.not_true, Bool.not_false, decide_eq_true_eq, decide_eq_false_iff_not, Bool.not_eq_true', Bool.not_eq_false', Bool.and_eq_true, Bool.or_eq_false_iff, Bool.or_eq_true, Bool.and_eq_false_iff] at h
      rotate_left
      · simp (disch := omega) only [push_cast, simprocAttr, eW]
        refine hκ.ret _ _ _ _ _ _ trivial rfl ?_
        exact bad (by simp [okB, ok1]; omega)
      simp (disch := omega) only [push_cast, simprocAttr, eW]
      (first | refine OutOK_guard (fun h => ?_) (fun h => ?_) | refine GF.of (fun h => ?_) (fun h => ?_)) <;> try simp only [Bool.not_true, Bool.not_false, decide_eq_true_eq, decide_eq_false_iff_not, Bool.not_eq_true', Bool.not_eq_false', Bool.and_eq_true, Bool.or_eq_false_iff, Bool.or_eq_true, Bool.and_eq_false_iff] at h
      rotate_left
      · simp (disch := omega) only [push_cast, simprocAttr, eW]
        refine hκ.ret _ _ _ _ _ _ trivial rfl ?_
        exact bad (by simp [okB, ok1]; omega)
      simp (disch := omega) only [push_cast, simprocAttr, eW]
      refine Does.ret hκ.hP hκ.hgl (rmright_ok w.m) ⟨trivial, by first | (simp [SV.bnd, SV.bndL]; done) | (simp [SV.bnd, SV.bndL, ec_bnd]; done), by first | (simp [SV.bnd, SV.bndL]; done) | (simp [SV.bnd, SV.bndL, ec_bnd]; done) | assumption⟩ ?_
      cases hk : okM w.m
      · refine hκ.run 300 ?_
        simp (disch := omega) only [push_cast, simprocAttr, eW]
        refine hκ.ret _ _ _ _ _ _ trivial rfl ?_
        exact bad (by simp [okB, ok1, hk])
      refine hκ.run 300 ?_
      simp (disch := omega) only [push_cast, simprocAttr, eW]
      have hok1 : ok1 w = true := by simp [ok1, hk]; omega
      refine Sat.less (Sat.loop (γ := Nat) (fun k => ([(5, I k), (3, I i), (4, .ptr 0 0 0 0), (0, Ws l)], [(0, .own [I w.v, I w.a, S w.m.1, S w.m.2] 45)], 1)) (fun k => i - k)
        (fun k => k ≤ i ∧ (l.take k).any (clash w) = false) ?round2 0 ⟨Nat.zero_le _, by simp⟩) (by repeat' (first | exact EnvSub.nil _ | exact HeapSub.nil _ | refine EnvSub.cons rfl ?_ | refine HeapSub.cons rfl ?_ | (refine EnvSub.cons (by simp [Env.get]; done) ?_) | (refine HeapSub.cons (by simp [Heap.get]; done) ?_))) (by repeat' (first | exact EnvSub.nil _ | exact HeapSub.nil _ | refine EnvSub.cons rfl ?_ | refine HeapSub.cons rfl ?_ | (refine EnvSub.cons (by simp [Env.get]; done) ?_) | (refine HeapSub.cons (by simp [Heap.get]; done) ?_)))
      case round2 =>
        rintro k ⟨hk2, hc⟩ ih2
        dsimp only at hc ih2 ⊢
        refine hκ.run 9 ?_
        simp (disch := omega) only [push_cast, simprocAttr, eW]
        refine OutOK_fork (fun h => ?_) (fun h => ?_) <;> try simp only [Bool.not_true, Bool.not_false, decide_eq_true_eq, decide_eq_false_iff_not, Bool.not_eq_true', Bool.not_eq_false', Bool.and_eq_true, Bool.or_eq_false_iff, Bool.or_eq_true, Bool.and_eq_false_iff] at h
        · have hs := any_take_succ (p := clash w) (l := l) (k := k) (by omega)
          rw [hc, Bool.false_or] at hs
          have hyes : clash w (l.getD k default) = true → okB (l.take i) w = false := fun h => by
            rw [okB_clash, hok1]
            have : (l.take i).any (clash w) = true := by
              cases hf : (l.take i).any (clash w)
              · rw [any_take_le (k := k + 1) (by omega) hf] at hs; rw [← hs] at h; cases h
              · rfl
            rw [this]; rfl
          by_cases e1 : (l.getD k default).v = w.v
          · simp (disch := omega) only [push_cast, simprocAttr, eW]
            refine hκ.run 300 ?_
            simp (disch := omega) only [push_cast, simprocAttr, eW]
            refine hκ.draw (.q 0 (.q 1 (.q 2 (.q 3 (.q 4 (.q 5 (.q 6 (.q 7 (.q 8 (.q 9 (.q 10 (.q 11 (.q 12 (.q 13 (.q 14 (.q 15 (.q 16 (.q 17 (.q 18 (.q 19 (.q 20 (.q 21 (.q 22 (.fin)))))))))))))))))))))))) [0, 1, 2, 3, 4, 5, 6, 7, 8, 9, 10, 11, 12, 13, 14, 15, 16, 17, 18, 19, 20, 21, 22] (by kernel_rfl) (by kernel_rfl) rfl ?_
            simp (disch := omega) only [push_cast, simprocAttr, e1, eW]
            (repeat (refine ⟨by first | omega | (refine ⟨?_, ?_⟩ <;> omega) | trivial | (simp; done) | decide +kernel, fun _ => ?_⟩))
            refine hκ.run 300 ?_
            simp (disch := omega) only [push_cast, simprocAttr, eW]
            refine hκ.ret _ _ _ _ _ _ trivial rfl ?_
            exact bad (hyes (by simp only [clash, e1, decide_true, Bool.true_or]))
          · by_cases e2 : 0 ≤ w.a
            · by_cases e3 : (l.getD k default).a = w.a
              · simp (disch := omega) only [push_cast, simprocAttr, eW]
                refine hκ.run 300 ?_
                simp (disch := omega) only [push_cast, simprocAttr, eW]
                refine hκ.draw (.q 0 (.q 1 (.q 2 (.q 3 (.q 4 (.q 5 (.q 6 (.q 7 (.q 8 (.q 9 (.q 10 (.q 11 (.q 12 (.q 13 (.q 14 (.q 15 (.q 16 (.q 17 (.q 18 (.q 19 (.q 20 (.q 21 (.q 22 (.fin)))))))))))))))))))))))) [0, 1, 2, 3, 4, 5, 6, 7, 8, 9, 10, 11, 12, 13, 14, 15, 16, 17, 18, 19, 20, 21, 22] (by kernel_rfl) (by kernel_rfl) rfl ?_
                simp (disch := omega) only [push_cast, simprocAttr, e1, e2, e3, eW]
                (repeat (refine ⟨by first | omega | (refine ⟨?_, ?_⟩ <;> omega) | trivial | (simp; done) | decide +kernel, fun _ => ?_⟩))
                refine hκ.run 300 ?_
                simp (disch := omega) only [push_cast, simprocAttr, eW]
                refine hκ.ret _ _ _ _ _ _ trivial rfl ?_
                exact bad (hyes (by simp only [clash, e2, e3, decide_true, Bool.or_true, Bool.and_self]))
              · simp (disch := omega) only [push_cast, simprocAttr, eW]
                refine hκ.run 300 ?_
                simp (disch := omega) only [push_cast, simprocAttr, eW]
                refine hκ.draw (.q 0 (.q 1 (.q 2 (.q 3 (.q 4 (.q 5 (.q 6 (.q 7 (.q 8 (.q 9 (.q 10 (.q 11 (.q 12 (.q 13 (.q 14 (.q 15 (.q 16 (.q 17 (.q 18 (.q 19 (.q 20 (.q 21 (.q 22 (.fin)))))))))))))))))))))))) [0, 1, 2, 3, 4, 5, 6, 7, 8, 9, 10, 11, 12, 13, 14, 15, 16, 17, 18, 19, 20, 21, 22] (by kernel_rfl) (by kernel_rfl) rfl ?_
                simp (disch := omega) only [push_cast, simprocAttr, e1, e2, e3, eW]
                (repeat (refine ⟨by first | omega | (refine ⟨?_, ?_⟩ <;> omega) | trivial | (simp; done) | decide +kernel, fun _ => ?_⟩))
                refine hκ.run 300 ?_
                simp (disch := omega) only [push_cast, simprocAttr, eW]
                exact (ih2 (k + 1) ⟨by omega, by rw [hs]; simp only [clash, e1, e3, decide_false, Bool.false_or, Bool.and_false]⟩ (by omega)).less (by repeat' (first | exact EnvSub.nil _ | exact HeapSub.nil _ | refine EnvSub.cons rfl ?_ | refine HeapSub.cons rfl ?_ | (refine EnvSub.cons (by simp [Env.get]; done) ?_) | (refine HeapSub.cons (by simp [Heap.get]; done) ?_))) (by repeat' (first | exact EnvSub.nil _ | exact HeapSub.nil _ | refine EnvSub.cons rfl ?_ | refine HeapSub.cons rfl ?_ | (refine EnvSub.cons (by simp [Env.get]; done) ?_) | (refine HeapSub.cons (by simp [Heap.get]; done) ?_)))
            · simp (disch := omega) only [push_cast, simprocAttr, eW]
              refine hκ.run 300 ?_
              simp (disch := omega) only [push_cast, simprocAttr, eW]
              refine hκ.draw (.q 0 (.q 1 (.q 2 (.q 3 (.q 4 (.q 5 (.q 6 (.q 7 (.q 8 (.q 9 (.q 10 (.q 11 (.q 12 (.q 13 (.q 14 (.q 15 (.q 16 (.q 17 (.q 18 (.q 19 (.q 20 (.q 21 (.q 22 (.fin)))))))))))))))))))))))) [0, 1, 2, 3, 4, 5, 6, 7, 8, 9, 10, 11, 12, 13, 14, 15, 16, 17, 18, 19, 20, 21, 22] (by kernel_rfl) (by kernel_rfl) rfl ?_
              simp (disch := omega) only [push_cast, simprocAttr, e1, e2, eW]
              (repeat (refine ⟨by first | omega | (refine ⟨?_, ?_⟩ <;> omega) | trivial | (simp; done) | decide +kernel, fun _ => ?_⟩))
              refine hκ.run 300 ?_
              simp (disch := omega) only [push_cast, simprocAttr, eW]
              exact (ih2 (k + 1) ⟨by omega, by rw [hs]; simp only [clash, e1, e2, decide_false, Bool.false_or, Bool.false_and]⟩ (by omega)).less (by repeat' (first | exact EnvSub.nil _ | exact HeapSub.nil _ | refine EnvSub.cons rfl ?_ | refine HeapSub.cons rfl ?_ | (refine EnvSub.cons (by simp [Env.get]; done) ?_) | (refine HeapSub.cons (by simp [Heap.get]; done) ?_))) (by repeat' (first | exact EnvSub.nil _ | exact HeapSub.nil _ | refine EnvSub.cons rfl ?_ | refine HeapSub.cons rfl ?_ | (refine EnvSub.cons (by simp [Env.get]; done) ?_) | (refine HeapSub.cons (by simp [Heap.get]; done) ?_)))
        · simp (disch := omega) only [push_cast, simprocAttr, eW]
          obtain rfl : k = i := by omega
          refine hκ.run 300 ?_
          simp (disch := omega) only [push_cast, simprocAttr, eW]
          have hz := hz (by rw [← hl1, okB_clash, hok1, hc]; rfl)
          refine Sat.via (fun i => i) (hz) (by intro i j; (repeat (first | omega | split))) (by repeat' (first | exact EnvVia.nil | refine EnvVia.cons (by first | trivial | decide | (simp [SV.bnd, SV.bndL]; done)) rfl ?_)) (by repeat' (first | exact HeapVia.nil | refine HeapVia.cons (by decide) (by first | trivial | exact Blk.bnd_own0 (by assumption) | (simp [Blk.bnd, SV.bnd, SV.bndL]; done) | exact bndL_mapV _ _ _ | exact LR.bnd (by rw [l2]; simp [bndE, SV.bnd, SV.bndL]) (by rw [l6]; decide)) (by first | (rw [Blk.ren_own0 (by assumption)]; rfl) | rfl | (simp only [Blk.ren, renL_mapV]; rfl) | (rw [LR.ren (by rw [l2] <;> rfl) (by rw [l6] <;> rfl)]; rfl)) ?_)) ⟨by have := hκ.hm; (try dsimp only at this); (first | done | omega), fun i hi => by have := hκ.hm; (try dsimp only at this); (first | omega | (dsimp only; omega) | (rw [if_neg (by omega)]))⟩ ⟨by simp, rfl⟩
    · simp (disch := omega) only [push_cast, simprocAttr, eW]
      obtain rfl : i = l.length := by omega
      refine hκ.ret _ _ _ _ _ _ trivial rfl ?_
      rw [← hl1, List.drop_length, okWs]
      exact .ret trivial
end Go.Proofs.YtnjgmjcokcfmkaaDoor
