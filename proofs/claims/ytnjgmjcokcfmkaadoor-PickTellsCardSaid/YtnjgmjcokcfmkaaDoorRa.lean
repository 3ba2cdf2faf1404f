/- The document's On, At, Whole. No condition. -/
import Derived.Test.YtnjgmjcokcfmkaaDoorQo
namespace Go.Proofs.YtnjgmjcokcfmkaaDoor
open Go Go.Sy
set_option maxRecDepth 100000
set_option linter.unusedSimpArgs false
set_option linter.unusedVariables false
set_option maxHeartbeats 8000000

theorem rOn_ok (l : List (Int × Int)) (v : Int) (hn : l.length < 2 ^ 46) : Con Tryd.prog gl0 (fnv 36) [Ps l, I v] 0 [] (Ret (.tup [I ((onP l v).getD 0), Bo (onP l v).isSome])) := by
  have hdef : onP l v = (l.find? fun p => decide (p.1 = v)).map fun p => p.2 := rfl
  rw [hdef]
  clear hdef
  refine Con.of Tryd.ok36 (nt := 25) (res := [.tmp 4, .tmp 5]) Tryd.mixed Tryd.func36 rfl rfl rfl rfl fun κ xc hκ => hκ.run 300 ?_
  simp (disch := omega) only [push_cast, simprocAttr, eP]
  refine Sat.less (Sat.loop (γ := Nat) (fun k => ([(6, I k), (0, Ps l), (1, I v)], [], 0)) (fun k => l.length - k) (fun k => k ≤ l.length ∧ (l.drop k).find? (fun p => decide (p.1 = v)) = l.find? fun p => decide (p.1 = v)) ?round 0 ⟨Nat.zero_le _, rfl⟩) (by repeat' (first | exact EnvSub.nil _ | exact HeapSub.nil _ | refine EnvSub.cons rfl ?_ | refine HeapSub.cons rfl ?_ | (refine EnvSub.cons (by simp [Env.get]; done) ?_) | (refine HeapSub.cons (by simp [Heap.get]; done) ?_))) (by repeat' (first | exact EnvSub.nil _ | exact HeapSub.nil _ | refine EnvSub.cons rfl ?_ | refine HeapSub.cons rfl ?_ | (refine EnvSub.cons (by simp [Env.get]; done) ?_) | (refine HeapSub.cons (by simp [Heap.get]; done) ?_)))
  case round =>
    rintro k ⟨hk, hj⟩ ih
    dsimp only at hk hj ih ⊢
    by_cases hkl : k < l.length
    · have q1 : ((k : Int) < l.length) = True := by first | (simp only [eq_iff_iff, iff_true]; first | assumption | omega) | (simp; omega)
      have gk : (List.map eP l).getD k [] = eP (l.getD k default) := getD_map _ _ _ hkl
      rw [drop_findP hkl] at hj
      have hz := fun h => ih (k + 1) ⟨by omega, h⟩ (by omega)
      clear ih
      generalize l.getD k default = p at *
      rw [eP] at gk
      by_cases e1 : p.1 = v
      · rw [if_pos (decide_eq_true e1)] at hj
        rw [← hj] at hκ
        have et : (p.1 = v) = True := by first | (simp only [eq_iff_iff, iff_true]; first | assumption | omega) | (simp; omega)
        refine hκ.run 300 ?_
        simp (disch := omega) only [push_cast, simprocAttr, q1, gk, et]
        (repeat (refine ⟨by first | omega | (refine ⟨?_, ?_⟩ <;> omega) | trivial | (simp; done) | decide +kernel, fun _ => ?_⟩))
        refine hκ.ret _ _ _ _ _ _ trivial rfl ?_
        exact .ret (by simp [SV.bnd, SV.bndL])
      · rw [if_neg (by simpa using e1)] at hj
        have hy := hz hj
        have et : (p.1 = v) = False := by first | (simp only [eq_iff_iff, iff_false]; first | assumption | omega) | (simp; omega)
        refine hκ.run 300 ?_
        simp (disch := omega) only [push_cast, simprocAttr, q1, gk, et]
        (repeat (refine ⟨by first | omega | (refine ⟨?_, ?_⟩ <;> omega) | trivial | (simp; done) | decide +kernel, fun _ => ?_⟩))
        exact hy.less (by repeat' (first | exact EnvSub.nil _ | exact HeapSub.nil _ | refine EnvSub.cons rfl ?_ | refine HeapSub.cons rfl ?_ | (refine EnvSub.cons (by simp [Env.get]; done) ?_) | (refine HeapSub.cons (by simp [Heap.get]; done) ?_))) (by repeat' (first | exact EnvSub.nil _ | exact HeapSub.nil _ | refine EnvSub.cons rfl ?_ | refine HeapSub.cons rfl ?_ | (refine EnvSub.cons (by simp [Env.get]; done) ?_) | (refine HeapSub.cons (by simp [Heap.get]; done) ?_)))
    · obtain rfl : k = l.length := by omega
      rw [List.drop_length, List.find?_nil] at hj
      rw [← hj] at hκ
      have q1 : ((l.length : Int) < l.length) = False := by first | (simp only [eq_iff_iff, iff_false]; first | assumption | omega) | (simp; omega)
      refine hκ.run 300 ?_
      simp (disch := omega) only [push_cast, simprocAttr, q1]
      refine hκ.ret _ _ _ _ _ _ trivial rfl ?_
      exact .ret (by simp [SV.bnd, SV.bndL])
theorem rAt_ok (l : List (Int × Int)) (v : Int) (hn : l.length < 2 ^ 46) : Con Tryd.prog gl0 (fnv 37) [Ps l, I v] 0 [] (Ret (.tup [I ((atP2 l v).getD 0), Bo (atP2 l v).isSome])) := by
  have hdef : atP2 l v = (l.find? fun p => decide (p.2 = v)).map fun p => p.1 := rfl
  rw [hdef]
  clear hdef
  refine Con.of Tryd.ok37 (nt := 25) (res := [.tmp 4, .tmp 5]) Tryd.mixed Tryd.func37 rfl rfl rfl rfl fun κ xc hκ => hκ.run 300 ?_
  simp (disch := omega) only [push_cast, simprocAttr, eP]
  refine Sat.less (Sat.loop (γ := Nat) (fun k => ([(6, I k), (0, Ps l), (1, I v)], [], 0)) (fun k => l.length - k) (fun k => k ≤ l.length ∧ (l.drop k).find? (fun p => decide (p.2 = v)) = l.find? fun p => decide (p.2 = v)) ?round 0 ⟨Nat.zero_le _, rfl⟩) (by repeat' (first | exact EnvSub.nil _ | exact HeapSub.nil _ | refine EnvSub.cons rfl ?_ | refine HeapSub.cons rfl ?_ | (refine EnvSub.cons (by simp [Env.get]; done) ?_) | (refine HeapSub.cons (by simp [Heap.get]; done) ?_))) (by repeat' (first | exact EnvSub.nil _ | exact HeapSub.nil _ | refine EnvSub.cons rfl ?_ | refine HeapSub.cons rfl ?_ | (refine EnvSub.cons (by simp [Env.get]; done) ?_) | (refine HeapSub.cons (by simp [Heap.get]; done) ?_)))
  case round =>
    rintro k ⟨hk, hj⟩ ih
    dsimp only at hk hj ih ⊢
    by_cases hkl : k < l.length
    · have q1 : ((k : Int) < l.length) = True := by first | (simp only [eq_iff_iff, iff_true]; first | assumption | omega) | (simp; omega)
      have gk : (List.map eP l).getD k [] = eP (l.getD k default) := getD_map _ _ _ hkl
      rw [drop_findP hkl] at hj
      have hz := fun h => ih (k + 1) ⟨by omega, h⟩ (by omega)
      clear ih
      generalize l.getD k default = p at *
      rw [eP] at gk
      by_cases e1 : p.2 = v
      · rw [if_pos (decide_eq_true e1)] at hj
        rw [← hj] at hκ
        have et : (p.2 = v) = True := by first | (simp only [eq_iff_iff, iff_true]; first | assumption | omega) | (simp; omega)
        refine hκ.run 300 ?_
        simp (disch := omega) only [push_cast, simprocAttr, q1, gk, et]
        (repeat (refine ⟨by first | omega | (refine ⟨?_, ?_⟩ <;> omega) | trivial | (simp; done) | decide +kernel, fun _ => ?_⟩))
        refine hκ.ret _ _ _ _ _ _ trivial rfl ?_
        exact .ret (by simp [SV.bnd, SV.bndL])
      · rw [if_neg (by simpa using e1)] at hj
        have hy := hz hj
        have et : (p.2 = v) = False := by first | (simp only [eq_iff_iff, iff_false]; first | assumption | omega) | (simp; omega)
        refine hκ.run 300 ?_
        simp (disch := omega) only [push_cast, simprocAttr, q1, gk, et]
        (repeat (refine ⟨by first | omega | (refine ⟨?_, ?_⟩ <;> omega) | trivial | (simp; done) | decide +kernel, fun _ => ?_⟩))
        exact hy.less (by repeat' (first | exact EnvSub.nil _ | exact HeapSub.nil _ | refine EnvSub.cons rfl ?_ | refine HeapSub.cons rfl ?_ | (refine EnvSub.cons (by simp [Env.get]; done) ?_) | (refine HeapSub.cons (by simp [Heap.get]; done) ?_))) (by repeat' (first | exact EnvSub.nil _ | exact HeapSub.nil _ | refine EnvSub.cons rfl ?_ | refine HeapSub.cons rfl ?_ | (refine EnvSub.cons (by simp [Env.get]; done) ?_) | (refine HeapSub.cons (by simp [Heap.get]; done) ?_)))
    · obtain rfl : k = l.length := by omega
      rw [List.drop_length, List.find?_nil] at hj
      rw [← hj] at hκ
      have q1 : ((l.length : Int) < l.length) = False := by first | (simp only [eq_iff_iff, iff_false]; first | assumption | omega) | (simp; omega)
      refine hκ.run 300 ?_
      simp (disch := omega) only [push_cast, simprocAttr, q1]
      refine hκ.ret _ _ _ _ _ _ trivial rfl ?_
      exact .ret (by simp [SV.bnd, SV.bndL])
theorem rWhole_ok (l : List En) (P : List (Int × Int)) (hl : ∀ x ∈ l, inE0 x) (hn : l.length < 2 ^ 46) (hn2 : P.length < 2 ^ 46) : Con Tryd.prog gl0 (fnv 39) [Ens l, Ps P] 0 [] (Ret (Bo (wholeB l P))) := by
  refine Con.of Tryd.ok39 (nt := 46) (res := [.tmp 4]) Tryd.mixed Tryd.func39 rfl rfl rfl rfl fun κ xc hκ => hκ.run 300 ?_
  simp (disch := omega) only [push_cast, simprocAttr]
  refine Sat.less (Sat.loop (γ := Nat) (fun k => ([(5, I k), (0, Ens l), (1, Ps P)], [], 0)) (fun k => l.length - k) (fun k => k ≤ l.length ∧ wholeB (l.drop k) P = wholeB l P) ?round 0 ⟨Nat.zero_le _, rfl⟩) (by repeat' (first | exact EnvSub.nil _ | exact HeapSub.nil _ | refine EnvSub.cons rfl ?_ | refine HeapSub.cons rfl ?_ | (refine EnvSub.cons (by simp [Env.get]; done) ?_) | (refine HeapSub.cons (by simp [Heap.get]; done) ?_))) (by repeat' (first | exact EnvSub.nil _ | exact HeapSub.nil _ | refine EnvSub.cons rfl ?_ | refine HeapSub.cons rfl ?_ | (refine EnvSub.cons (by simp [Env.get]; done) ?_) | (refine HeapSub.cons (by simp [Heap.get]; done) ?_)))
  case round =>
    rintro k ⟨hk, ho⟩ ih
    dsimp only at hk ho ih ⊢
    by_cases hkl : k < l.length
    · have q1 : ((k : Int) < l.length) = True := by first | (simp only [eq_iff_iff, iff_true]; first | assumption | omega) | (simp; omega)
      have gk : (List.map eEn l).getD k [] = eEn (l.getD k default) := getD_map _ _ _ hkl
      have hd : l.drop k = l.getD k default :: l.drop (k + 1) := by
        rw [List.drop_eq_getElem_cons hkl, List.getD, List.getElem?_eq_getElem hkl]; rfl
      have hcons : wholeB (l.getD k default :: l.drop (k + 1)) P = (!(decide (0 < cntP P (l.getD k default).ms) && decide (cntP P (l.getD k default).ms < (l.getD k default).ms.length)) && wholeB (l.drop (k + 1)) P) := rfl
      rw [hd, hcons] at ho
      have hx := (hl _ (getD_mem' hkl)).2
      have hz := fun h => ih (k + 1) ⟨by omega, h⟩ (by omega)
      clear ih hcons
      generalize l.getD k default = x at *
      have cm : cut (eEn x) 0 1 = some [Is x.ms] := rfl
      have t1 : takeN (eEn x) 1 = some [Is x.ms] := rfl
      have e00 : (0 ≤ (k : Int)) = True := by first | (simp only [eq_iff_iff, iff_true]; first | assumption | omega) | (simp; omega)
      refine hκ.runD 300 ?_
      simp (disch := omega) only [push_cast, simprocAttr, q1, gk, cm, t1, e00]
      refine Sat.less (Sat.loop (γ := Nat) (fun j => ([(8, I j), (6, Bo (decide (0 < cntP P (x.ms.take j)))), (7, Bo (decide (cntP P (x.ms.take j) = j))), (5, I k), (0, Ens l), (1, Ps P)], [], 0)) (fun j => x.ms.length - j) (fun j => j ≤ x.ms.length) ?inner 0 (Nat.zero_le _)) (by repeat' (first | exact EnvSub.nil _ | exact HeapSub.nil _ | refine EnvSub.cons rfl ?_ | refine HeapSub.cons rfl ?_ | (refine EnvSub.cons (by simp [Env.get]; done) ?_) | (refine HeapSub.cons (by simp [Heap.get]; done) ?_))) (by repeat' (first | exact EnvSub.nil _ | exact HeapSub.nil _ | refine EnvSub.cons rfl ?_ | refine HeapSub.cons rfl ?_ | (refine EnvSub.cons (by simp [Env.get]; done) ?_) | (refine HeapSub.cons (by simp [Heap.get]; done) ?_)))
      case inner =>
        intro j hj ih2
        dsimp only at hj ih2 ⊢
        by_cases hjl : j < x.ms.length
        · have q2 : ((j : Int) < x.ms.length) = True := by first | (simp only [eq_iff_iff, iff_true]; first | assumption | omega) | (simp; omega)
          have e0 : (0 ≤ (j : Int)) = True := by first | (simp only [eq_iff_iff, iff_true]; first | assumption | omega) | (simp; omega)
          have gj : (List.map (eI .i64) x.ms).getD j [] = eI .i64 (x.ms.getD j default) := getD_map _ _ _ hjl
          have cj := rOn_ok P (x.ms.getD j default) hn2
          have hs : x.ms.take (j + 1) = x.ms.take j ++ [x.ms.getD j default] := by
            rw [List.take_succ_eq_append_getElem hjl, List.getD, List.getElem?_eq_getElem hjl]; rfl
          have hz2 := ih2 (j + 1) (by omega) (by omega)
          rw [hs, cnt_snoc] at hz2
          have hc := cntP_le P (x.ms.take j)
          rw [List.length_take] at hc
          clear ih2 hz
          generalize cntP P (x.ms.take j) = n at *
          generalize x.ms.getD j default = v at *
          cases hv : onP P v with
          | none =>
            rw [hv] at cj hz2
            dsimp only [Option.getD_none, Option.isSome_none] at cj
            rw [if_neg (by simp), decide_eq_false (show ¬ n = j + 1 by omega)] at hz2
            refine hκ.run 300 ?_
            simp (disch := omega) only [push_cast, simprocAttr, q1, q2, gk, gj, e0, e00, cm, t1]
            refine Does.ret hκ.hP hκ.hgl cj ⟨trivial, by first | (simp [SV.bnd, SV.bndL]; done) | (simp [SV.bnd, SV.bndL, ec_bnd]; done), by first | (simp [SV.bnd, SV.bndL]; done) | (simp [SV.bnd, SV.bndL, ec_bnd]; done) | assumption⟩ ?_
            refine hκ.run 300 ?_
            simp (disch := omega) only [push_cast, simprocAttr, q1, q2, gk, gj, e0, e00, cm, t1]
            exact hz2.less (by repeat' (first | exact EnvSub.nil _ | exact HeapSub.nil _ | refine EnvSub.cons rfl ?_ | refine HeapSub.cons rfl ?_ | (refine EnvSub.cons (by simp [Env.get]; done) ?_) | (refine HeapSub.cons (by simp [Heap.get]; done) ?_))) (by repeat' (first | exact EnvSub.nil _ | exact HeapSub.nil _ | refine EnvSub.cons rfl ?_ | refine HeapSub.cons rfl ?_ | (refine EnvSub.cons (by simp [Env.get]; done) ?_) | (refine HeapSub.cons (by simp [Heap.get]; done) ?_)))
          | some c =>
            rw [hv] at cj hz2
            dsimp only [Option.getD_some, Option.isSome_some] at cj
            rw [if_pos (by simp), decide_eq_true (show 0 < n + 1 by omega), show decide (n + 1 = j + 1) = decide (n = j) from decide_eq_decide.2 (by omega)] at hz2
            refine hκ.run 300 ?_
            simp (disch := omega) only [push_cast, simprocAttr, q1, q2, gk, gj, e0, e00, cm, t1]
            refine Does.ret hκ.hP hκ.hgl cj ⟨trivial, by first | (simp [SV.bnd, SV.bndL]; done) | (simp [SV.bnd, SV.bndL, ec_bnd]; done), by first | (simp [SV.bnd, SV.bndL]; done) | (simp [SV.bnd, SV.bndL, ec_bnd]; done) | assumption⟩ ?_
            refine hκ.run 300 ?_
            simp (disch := omega) only [push_cast, simprocAttr, q1, q2, gk, gj, e0, e00, cm, t1]
            exact hz2.less (by repeat' (first | exact EnvSub.nil _ | exact HeapSub.nil _ | refine EnvSub.cons rfl ?_ | refine HeapSub.cons rfl ?_ | (refine EnvSub.cons (by simp [Env.get]; done) ?_) | (refine HeapSub.cons (by simp [Heap.get]; done) ?_))) (by repeat' (first | exact EnvSub.nil _ | exact HeapSub.nil _ | refine EnvSub.cons rfl ?_ | refine HeapSub.cons rfl ?_ | (refine EnvSub.cons (by simp [Env.get]; done) ?_) | (refine HeapSub.cons (by simp [Heap.get]; done) ?_)))
        · obtain rfl : j = x.ms.length := by omega
          rw [List.take_length]
          have q2 : ((x.ms.length : Int) < x.ms.length) = False := by first | (simp only [eq_iff_iff, iff_false]; first | assumption | omega) | (simp; omega)
          have hc := cntP_le P x.ms
          generalize cntP P x.ms = n at *
          by_cases h1 : 0 < n
          · rw [decide_eq_true h1] at ho ⊢
            by_cases h2 : n < x.ms.length
            · rw [decide_eq_true h2] at ho
              rw [← ho] at hκ
              rw [decide_eq_false (show ¬ n = x.ms.length by omega)]
              refine hκ.run 300 ?_
              simp (disch := omega) only [push_cast, simprocAttr, q1, q2, gk, e00, cm, t1]
              refine hκ.ret _ _ _ _ _ _ trivial rfl ?_
              exact .ret trivial
            · rw [decide_eq_false h2] at ho
              have hy := hz ho
              rw [decide_eq_true (show n = x.ms.length by omega)]
              refine hκ.run 300 ?_
              simp (disch := omega) only [push_cast, simprocAttr, q1, q2, gk, e00, cm, t1]
              exact hy.less (by repeat' (first | exact EnvSub.nil _ | exact HeapSub.nil _ | refine EnvSub.cons rfl ?_ | refine HeapSub.cons rfl ?_ | (refine EnvSub.cons (by simp [Env.get]; done) ?_) | (refine HeapSub.cons (by simp [Heap.get]; done) ?_))) (by repeat' (first | exact EnvSub.nil _ | exact HeapSub.nil _ | refine EnvSub.cons rfl ?_ | refine HeapSub.cons rfl ?_ | (refine EnvSub.cons (by simp [Env.get]; done) ?_) | (refine HeapSub.cons (by simp [Heap.get]; done) ?_)))
          · rw [decide_eq_false h1] at ho ⊢
            have hy := hz ho
            refine hκ.run 300 ?_
            simp (disch := omega) only [push_cast, simprocAttr, q1, q2, gk, e00, cm, t1]
            exact hy.less (by repeat' (first | exact EnvSub.nil _ | exact HeapSub.nil _ | refine EnvSub.cons rfl ?_ | refine HeapSub.cons rfl ?_ | (refine EnvSub.cons (by simp [Env.get]; done) ?_) | (refine HeapSub.cons (by simp [Heap.get]; done) ?_))) (by repeat' (first | exact EnvSub.nil _ | exact HeapSub.nil _ | refine EnvSub.cons rfl ?_ | refine HeapSub.cons rfl ?_ | (refine EnvSub.cons (by simp [Env.get]; done) ?_) | (refine HeapSub.cons (by simp [Heap.get]; done) ?_)))
    · obtain rfl : k = l.length := by omega
      rw [List.drop_length, show wholeB [] P = true from rfl] at ho
      rw [← ho] at hκ
      have q1 : ((l.length : Int) < l.length) = False := by first | (simp only [eq_iff_iff, iff_false]; first | assumption | omega) | (simp; omega)
      refine hκ.run 300 ?_
      simp (disch := omega) only [push_cast, simprocAttr, q1]
      refine hκ.ret _ _ _ _ _ _ trivial rfl ?_
      exact .ret trivial
end Go.Proofs.YtnjgmjcokcfmkaaDoor
