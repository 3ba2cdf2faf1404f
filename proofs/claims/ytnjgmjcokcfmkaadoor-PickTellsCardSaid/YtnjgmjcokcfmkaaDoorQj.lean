/- The document's word on what may be picked from. No condition. -/
import Derived.Test.YtnjgmjcokcfmkaaDoorQg
import Derived.Test.YtnjgmjcokcfmkaaDoorR13
namespace Go.Proofs.YtnjgmjcokcfmkaaDoor
open Go Go.Sy
set_option maxRecDepth 100000
set_option linter.unusedSimpArgs false
set_option linter.unusedVariables false
set_option maxHeartbeats 8000000

theorem mem_any {l : List Int} {v : Int} : decide (v ∈ l) = l.any fun u => decide (u = v) := by
  rw [Bool.eq_iff_iff, decide_eq_true_eq, List.any_eq_true]
  constructor
  · intro h; exact ⟨v, h, decide_eq_true rfl⟩
  · rintro ⟨u, hu, e⟩; exact of_decide_eq_true e ▸ hu
theorem rError_ok (l : List En) (w : List Wi) (hl : ∀ x ∈ l, inE x) (hw : ∀ x ∈ w, inW x) (hn : l.length < 2 ^ 34) (hn2 : w.length < 2 ^ 34) : Con Tryd.prog gl0 (fnv 15) [Ens l, Ws w] 0 [] (Ret (I (pickE l w))) := by
  have hp : pickE l w = if (okL [] l && (okV (allM l) [] w && decide (w.length = (allM l).length))) = true then (if okWs [] w = true then 0 else 230) else 290 := rfl
  have cP := rwright_ok w hw (by omega)
  rw [hp]
  clear hp
  refine Con.of Tryd.ok15 (nt := 118) (res := [.tmp 4]) Tryd.mixed Tryd.func15 rfl rfl rfl rfl fun κ xc hκ => hκ.runD 300 ?_
  simp (disch := omega) only [push_cast, simprocAttr]
  refine hκ.runA 2 300 ?_
  simp (disch := omega) only [push_cast, simprocAttr]
  refine Sat.nilRow 5 1 3 rfl ?_
  refine hκ.run 300 ?_
  simp (disch := omega) only [push_cast, simprocAttr]
  refine Sat.less (Sat.loop (γ := Nat × Nat) (fun g => ([(6, I g.1), (5, .sl 0 1 0 (allM (l.take g.1)).length g.2), (0, Ens l), (1, Ws w)], [(0, .row 1 g.2 3 ((allM (l.take g.1)).map (eI .i64)))], 1)) (fun g => l.length - g.1)
    (fun g => g.1 ≤ l.length ∧ okL (allM (l.take g.1)) (l.drop g.1) = okL [] l ∧ (allM (l.take g.1)).length ≤ g.2 ∧ (allM (l.take g.1)).length ≤ 8 * g.1) ?round (0, 0) ⟨Nat.zero_le _, rfl, Nat.le_refl _, Nat.zero_le _⟩) (by repeat' (first | exact EnvSub.nil _ | exact HeapSub.nil _ | refine EnvSub.cons rfl ?_ | refine HeapSub.cons rfl ?_ | (refine EnvSub.cons (by simp [Env.get]; done) ?_) | (refine HeapSub.cons (by simp [Heap.get]; done) ?_))) (by repeat' (first | exact EnvSub.nil _ | exact HeapSub.nil _ | refine EnvSub.cons rfl ?_ | refine HeapSub.cons rfl ?_ | (refine EnvSub.cons (by simp [Env.get]; done) ?_) | (refine HeapSub.cons (by simp [Heap.get]; done) ?_)))
  case round =>
    rintro ⟨k, cp⟩ ⟨hk, ho, hcp, hal⟩ ih
    dsimp only at hk ho hcp hal ih ⊢
    by_cases hkl : k < l.length
    · have q1 : ((k : Int) < l.length) = True := by first | (simp only [eq_iff_iff, iff_true]; first | assumption | omega) | (simp; omega)
      have e00 : (0 ≤ (k : Int)) = True := by first | (simp only [eq_iff_iff, iff_true]; first | assumption | omega) | (simp; omega)
      have gk : (List.map eEn l).getD k [] = eEn (l.getD k default) := getD_map _ _ _ hkl
      have hd : l.drop k = l.getD k default :: l.drop (k + 1) := by
        rw [List.drop_eq_getElem_cons hkl, List.getD, List.getElem?_eq_getElem hkl]; rfl
      have ht : l.take (k + 1) = l.take k ++ [l.getD k default] := by
        rw [List.take_succ_eq_append_getElem hkl, List.getD, List.getElem?_eq_getElem hkl]; rfl
      have hx := hl _ (getD_mem' hkl)
      rw [hd, okL] at ho
      have hz := fun c h1 h2 h3 => ih (k + 1, c) ⟨by omega, h1, h2, h3⟩ (by dsimp only; omega)
      dsimp only at hz
      rw [ht, allM_snoc] at hz
      clear ih hd ht
      generalize l.getD k default = x at *
      generalize allM (l.take k) = all at *
      generalize l.drop (k + 1) = rest at *
      have cm : cut (eEn x) 0 1 = some [Is x.ms] := rfl
      have le : (eEn x).length = 6 := rfl
      by_cases hlen : 1 ≤ x.ms.length ∧ x.ms.length ≤ 8
      · have q2 : ((x.ms.length : Int) < 1) = False := by first | (simp only [eq_iff_iff, iff_false]; first | assumption | omega) | (simp; omega)
        have q3 : (8 < (x.ms.length : Int)) = False := by first | (simp only [eq_iff_iff, iff_false]; first | assumption | omega) | (simp; omega)
        have hox : okX all x = okMs all [] x.ms := by rw [okX, decide_eq_true hlen, Bool.true_and]
        refine hκ.runD 300 ?_
        simp (disch := omega) only [push_cast, simprocAttr, q1, gk, cm, le, q2, q3, e00]
        refine Sat.less (Sat.loop (γ := Nat × Nat) (fun g => ([(8, I g.1), (7, Is x.ms), (6, I k), (5, .sl 0 1 0 (all ++ x.ms.take g.1).length g.2), (0, Ens l), (1, Ws w)], [(0, .row 1 g.2 3 ((all ++ x.ms.take g.1).map (eI .i64)))], 1)) (fun g => x.ms.length - g.1)
          (fun g => g.1 ≤ x.ms.length ∧ okMs all (x.ms.take g.1) (x.ms.drop g.1) = okMs all [] x.ms ∧ (all ++ x.ms.take g.1).length ≤ g.2) ?inner (0, cp) ⟨Nat.zero_le _, rfl, by simpa using hcp⟩) ?sub1 ?sub2
        case inner =>
          rintro ⟨j, cj⟩ ⟨hj, hoj, hcj⟩ ih2
          dsimp only at hj hoj hcj ih2 ⊢
          by_cases hjl : j < x.ms.length
          · have q4 : ((j : Int) < x.ms.length) = True := by first | (simp only [eq_iff_iff, iff_true]; first | assumption | omega) | (simp; omega)
            have e0 : (0 ≤ (j : Int)) = True := by first | (simp only [eq_iff_iff, iff_true]; first | assumption | omega) | (simp; omega)
            have gj : (List.map (eI .i64) x.ms).getD j [] = eI .i64 (x.ms.getD j default) := getD_map _ _ _ hjl
            have gj1 : 0 < j → (List.map (eI .i64) x.ms).getD (j - 1) [] = eI .i64 (x.ms.getD (j - 1) default) := fun h => getD_map _ _ _ (by omega)
            have hdj : x.ms.drop j = x.ms.getD j default :: x.ms.drop (j + 1) := by
              rw [List.drop_eq_getElem_cons hjl, List.getD, List.getElem?_eq_getElem hjl]; rfl
            have htj : x.ms.take (j + 1) = x.ms.take j ++ [x.ms.getD j default] := by
              rw [List.take_succ_eq_append_getElem hjl, List.getD, List.getElem?_eq_getElem hjl]; rfl
            have hin := hx.1 _ (getD_mem' hjl)
            have hlast : 0 < j → (x.ms.take j).getD ((x.ms.take j).length - 1) default = x.ms.getD (j - 1) default := fun h => by
              rw [List.length_take, Nat.min_eq_left hj, List.getD, List.getD, List.getElem?_take_of_lt (by omega)]
            rw [hdj, okMs, ok1M] at hoj
            have hy := fun u h1 h2 => ih2 (j + 1, u) ⟨by omega, h1, h2⟩ (by dsimp only; omega)
            dsimp only at hy
            rw [htj, ← List.append_assoc] at hy
            have hpl : (x.ms.take j).length = j := by rw [List.length_take]; omega
            rw [hpl] at hoj hlast
            clear ih2 hdj htj
            generalize x.ms.getD j default = v at *
            generalize x.ms.getD (j - 1) default = pv at *
            generalize x.ms.drop (j + 1) = ms2 at *
            generalize x.ms.take j = pre at *
            have hj1 : ((j : Int) - 1).toNat = j - 1 := by omega
            have bad : ok1M all pre v = false → okL [] l = false := fun h => by
              rw [← ho, hox, ← hoj]
              rw [ok1M, hpl] at h
              rw [h, Bool.false_and, Bool.false_and]
            rw [ok1M, hpl] at bad
            by_cases b1 : v < 1
            · rw [bad (by rw [decide_eq_false (by omega), Bool.false_and]), Bool.false_and, if_neg (by decide)] at hκ
              have z1 : (v < 1) = True := by first | (simp only [eq_iff_iff, iff_true]; first | assumption | omega) | (simp; omega)
              refine hκ.runD 300 ?_
              simp (disch := omega) only [push_cast, simprocAttr, q4, gj, cm, le, z1, e0]
              refine hκ.draw (.q 0 (.q 1 (.q 2 (.q 3 (.q 4 (.q 5 (.q 6 (.q 7 (.q 8 (.q 9 (.q 10 (.q 11 (.q 12 (.q 13 (.q 14 (.q 15 (.q 16 (.q 17 (.q 18 (.q 19 (.q 20 (.q 21 (.q 22 (.q 23 (.q 24 (.q 25 (.q 26 (.q 27 (.q 28 (.q 29 (.q 30 (.q 31 (.q 32 (.q 33 (.l 34 [3, 9, 20, 24] (.q 35 (.fin))))))))))))))))))))))))))))))))))))) [0, 1, 2, 3, 4, 5, 6, 7, 8, 9, 10, 11, 12, 13, 14, 15, 16, 17, 18, 19, 20, 21, 22, 23, 24, 25, 26, 27, 28, 29, 30, 31, 32, 33, 35] (by kernel_rfl) (by kernel_rfl) rfl ?_
              simp (disch := omega) only [push_cast, simprocAttr, q4, gj, cm, le, z1, e0]
              refine hκ.runD 300 ?_
              simp (disch := omega) only [push_cast, simprocAttr, q4, gj, cm, le, z1, e0]
              refine hκ.ret _ _ _ _ _ _ trivial rfl ?_
              exact .ret trivial
            have z1 : (v < 1) = False := by first | (simp only [eq_iff_iff, iff_false]; first | assumption | omega) | (simp; omega)
            by_cases b2 : 16 < v
            · rw [bad (by rw [decide_eq_false (by omega), Bool.false_and]), Bool.false_and, if_neg (by decide)] at hκ
              have z2 : (16 < v) = True := by first | (simp only [eq_iff_iff, iff_true]; first | assumption | omega) | (simp; omega)
              refine hκ.runD 300 ?_
              simp (disch := omega) only [push_cast, simprocAttr, q4, gj, cm, le, z1, z2, e0]
              refine hκ.draw (.q 0 (.q 1 (.q 2 (.q 3 (.q 4 (.q 5 (.q 6 (.q 7 (.q 8 (.q 9 (.q 10 (.q 11 (.q 12 (.q 13 (.q 14 (.q 15 (.q 16 (.q 17 (.q 18 (.q 19 (.q 20 (.q 21 (.q 22 (.q 23 (.q 24 (.q 25 (.q 26 (.q 27 (.q 28 (.q 29 (.q 30 (.q 31 (.q 32 (.q 33 (.l 34 [3, 9, 20, 24] (.q 35 (.fin))))))))))))))))))))))))))))))))))))) [0, 1, 2, 3, 4, 5, 6, 7, 8, 9, 10, 11, 12, 13, 14, 15, 16, 17, 18, 19, 20, 21, 22, 23, 24, 25, 26, 27, 28, 29, 30, 31, 32, 33, 35] (by kernel_rfl) (by kernel_rfl) rfl ?_
              simp (disch := omega) only [push_cast, simprocAttr, q4, gj, cm, le, z1, z2, e0]
              refine hκ.runD 300 ?_
              simp (disch := omega) only [push_cast, simprocAttr, q4, gj, cm, le, z1, z2, e0]
              refine hκ.ret _ _ _ _ _ _ trivial rfl ?_
              exact .ret trivial
            have z2 : (16 < v) = False := by first | (simp only [eq_iff_iff, iff_false]; first | assumption | omega) | (simp; omega)
            have hc : (decide (1 ≤ v ∧ v ≤ 16)) = true := decide_eq_true ⟨by omega, by omega⟩
            rw [hc, Bool.true_and] at hoj bad
            have hlap : (all ++ pre).length = all.length + j := by rw [List.length_append, hpl]
            have et : List.take (all ++ pre).length (List.map (eI .i64) (all ++ pre)) = List.map (eI .i64) (all ++ pre) := List.take_of_length_le (by simp)
            have ca := has19_ok (all ++ pre) v (by omega)
            rw [mem_any] at ca
            by_cases b4 : 0 < j ∧ v ≤ pv
            · obtain ⟨b5, b6⟩ := b4
              have gj1 := gj1 b5
              have z6 : ((0 : Int) ≤ (j : Int) - 1) = True := by first | (simp only [eq_iff_iff, iff_true]; first | assumption | omega) | (simp; omega)
              have z7 : ((j : Int) - 1 < (x.ms.length : Int)) = True := by first | (simp only [eq_iff_iff, iff_true]; first | assumption | omega) | (simp; omega)
              rw [bad (by rw [hlast b5, decide_eq_true b5, decide_eq_true b6]; simp), Bool.false_and, if_neg (by decide)] at hκ
              have z4 : ((0 : Int) < j) = True := by first | (simp only [eq_iff_iff, iff_true]; first | assumption | omega) | (simp; omega)
              have z5 : (v ≤ pv) = True := by first | (simp only [eq_iff_iff, iff_true]; first | assumption | omega) | (simp; omega)
              refine hκ.runD 300 ?_
              simp (disch := omega) only [push_cast, simprocAttr, q4, gj, cm, le, z1, z2, z4, z5, e0, hj1, gj1, z6, z7]
              refine hκ.draw (.q 0 (.q 1 (.q 2 (.q 3 (.q 4 (.q 5 (.q 6 (.q 7 (.q 8 (.q 9 (.q 10 (.q 11 (.q 12 (.q 13 (.q 14 (.q 15 (.q 16 (.q 17 (.q 18 (.q 19 (.q 20 (.q 21 (.q 22 (.q 23 (.q 24 (.q 25 (.q 26 (.q 27 (.q 28 (.q 29 (.q 30 (.q 31 (.q 32 (.q 33 (.l 34 [3, 9, 20, 24] (.q 35 (.fin))))))))))))))))))))))))))))))))))))) [0, 1, 2, 3, 4, 5, 6, 7, 8, 9, 10, 11, 12, 13, 14, 15, 16, 17, 18, 19, 20, 21, 22, 23, 24, 25, 26, 27, 28, 29, 30, 31, 32, 33, 35] (by kernel_rfl) (by kernel_rfl) rfl ?_
              simp (disch := omega) only [push_cast, simprocAttr, q4, gj, cm, le, z1, z2, z4, z5, e0, hj1, gj1, z6, z7]
              refine hκ.runD 300 ?_
              simp (disch := omega) only [push_cast, simprocAttr, q4, gj, cm, le, z1, z2, z4, z5, e0, hj1, gj1, z6, z7]
              refine hκ.ret _ _ _ _ _ _ trivial rfl ?_
              exact .ret trivial
            have hno : (decide (0 < j) && decide (v ≤ pre.getD (j - 1) default)) = false := by
              by_cases b5 : 0 < j
              · rw [hlast b5, decide_eq_false (fun h => b4 ⟨b5, h⟩), Bool.and_false]
              · rw [decide_eq_false b5, Bool.false_and]
            rw [hno, Bool.not_false, Bool.and_true] at hoj bad
            clear hlast hno
            generalize all ++ pre = ap at *
            by_cases b5 : 0 < j
            case' pos =>
              have gj1 := gj1 b5
              have z6 : ((0 : Int) ≤ (j : Int) - 1) = True := by first | (simp only [eq_iff_iff, iff_true]; first | assumption | omega) | (simp; omega)
              have z7 : ((j : Int) - 1 < (x.ms.length : Int)) = True := by first | (simp only [eq_iff_iff, iff_true]; first | assumption | omega) | (simp; omega)
              have z4 : ((0 : Int) < j) = True := by first | (simp only [eq_iff_iff, iff_true]; first | assumption | omega) | (simp; omega)
              have z5 : (v ≤ pv) = False := by first | (simp only [eq_iff_iff, iff_false]; first | assumption | omega) | (simp; omega)
              refine hκ.runD 300 ?_
              simp (disch := omega) only [push_cast, simprocAttr, q4, gj, cm, le, z1, z2, z4, z5, e0, hj1, gj1, z6, z7]
              refine hκ.draw (.q 0 (.q 1 (.q 2 (.q 3 (.q 4 (.q 5 (.q 6 (.q 7 (.q 8 (.q 9 (.q 10 (.q 11 (.q 12 (.q 13 (.q 14 (.q 15 (.q 16 (.q 17 (.q 18 (.q 19 (.q 20 (.q 21 (.q 22 (.q 23 (.q 24 (.q 25 (.q 26 (.q 27 (.q 28 (.q 29 (.q 30 (.q 31 (.q 32 (.q 33 (.l 34 [3, 9, 20, 24] (.q 35 (.fin))))))))))))))))))))))))))))))))))))) [0, 1, 2, 3, 4, 5, 6, 7, 8, 9, 10, 11, 12, 13, 14, 15, 16, 17, 18, 19, 20, 21, 22, 23, 24, 25, 26, 27, 28, 29, 30, 31, 32, 33, 35] (by kernel_rfl) (by kernel_rfl) rfl ?_
              simp (disch := omega) only [push_cast, simprocAttr, q4, gj, cm, le, z1, z2, z4, z5, e0, hj1, gj1, z6, z7]
            case' neg =>
              have z4 : ((0 : Int) < j) = False := by first | (simp only [eq_iff_iff, iff_false]; first | assumption | omega) | (simp; omega)
              refine hκ.runD 300 ?_
              simp (disch := omega) only [push_cast, simprocAttr, q4, gj, cm, le, z1, z2, z4, e0]
              refine hκ.draw (.q 0 (.q 1 (.q 2 (.q 3 (.q 4 (.q 5 (.q 6 (.q 7 (.q 8 (.q 9 (.q 10 (.q 11 (.q 12 (.q 13 (.q 14 (.q 15 (.q 16 (.q 17 (.q 18 (.q 19 (.q 20 (.q 21 (.q 22 (.q 23 (.q 24 (.q 25 (.q 26 (.q 27 (.q 28 (.q 29 (.q 30 (.q 31 (.q 32 (.q 33 (.l 34 [3, 9, 20, 24] (.q 35 (.fin))))))))))))))))))))))))))))))))))))) [0, 1, 2, 3, 4, 5, 6, 7, 8, 9, 10, 11, 12, 13, 14, 15, 16, 17, 18, 19, 20, 21, 22, 23, 24, 25, 26, 27, 28, 29, 30, 31, 32, 33, 35] (by kernel_rfl) (by kernel_rfl) rfl ?_
              simp (disch := omega) only [push_cast, simprocAttr, q4, gj, cm, le, z1, z2, z4, e0]
            all_goals
              refine DCall.of (Does.lent hκ.hP hκ.hgl [0] [Is ap, I v] ca ⟨trivial, trivial, rfl, trivial⟩ (by simp [lendL, lendS, lendSl, Heap.get, et]) (by simp [lendPL, lendP, lendSlP, Heap.get]; omega) (by simp [SV.bnd, SV.bndL]) ?_)
              rintro s H n' ⟨rfl, rfl, rfl⟩
              refine ⟨⟨by simp [SV.bnd, SV.bndL], by simp [SV.plain, SV.plainL], rfl, rfl⟩, ?_⟩
              cases b3 : ap.any fun a => decide (a = v)
              · have hy := fun u h => hy u (by rw [← hoj, b3]; rfl) h
                simp (disch := omega) only [push_cast, simprocAttr, q4, gj, cm, le, e0, et]
                refine hκ.run 300 ?_
                simp (disch := omega) only [push_cast, simprocAttr, q4, gj, cm, le, e0, et]
                refine ⟨⟨Nat.le_refl _, by omega, by omega⟩, fun _ => ?_⟩
                intro i
                have hy2 := hy (ap.length + 1 + i) (by simp)
                simp only [List.length_append, List.length_cons, List.length_nil, List.length_singleton, List.length_map, List.length_set, List.length_replicate, Nat.zero_add, Nat.add_zero, Int.natCast_add, Int.natCast_one, Int.ofNat_eq_natCast, List.map_append, List.map_cons, List.map_nil, List.take_length, eI, eB] at hy2 ⊢
                refine Sat.via (fun i => if i = 0 then 2 else i) (hy2) (by intro i j; (repeat (first | omega | split))) (by repeat' (first | exact EnvVia.nil | refine EnvVia.cons (by first | trivial | decide | (simp [SV.bnd, SV.bndL]; done)) rfl ?_)) (by repeat' (first | exact HeapVia.nil | refine HeapVia.cons (by decide) (by first | trivial | exact Blk.bnd_own0 (by assumption) | (simp [Blk.bnd, SV.bnd, SV.bndL]; done) | exact bndL_mapV _ _ _ | exact LR.bnd (by rw [l2]; simp [bndE, SV.bnd, SV.bndL]) (by rw [l6]; decide)) (by first | (rw [Blk.ren_own0 (by assumption)]; rfl) | rfl | (simp only [Blk.ren, renL_mapV]; rfl) | (rw [LR.ren (by rw [l2] <;> rfl) (by rw [l6] <;> rfl)]; rfl)) ?_)) ⟨by have := hκ.hm; (try dsimp only at this); (first | done | omega), fun i hi => by have := hκ.hm; (try dsimp only at this); (first | omega | (dsimp only; omega) | (rw [if_neg (by omega)]))⟩ ⟨by simp, rfl⟩
              · rw [bad (by rw [b3]; rfl), Bool.false_and, if_neg (by decide)] at hκ
                simp (disch := omega) only [push_cast, simprocAttr, q4, gj, cm, le, e0, et]
                refine hκ.runD 300 ?_
                simp (disch := omega) only [push_cast, simprocAttr, q4, gj, cm, le, e0, et]
                refine hκ.ret _ _ _ _ _ _ trivial rfl ?_
                exact .ret trivial
          · obtain rfl : j = x.ms.length := by omega
            rw [List.drop_length, okMs] at hoj
            rw [List.take_length] at hcj ⊢
            have hz := hz cj (by rw [← ho, hox, ← hoj, Bool.true_and]) hcj (by rw [List.length_append]; omega)
            have q4 : ((x.ms.length : Int) < x.ms.length) = False := by first | (simp only [eq_iff_iff, iff_false]; first | assumption | omega) | (simp; omega)
            refine hκ.run 300 ?_
            simp (disch := omega) only [push_cast, simprocAttr, q4, cm, le]
            simp only [List.length_append, List.length_cons, List.length_nil, List.length_singleton, List.length_map, List.length_set, List.length_replicate, Nat.zero_add, Nat.add_zero, Int.natCast_add, Int.natCast_one, Int.ofNat_eq_natCast, List.map_append, List.map_cons, List.map_nil, List.take_length, eI, eB] at hz ⊢
            refine Sat.via (fun i => i) (hz) (by intro i j; (repeat (first | omega | split))) (by repeat' (first | exact EnvVia.nil | refine EnvVia.cons (by first | trivial | decide | (simp [SV.bnd, SV.bndL]; done)) rfl ?_)) (by repeat' (first | exact HeapVia.nil | refine HeapVia.cons (by decide) (by first | trivial | exact Blk.bnd_own0 (by assumption) | (simp [Blk.bnd, SV.bnd, SV.bndL]; done) | exact bndL_mapV _ _ _ | exact LR.bnd (by rw [l2]; simp [bndE, SV.bnd, SV.bndL]) (by rw [l6]; decide)) (by first | (rw [Blk.ren_own0 (by assumption)]; rfl) | rfl | (simp only [Blk.ren, renL_mapV]; rfl) | (rw [LR.ren (by rw [l2] <;> rfl) (by rw [l6] <;> rfl)]; rfl)) ?_)) ⟨by have := hκ.hm; (try dsimp only at this); (first | done | omega), fun i hi => by have := hκ.hm; (try dsimp only at this); (first | omega | (dsimp only; omega) | (rw [if_neg (by omega)]))⟩ ⟨by simp, rfl⟩
        · dsimp only
          rw [List.take_zero, List.append_nil]
          exact (by repeat' (first | exact EnvSub.nil _ | exact HeapSub.nil _ | refine EnvSub.cons rfl ?_ | refine HeapSub.cons rfl ?_ | (refine EnvSub.cons (by simp [Env.get]; done) ?_) | (refine HeapSub.cons (by simp [Heap.get]; done) ?_)))
        · dsimp only
          rw [List.take_zero, List.append_nil]
          exact (by repeat' (first | exact EnvSub.nil _ | exact HeapSub.nil _ | refine EnvSub.cons rfl ?_ | refine HeapSub.cons rfl ?_ | (refine EnvSub.cons (by simp [Env.get]; done) ?_) | (refine HeapSub.cons (by simp [Heap.get]; done) ?_)))
      · have hbad : okL [] l = false := by rw [← ho, okX, decide_eq_false hlen, Bool.false_and, Bool.false_and]
        rw [hbad, Bool.false_and, if_neg (by decide)] at hκ
        by_cases h1 : x.ms.length < 1
        · have q2 : ((x.ms.length : Int) < 1) = True := by first | (simp only [eq_iff_iff, iff_true]; first | assumption | omega) | (simp; omega)
          refine hκ.run 300 ?_
          simp (disch := omega) only [push_cast, simprocAttr, q1, gk, cm, le, q2, e00]
          refine hκ.ret _ _ _ _ _ _ trivial rfl ?_
          exact .ret trivial
        · have q2 : ((x.ms.length : Int) < 1) = False := by first | (simp only [eq_iff_iff, iff_false]; first | assumption | omega) | (simp; omega)
          have q3 : (8 < (x.ms.length : Int)) = True := by first | (simp only [eq_iff_iff, iff_true]; first | assumption | omega) | (simp; omega)
          refine hκ.run 300 ?_
          simp (disch := omega) only [push_cast, simprocAttr, q1, gk, cm, le, q2, q3, e00]
          refine hκ.ret _ _ _ _ _ _ trivial rfl ?_
          exact .ret trivial
    · obtain rfl : k = l.length := by omega
      rw [List.drop_length, okL] at ho
      rw [List.take_length] at hcp hal ⊢
      have q1 : ((l.length : Int) < l.length) = False := by first | (simp only [eq_iff_iff, iff_false]; first | assumption | omega) | (simp; omega)
      rw [← ho, Bool.true_and] at hκ
      generalize allM l = all at *
      refine hκ.runA 14 300 ?_
      simp (disch := omega) only [push_cast, simprocAttr, q1]
      refine Sat.frz [0] 5 _ rfl (by first | (simp [lendPL, lendP, lendSlP, Heap.get]; done) | (simp only [lendPL, lendP, lendSlP, Heap.get, List.mem_singleton, List.mem_cons, List.not_mem_nil, or_false, or_true, true_or, Nat.reduceEqDiff, Nat.one_ne_zero, Nat.zero_ne_one, ↓reduceIte, and_true, true_and, List.length_map, List.length_append, List.length_cons, List.length_nil, List.length_replicate]; omega)) ?_
      simp only [lendL, lendS, lendSl, Heap.get, without, List.mem_singleton, List.mem_cons, List.not_mem_nil, or_false, or_true, true_or, List.drop_zero, List.take_length, List.take_succ_cons, List.take_zero, Nat.reduceAdd, Nat.reduceEqDiff, Nat.one_ne_zero, Nat.zero_ne_one, ↓reduceIte]
      rw [List.take_of_length_le (by simp)]
      by_cases hlen : w.length = all.length
      rotate_left
      · rw [decide_eq_false hlen, Bool.and_false, if_neg (by decide)] at hκ
        have q2 : ((w.length : Int) = all.length) = False := by first | (simp only [eq_iff_iff, iff_false]; first | assumption | omega) | (simp; omega)
        refine hκ.run 300 ?_
        simp (disch := omega) only [push_cast, simprocAttr, q1, q2]
        refine hκ.ret _ _ _ _ _ _ trivial rfl ?_
        exact .ret trivial
      rw [decide_eq_true hlen, Bool.and_true] at hκ
      have q2 : ((w.length : Int) = all.length) = True := by first | (simp only [eq_iff_iff, iff_true]; first | assumption | omega) | (simp; omega)
      refine hκ.run 300 ?_
      simp (disch := omega) only [push_cast, simprocAttr, q2]
      clear hcp
      refine Sat.less (Sat.loop (γ := Nat) (fun k => ([(9, I k), (5, Is all), (1, Ws w)], [], 1)) (fun k => w.length - k)
        (fun k => k ≤ w.length ∧ okV all (w.take k) (w.drop k) = okV all [] w) ?wround 0 ⟨Nat.zero_le _, rfl⟩) (by repeat' (first | exact EnvSub.nil _ | exact HeapSub.nil _ | refine EnvSub.cons rfl ?_ | refine HeapSub.cons rfl ?_ | (refine EnvSub.cons (by simp [Env.get]; done) ?_) | (refine HeapSub.cons (by simp [Heap.get]; done) ?_))) (by repeat' (first | exact EnvSub.nil _ | exact HeapSub.nil _ | refine EnvSub.cons rfl ?_ | refine HeapSub.cons rfl ?_ | (refine EnvSub.cons (by simp [Env.get]; done) ?_) | (refine HeapSub.cons (by simp [Heap.get]; done) ?_)))
      case wround =>
        rintro k ⟨hk, ho⟩ ih
        dsimp only at hk ho ih ⊢
        by_cases hkl : k < w.length
        · have q1 : ((k : Int) < w.length) = True := by first | (simp only [eq_iff_iff, iff_true]; first | assumption | omega) | (simp; omega)
          have e0 : (0 ≤ (k : Int)) = True := by first | (simp only [eq_iff_iff, iff_true]; first | assumption | omega) | (simp; omega)
          have gk : (List.map eW w).getD k [] = eW (w.getD k default) := getD_map _ _ _ hkl
          have gk1 : 0 < k → (List.map eW w).getD (k - 1) [] = eW (w.getD (k - 1) default) := fun h => getD_map _ _ _ (by omega)
          have hd : w.drop k = w.getD k default :: w.drop (k + 1) := by
            rw [List.drop_eq_getElem_cons hkl, List.getD, List.getElem?_eq_getElem hkl]; rfl
          have ht : w.take (k + 1) = w.take k ++ [w.getD k default] := by
            rw [List.take_succ_eq_append_getElem hkl, List.getD, List.getElem?_eq_getElem hkl]; rfl
          have hin := hw _ (getD_mem' hkl)
          have hlast : 0 < k → (w.take k).getD ((w.take k).length - 1) default = w.getD (k - 1) default := fun h => by
            rw [List.length_take, Nat.min_eq_left hk, List.getD, List.getD, List.getElem?_take_of_lt (by omega)]
          rw [hd, okV, ok1V] at ho
          have hz := fun h => ih (k + 1) ⟨by omega, h⟩ (by omega)
          rw [ht] at hz
          have hpl : (w.take k).length = k := by rw [List.length_take]; omega
          rw [hpl] at ho hlast
          clear ih hd ht
          generalize w.getD k default = x at *
          generalize w.getD (k - 1) default = px at *
          generalize w.drop (k + 1) = w2 at *
          generalize w.take k = pre at *
          obtain ⟨v1, a1, m1⟩ := hin
          have hj1 : ((k : Int) - 1).toNat = k - 1 := by omega
          have bad : ((all.any fun u => decide (u = x.v)) && !(decide (0 < k) && decide (x.v ≤ (pre.getD (k - 1) default).v))) = false → okV all [] w = false := fun h => by
            rw [← ho, h, Bool.false_and]
          have ca := has19_ok all x.v (by omega)
          rw [mem_any] at ca
          rw [eW] at gk
          refine hκ.runD 300 ?_
          simp (disch := omega) only [push_cast, simprocAttr, q1, gk, e0]
          refine hκ.draw (.q 0 (.q 1 (.q 2 (.q 3 (.q 4 (.q 5 (.l 6 [] (.q 7 (.q 8 (.q 9 (.q 10 (.q 11 (.q 12 (.q 13 (.q 14 (.q 15 (.q 16 (.q 17 (.q 18 (.q 19 (.q 20 (.q 21 (.q 22 (.q 23 (.q 24 (.q 25 (.fin))))))))))))))))))))))))))) [0, 1, 2, 3, 4, 5, 7, 8, 9, 10, 11, 12, 13, 14, 15, 16, 17, 18, 19, 20, 21, 22, 23, 24, 25] (by kernel_rfl) (by kernel_rfl) rfl ?_
          simp (disch := omega) only [push_cast, simprocAttr, q1, gk, e0]
          refine DCall.of (Does.ret hκ.hP hκ.hgl ca ⟨trivial, by first | (simp [SV.bnd, SV.bndL]; done) | (simp [SV.bnd, SV.bndL, ec_bnd]; done), by first | (simp [SV.bnd, SV.bndL]; done) | (simp [SV.bnd, SV.bndL, ec_bnd]; done) | assumption⟩ ?_)
          cases b1 : all.any fun u => decide (u = x.v)
          · rw [bad (by rw [b1, Bool.false_and]), if_neg (by decide)] at hκ
            simp (disch := omega) only [push_cast, simprocAttr, q1, gk, e0]
            refine hκ.runD 300 ?_
            simp (disch := omega) only [push_cast, simprocAttr, q1, gk, e0]
            refine hκ.ret _ _ _ _ _ _ trivial rfl ?_
            exact .ret trivial
          · rw [b1, Bool.true_and] at ho bad
            by_cases b5 : 0 < k
            · have gk1 := gk1 b5
              rw [eW] at gk1
              have hlast := hlast b5
              have z4 : ((0 : Int) < k) = True := by first | (simp only [eq_iff_iff, iff_true]; first | assumption | omega) | (simp; omega)
              have z6 : ((0 : Int) ≤ (k : Int) - 1) = True := by first | (simp only [eq_iff_iff, iff_true]; first | assumption | omega) | (simp; omega)
              have z7 : ((k : Int) - 1 < (w.length : Int)) = True := by first | (simp only [eq_iff_iff, iff_true]; first | assumption | omega) | (simp; omega)
              by_cases b6 : x.v ≤ px.v
              · rw [bad (by rw [hlast, decide_eq_true b5, decide_eq_true b6]; rfl), if_neg (by decide)] at hκ
                have z5 : (x.v ≤ px.v) = True := by first | (simp only [eq_iff_iff, iff_true]; first | assumption | omega) | (simp; omega)
                simp (disch := omega) only [push_cast, simprocAttr, q1, gk, e0, gk1, z4, z5, hj1, z6, z7]
                refine hκ.runD 300 ?_
                simp (disch := omega) only [push_cast, simprocAttr, q1, gk, e0, gk1, z4, z5, hj1, z6, z7]
                refine hκ.ret _ _ _ _ _ _ trivial rfl ?_
                exact .ret trivial
              · have hz := hz (by rw [← ho, hlast, decide_eq_true b5, decide_eq_false b6]; rfl)
                have z5 : (x.v ≤ px.v) = False := by first | (simp only [eq_iff_iff, iff_false]; first | assumption | omega) | (simp; omega)
                simp (disch := omega) only [push_cast, simprocAttr, q1, gk, e0, gk1, z4, z5, hj1, z6, z7]
                refine hκ.runD 300 ?_
                simp (disch := omega) only [push_cast, simprocAttr, q1, gk, e0, gk1, z4, z5, hj1, z6, z7]
                exact hz.less (by repeat' (first | exact EnvSub.nil _ | exact HeapSub.nil _ | refine EnvSub.cons rfl ?_ | refine HeapSub.cons rfl ?_ | (refine EnvSub.cons (by simp [Env.get]; done) ?_) | (refine HeapSub.cons (by simp [Heap.get]; done) ?_))) (by repeat' (first | exact EnvSub.nil _ | exact HeapSub.nil _ | refine EnvSub.cons rfl ?_ | refine HeapSub.cons rfl ?_ | (refine EnvSub.cons (by simp [Env.get]; done) ?_) | (refine HeapSub.cons (by simp [Heap.get]; done) ?_)))
            · have hz := hz (by rw [← ho, decide_eq_false b5]; rfl)
              have z4 : ((0 : Int) < k) = False := by first | (simp only [eq_iff_iff, iff_false]; first | assumption | omega) | (simp; omega)
              simp (disch := omega) only [push_cast, simprocAttr, q1, gk, e0, z4]
              refine hκ.runD 300 ?_
              simp (disch := omega) only [push_cast, simprocAttr, q1, gk, e0, z4]
              exact hz.less (by repeat' (first | exact EnvSub.nil _ | exact HeapSub.nil _ | refine EnvSub.cons rfl ?_ | refine HeapSub.cons rfl ?_ | (refine EnvSub.cons (by simp [Env.get]; done) ?_) | (refine HeapSub.cons (by simp [Heap.get]; done) ?_))) (by repeat' (first | exact EnvSub.nil _ | exact HeapSub.nil _ | refine EnvSub.cons rfl ?_ | refine HeapSub.cons rfl ?_ | (refine EnvSub.cons (by simp [Env.get]; done) ?_) | (refine HeapSub.cons (by simp [Heap.get]; done) ?_)))
        · obtain rfl : k = w.length := by omega
          rw [List.drop_length, okV] at ho
          rw [← ho, if_pos rfl] at hκ
          have q1 : ((w.length : Int) < w.length) = False := by first | (simp only [eq_iff_iff, iff_false]; first | assumption | omega) | (simp; omega)
          refine hκ.run 300 ?_
          simp (disch := omega) only [push_cast, simprocAttr, q1]
          refine Does.ret hκ.hP hκ.hgl cP ⟨trivial, by first | (simp [SV.bnd, SV.bndL]; done) | (simp [SV.bnd, SV.bndL, ec_bnd]; done), by first | (simp [SV.bnd, SV.bndL]; done) | (simp [SV.bnd, SV.bndL, ec_bnd]; done) | assumption⟩ ?_
          cases hr : okWs [] w
          · rw [hr, if_neg (by decide)] at hκ
            refine hκ.run 300 ?_
            simp (disch := omega) only [push_cast, simprocAttr, q1]
            refine hκ.ret _ _ _ _ _ _ trivial rfl ?_
            exact .ret trivial
          · rw [hr, if_pos rfl] at hκ
            refine hκ.run 300 ?_
            simp (disch := omega) only [push_cast, simprocAttr, q1]
            refine hκ.ret _ _ _ _ _ _ trivial rfl ?_
            exact .ret trivial
end Go.Proofs.YtnjgmjcokcfmkaaDoor
