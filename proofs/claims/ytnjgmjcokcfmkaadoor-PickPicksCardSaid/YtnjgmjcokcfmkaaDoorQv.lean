/- The document's Pick. No condition. -/
import Derived.Test.YtnjgmjcokcfmkaaDoorQu
namespace Go.Proofs.YtnjgmjcokcfmkaaDoor
open Go Go.Sy
set_option maxRecDepth 100000
set_option linter.unusedSimpArgs false
set_option linter.unusedVariables false
set_option maxHeartbeats 8000000

theorem rtkV_some {w : List Wi} {x : En} {free : Nat} {at' : List Int} (hx : okW w x) (h : tkO (wsh w x.ms) free = some at') : rtkV w x free = .tup [Is at', Bo true] := by
  have hM := chsM_eq hx free
  obtain ⟨h1, h2, h3⟩ := hx
  rw [rtkV]
  rw [tkO, h2] at h
  by_cases hl : x.ms.length = 1
  · rw [if_neg (by omega), ← h3 0 (by omega)] at h
    rw [if_pos hl, takesW]
    cases hb : bestB (wshO w (x.ms.getD 0 default)).m free (wshO w (x.ms.getD 0 default)).a with
    | none => rw [hb] at h; cases h
    | some c => rw [hb] at h; obtain rfl := Option.some.inj h; rfl
  · rw [if_pos (by omega), ← hM] at h
    rw [if_neg hl, h]
    rfl
theorem rtkV_none {w : List Wi} {x : En} {free : Nat} (hx : okW w x) (h : tkO (wsh w x.ms) free = none) : ∃ J : List Int, rtkV w x free = .tup [Is J, Bo false] := by
  have hM := chsM_eq hx free
  obtain ⟨h1, h2, h3⟩ := hx
  rw [rtkV]
  rw [tkO, h2] at h
  by_cases hl : x.ms.length = 1
  · rw [if_neg (by omega), ← h3 0 (by omega)] at h
    rw [if_pos hl, takesW, Option.map_eq_none_iff.1 h]
    exact ⟨_, rfl⟩
  · rw [if_pos (by omega), ← hM] at h
    rw [if_neg hl, h]
    exact ⟨_, rfl⟩
theorem rPick_ok (l : List En) (w : List Wi) (free : Nat) (hw : ∀ y ∈ w, inW y) (hp : pickE l w = 0) (hn : l.length < 2 ^ 34) (hn2 : w.length < 2 ^ 34) (hf : free < 256) : Con Tryd.prog gl0 (fnv 17) [Ens l, Ws w, S free] 0 [] (Ret (.tup [Ps (pickR w free l).puts, Is (pickR w free l).waits])) := by
  obtain ⟨hoL, -, -, hoW⟩ := pickE_zero hp
  have hmk := okWs_mask w [] hoW
  refine Con.of Tryd.ok17 (nt := 74) (res := [.tmp 6, .tmp 7]) Tryd.mixed Tryd.func17 rfl rfl rfl rfl fun κ xc hκ => hκ.runD 300 ?_
  simp (disch := omega) only [push_cast, simprocAttr]
  refine hκ.runA 3 300 ?_
  simp (disch := omega) only [push_cast, simprocAttr]
  refine Sat.nilRow 8 2 68 rfl ?_
  refine Sat.nilRow 9 1 3 rfl ?_
  refine hκ.run 300 ?_
  simp (disch := omega) only [push_cast, simprocAttr]
  refine Sat.less (Sat.loop (γ := Nat × Nat × Nat) (fun g => ([(10, I g.1), (8, .sl 0 2 0 (pickR w free (l.take g.1)).puts.length g.2.1), (9, .sl 1 1 0 (pickR w free (l.take g.1)).waits.length g.2.2), (0, Ens l), (1, Ws w), (2, S (pickR w free (l.take g.1)).free)],
    [(0, .row 2 g.2.1 68 ((pickR w free (l.take g.1)).puts.map eP)), (1, .row 1 g.2.2 3 ((pickR w free (l.take g.1)).waits.map (eI .i64)))], 2)) (fun g => l.length - g.1)
    (fun g => g.1 ≤ l.length ∧ (pickR w free (l.take g.1)).puts.length ≤ g.2.1 ∧ (pickR w free (l.take g.1)).waits.length ≤ g.2.2) ?round (0, 0, 0) ⟨Nat.zero_le _, Nat.le_refl _, Nat.le_refl _⟩) (by repeat' (first | exact EnvSub.nil _ | exact HeapSub.nil _ | refine EnvSub.cons rfl ?_ | refine HeapSub.cons rfl ?_ | (refine EnvSub.cons (by simp [Env.get]; done) ?_) | (refine HeapSub.cons (by simp [Heap.get]; done) ?_))) (by repeat' (first | exact EnvSub.nil _ | exact HeapSub.nil _ | refine EnvSub.cons rfl ?_ | refine HeapSub.cons rfl ?_ | (refine EnvSub.cons (by simp [Env.get]; done) ?_) | (refine HeapSub.cons (by simp [Heap.get]; done) ?_)))
  case round =>
    rintro ⟨k, c1, c2⟩ ⟨hk, hc1, hc2⟩ ih
    dsimp only at hk hc1 hc2 ih ⊢
    by_cases hkl : k < l.length
    · have q1 : ((k : Int) < l.length) = True := by first | (simp only [eq_iff_iff, iff_true]; first | assumption | omega) | (simp; omega)
      have e00 : (0 ≤ (k : Int)) = True := by first | (simp only [eq_iff_iff, iff_true]; first | assumption | omega) | (simp; omega)
      have gk : (List.map eEn l).getD k [] = eEn (l.getD k default) := getD_map _ _ _ hkl
      have hs := pickR_take (w := w) (free := free) hkl
      have hx := okW_of hp (getD_mem' hkl)
      obtain ⟨hx8, -⟩ := okL_rng l [] hoL _ (getD_mem' hkl)
      obtain ⟨hfr, hpb, hwb⟩ := pickR_bd w free hf k (l.take k) (by rw [List.length_take]; omega) (fun y hy => (okL_rng l [] hoL y (List.mem_of_mem_take hy)).1.2)
      have hz := fun c1 c2 h1 h2 => ih (k + 1, c1, c2) ⟨by dsimp only; omega, h1, h2⟩ (by dsimp only; omega)
      dsimp only at hz
      rw [hs, stepK] at hz
      clear ih hs
      generalize l.getD k default = x at *
      generalize pickR w free (l.take k) = st at *
      obtain ⟨fr, ps, ws⟩ := st
      dsimp only at hfr hpb hwb hc1 hc2 hz ⊢
      have cT := rTakes_ok w x fr hw hmk hx hx8.2 (by omega) hfr
      have te : takeN (eEn x) 6 = some (eEn x) := rfl
      have cm : cut (eEn x) 0 1 = some [Is x.ms] := rfl
      have t1 : takeN (eEn x) 1 = some [Is x.ms] := rfl
      have on : ones (eEn x) := ⟨trivial, rfl, rfl, rfl, rfl, rfl, trivial⟩
      have le : (eEn x).length = 6 := rfl
      have tk : List.take 6 (eEn x) = eEn x := rfl
      refine hκ.run 300 ?_
      simp (disch := omega) only [push_cast, simprocAttr, q1, e00, gk, te, cm, t1, on, le, tk]
      cases ho : tkO (wsh w x.ms) fr with
      | some at' =>
        rw [rtkV_some hx ho] at cT
        rw [ho] at hz
        dsimp only at hz
        obtain ⟨ha, ha8⟩ := tkO_ok (by have := hx.1; have := hx.2.1; omega) ho
        rw [hx.2.1] at ha
        refine Does.ret hκ.hP hκ.hgl cT ⟨trivial, by simp [SV.bnd, SV.bndL, eEn], by simp [SV.bnd, SV.bndL]⟩ ?_
        refine hκ.run 300 ?_
        simp (disch := omega) only [push_cast, simprocAttr, q1, e00, gk, te, cm, t1, on, le, tk]
        refine Sat.less (Sat.loop (γ := Nat × Nat) (fun g => ([(13, I g.1), (12, Bo true), (11, Is at'), (10, I k), (8, .sl 0 2 0 (ps ++ (x.ms.zip at').take g.1).length g.2), (9, .sl 1 1 0 ws.length c2), (0, Ens l), (1, Ws w), (2, S fr)],
          [(0, .row 2 g.2 68 ((ps ++ (x.ms.zip at').take g.1).map eP)), (1, .row 1 c2 3 (ws.map (eI .i64)))], 2)) (fun g => x.ms.length - g.1)
          (fun g => g.1 ≤ x.ms.length ∧ (ps ++ (x.ms.zip at').take g.1).length ≤ g.2) ?inner (0, c1) ⟨Nat.zero_le _, by simpa using hc1⟩) ?s1 ?s2
        case inner =>
          rintro ⟨j, cj⟩ ⟨hj, hcj⟩ ih2
          dsimp only at hj hcj ih2 ⊢
          by_cases hjl : j < x.ms.length
          · have q2 : ((j : Int) < x.ms.length) = True := by first | (simp only [eq_iff_iff, iff_true]; first | assumption | omega) | (simp; omega)
            have q3 : ((j : Int) < at'.length) = True := by first | (simp only [eq_iff_iff, iff_true]; first | assumption | omega) | (simp; omega)
            have e0 : (0 ≤ (j : Int)) = True := by first | (simp only [eq_iff_iff, iff_true]; first | assumption | omega) | (simp; omega)
            have gj : (List.map (eI .i64) x.ms).getD j [] = eI .i64 (x.ms.getD j default) := getD_map _ _ _ hjl
            have ga : (List.map (eI .i64) at').getD j [] = eI .i64 (at'.getD j default) := getD_map _ _ _ (by omega)
            have hzj : (x.ms.zip at').take (j + 1) = (x.ms.zip at').take j ++ [(x.ms.getD j default, at'.getD j default)] := by
              rw [List.take_succ_eq_append_getElem (by rw [List.length_zip]; omega)]
              simp [List.getD, hjl, show j < at'.length by omega]
            have hz2 := fun c h => ih2 (j + 1, c) ⟨by dsimp only; omega, h⟩ (by dsimp only; omega)
            dsimp only at hz2
            rw [hzj, ← List.append_assoc] at hz2
            have hq : (ps ++ (x.ms.zip at').take j).length ≤ 8 * k + 8 := by
              rw [List.length_append, List.length_take, List.length_zip]; omega
            clear ih2 hz hzj
            generalize ps ++ (x.ms.zip at').take j = q at *
            generalize x.ms.getD j default = v at *
            generalize at'.getD j default = c at *
            have et : List.take q.length (List.map eP q) = List.map eP q := List.take_of_length_le (by simp)
            refine hκ.runD 300 ?_
            simp (disch := omega) only [push_cast, simprocAttr, q1, e00, gk, te, cm, t1, on, le, tk, q2, q3, e0, gj, ga, et]
            refine hκ.draw (.q 0 (.q 1 (.q 2 (.q 3 (.q 4 (.q 5 (.q 6 (.q 7 (.q 8 (.q 9 (.q 10 (.q 11 (.q 12 (.q 13 (.l 14 [5, 8, 12] (.l 15 [5, 8, 12] (.l 16 [] (.fin)))))))))))))))))) [0, 1, 2, 3, 4, 5, 6, 7, 8, 9, 10, 11, 12, 13] (by kernel_rfl) (by kernel_rfl) rfl ?_
            simp (disch := omega) only [push_cast, simprocAttr, q1, e00, gk, te, cm, t1, on, le, tk, q2, q3, e0, gj, ga, et]
            refine ⟨⟨Nat.le_refl _, by omega, by omega⟩, fun _ => ?_⟩
            intro i
            refine hκ.run 300 ?_
            simp (disch := omega) only [push_cast, simprocAttr, q1, e00, gk, te, cm, t1, on, le, tk, q2, q3, e0, gj, ga, et]
            have hy := hz2 (q.length + 1 + i) (by simp)
            simp only [List.length_append, List.length_cons, List.length_nil, List.length_singleton, List.length_map, List.length_set, List.length_replicate, Nat.zero_add, Nat.add_zero, Int.natCast_add, Int.natCast_one, Int.ofNat_eq_natCast, List.map_append, List.map_cons, List.map_nil, List.take_length, eI, eB] at hy ⊢
            simp only [eP] at hy
            refine Sat.via (fun i => if i = 0 then 3 else i) (hy) (by intro i j; (repeat (first | omega | split))) (by repeat' (first | exact EnvVia.nil | refine EnvVia.cons (by first | trivial | decide | (simp [SV.bnd, SV.bndL]; done)) rfl ?_)) (by repeat' (first | exact HeapVia.nil | refine HeapVia.cons (by decide) (by first | trivial | exact Blk.bnd_own0 (by assumption) | (simp [Blk.bnd, SV.bnd, SV.bndL]; done) | exact bndL_mapV _ _ _ | exact LR.bnd (by rw [l2]; simp [bndE, SV.bnd, SV.bndL]) (by rw [l6]; decide)) (by first | (rw [Blk.ren_own0 (by assumption)]; rfl) | rfl | (simp only [Blk.ren, renL_mapV]; rfl) | (rw [LR.ren (by rw [l2] <;> rfl) (by rw [l6] <;> rfl)]; rfl)) ?_)) ⟨by have := hκ.hm; (try dsimp only at this); (first | done | omega), fun i hi => by have := hκ.hm; (try dsimp only at this); (first | omega | (dsimp only; omega) | (rw [if_neg (by omega)]))⟩ ⟨by simp, rfl⟩
          · obtain rfl : j = x.ms.length := by omega
            rw [List.take_of_length_le (by rw [List.length_zip]; omega)] at hcj ⊢
            have q2 : ((x.ms.length : Int) < x.ms.length) = False := by first | (simp only [eq_iff_iff, iff_false]; first | assumption | omega) | (simp; omega)
            have cL := rLess_ok fr at' hfr ha8 (by omega)
            have hy := hz cj c2 hcj hc2
            refine hκ.run 300 ?_
            simp (disch := omega) only [push_cast, simprocAttr, q1, e00, gk, te, cm, t1, on, le, tk, q2]
            refine Does.ret hκ.hP hκ.hgl cL ⟨trivial, by first | (simp [SV.bnd, SV.bndL]; done) | (simp [SV.bnd, SV.bndL, ec_bnd]; done), by first | (simp [SV.bnd, SV.bndL]; done) | (simp [SV.bnd, SV.bndL, ec_bnd]; done) | assumption⟩ ?_
            refine hκ.run 300 ?_
            simp (disch := omega) only [push_cast, simprocAttr, q1, e00, gk, te, cm, t1, on, le, tk, q2]
            exact hy.less (by repeat' (first | exact EnvSub.nil _ | exact HeapSub.nil _ | refine EnvSub.cons rfl ?_ | refine HeapSub.cons rfl ?_ | (refine EnvSub.cons (by simp [Env.get]; done) ?_) | (refine HeapSub.cons (by simp [Heap.get]; done) ?_))) (by repeat' (first | exact EnvSub.nil _ | exact HeapSub.nil _ | refine EnvSub.cons rfl ?_ | refine HeapSub.cons rfl ?_ | (refine EnvSub.cons (by simp [Env.get]; done) ?_) | (refine HeapSub.cons (by simp [Heap.get]; done) ?_)))
        · dsimp only
          rw [List.take_zero, List.append_nil]
          exact (by repeat' (first | exact EnvSub.nil _ | exact HeapSub.nil _ | refine EnvSub.cons rfl ?_ | refine HeapSub.cons rfl ?_ | (refine EnvSub.cons (by simp [Env.get]; done) ?_) | (refine HeapSub.cons (by simp [Heap.get]; done) ?_)))
        · dsimp only
          rw [List.take_zero, List.append_nil]
          exact (by repeat' (first | exact EnvSub.nil _ | exact HeapSub.nil _ | refine EnvSub.cons rfl ?_ | refine HeapSub.cons rfl ?_ | (refine EnvSub.cons (by simp [Env.get]; done) ?_) | (refine HeapSub.cons (by simp [Heap.get]; done) ?_)))
      | none =>
        obtain ⟨J, hJ⟩ := rtkV_none hx ho
        rw [hJ] at cT
        rw [ho] at hz
        dsimp only at hz
        refine Does.ret hκ.hP hκ.hgl cT ⟨trivial, by simp [SV.bnd, SV.bndL, eEn], by simp [SV.bnd, SV.bndL]⟩ ?_
        refine hκ.run 300 ?_
        simp (disch := omega) only [push_cast, simprocAttr, q1, e00, gk, te, cm, t1, on, le, tk]
        refine Sat.less (Sat.loop (γ := Nat × Nat) (fun g => ([(13, I g.1), (12, Bo false), (10, I k), (8, .sl 0 2 0 ps.length c1), (9, .sl 1 1 0 (ws ++ x.ms.take g.1).length g.2), (0, Ens l), (1, Ws w), (2, S fr)],
          [(0, .row 2 c1 68 (ps.map eP)), (1, .row 1 g.2 3 ((ws ++ x.ms.take g.1).map (eI .i64)))], 2)) (fun g => x.ms.length - g.1)
          (fun g => g.1 ≤ x.ms.length ∧ (ws ++ x.ms.take g.1).length ≤ g.2) ?inner2 (0, c2) ⟨Nat.zero_le _, by simpa using hc2⟩) ?s3 ?s4
        case inner2 =>
          rintro ⟨j, cj⟩ ⟨hj, hcj⟩ ih2
          dsimp only at hj hcj ih2 ⊢
          by_cases hjl : j < x.ms.length
          · have q2 : ((j : Int) < x.ms.length) = True := by first | (simp only [eq_iff_iff, iff_true]; first | assumption | omega) | (simp; omega)
            have e0 : (0 ≤ (j : Int)) = True := by first | (simp only [eq_iff_iff, iff_true]; first | assumption | omega) | (simp; omega)
            have gj : (List.map (eI .i64) x.ms).getD j [] = eI .i64 (x.ms.getD j default) := getD_map _ _ _ hjl
            have hzj : x.ms.take (j + 1) = x.ms.take j ++ [x.ms.getD j default] := by
              rw [List.take_succ_eq_append_getElem hjl, List.getD, List.getElem?_eq_getElem hjl]; rfl
            have hz2 := fun c h => ih2 (j + 1, c) ⟨by dsimp only; omega, h⟩ (by dsimp only; omega)
            dsimp only at hz2
            rw [hzj, ← List.append_assoc] at hz2
            have hq : (ws ++ x.ms.take j).length ≤ 8 * k + 8 := by
              rw [List.length_append, List.length_take]; omega
            clear ih2 hz hzj
            generalize ws ++ x.ms.take j = q at *
            generalize x.ms.getD j default = v at *
            have et : List.take q.length (List.map (eI .i64) q) = List.map (eI .i64) q := List.take_of_length_le (by simp)
            refine hκ.run 300 ?_
            simp (disch := omega) only [push_cast, simprocAttr, q1, e00, gk, te, cm, t1, on, le, tk, q2, e0, gj, et]
            refine ⟨⟨Nat.le_refl _, by omega, by omega⟩, fun _ => ?_⟩
            intro i
            have hy := hz2 (q.length + 1 + i) (by simp)
            simp only [List.length_append, List.length_cons, List.length_nil, List.length_singleton, List.length_map, List.length_set, List.length_replicate, Nat.zero_add, Nat.add_zero, Int.natCast_add, Int.natCast_one, Int.ofNat_eq_natCast, List.map_append, List.map_cons, List.map_nil, List.take_length, eI, eB] at hy ⊢
            refine Sat.via (fun i => if i = 1 then 3 else i) (hy) (by intro i j; (repeat (first | omega | split))) (by repeat' (first | exact EnvVia.nil | refine EnvVia.cons (by first | trivial | decide | (simp [SV.bnd, SV.bndL]; done)) rfl ?_)) (by repeat' (first | exact HeapVia.nil | refine HeapVia.cons (by decide) (by first | trivial | exact Blk.bnd_own0 (by assumption) | (simp [Blk.bnd, SV.bnd, SV.bndL]; done) | exact bndL_mapV _ _ _ | exact LR.bnd (by rw [l2]; simp [bndE, SV.bnd, SV.bndL]) (by rw [l6]; decide)) (by first | (rw [Blk.ren_own0 (by assumption)]; rfl) | rfl | (simp only [Blk.ren, renL_mapV]; rfl) | (rw [LR.ren (by rw [l2] <;> rfl) (by rw [l6] <;> rfl)]; rfl)) ?_)) ⟨by have := hκ.hm; (try dsimp only at this); (first | done | omega), fun i hi => by have := hκ.hm; (try dsimp only at this); (first | omega | (dsimp only; omega) | (rw [if_neg (by omega)]))⟩ ⟨by simp, rfl⟩
          · obtain rfl : j = x.ms.length := by omega
            rw [List.take_length] at hcj ⊢
            have q2 : ((x.ms.length : Int) < x.ms.length) = False := by first | (simp only [eq_iff_iff, iff_false]; first | assumption | omega) | (simp; omega)
            have hy := hz c1 cj hc1 hcj
            refine hκ.run 300 ?_
            simp (disch := omega) only [push_cast, simprocAttr, q1, e00, gk, te, cm, t1, on, le, tk, q2]
            exact hy.less (by repeat' (first | exact EnvSub.nil _ | exact HeapSub.nil _ | refine EnvSub.cons rfl ?_ | refine HeapSub.cons rfl ?_ | (refine EnvSub.cons (by simp [Env.get]; done) ?_) | (refine HeapSub.cons (by simp [Heap.get]; done) ?_))) (by repeat' (first | exact EnvSub.nil _ | exact HeapSub.nil _ | refine EnvSub.cons rfl ?_ | refine HeapSub.cons rfl ?_ | (refine EnvSub.cons (by simp [Env.get]; done) ?_) | (refine HeapSub.cons (by simp [Heap.get]; done) ?_)))
        · dsimp only
          rw [List.take_zero, List.append_nil]
          exact (by repeat' (first | exact EnvSub.nil _ | exact HeapSub.nil _ | refine EnvSub.cons rfl ?_ | refine HeapSub.cons rfl ?_ | (refine EnvSub.cons (by simp [Env.get]; done) ?_) | (refine HeapSub.cons (by simp [Heap.get]; done) ?_)))
        · dsimp only
          rw [List.take_zero, List.append_nil]
          exact (by repeat' (first | exact EnvSub.nil _ | exact HeapSub.nil _ | refine EnvSub.cons rfl ?_ | refine HeapSub.cons rfl ?_ | (refine EnvSub.cons (by simp [Env.get]; done) ?_) | (refine HeapSub.cons (by simp [Heap.get]; done) ?_)))
    · obtain rfl : k = l.length := by omega
      rw [List.take_length] at hc1 hc2 ⊢
      have q1 : ((l.length : Int) < l.length) = False := by first | (simp only [eq_iff_iff, iff_false]; first | assumption | omega) | (simp; omega)
      generalize pickR w free l = st at *
      obtain ⟨fr, ps, ws⟩ := st
      dsimp only at hc1 hc2 ⊢
      refine hκ.run 300 ?_
      simp (disch := omega) only [push_cast, simprocAttr, q1]
      refine hκ.ret _ _ _ _ _ _ trivial rfl ?_
      have et1 : List.take ps.length (List.map eP ps) = List.map eP ps := List.take_of_length_le (by simp)
      have et2 : List.take ws.length (List.map (eI .i64) ws) = List.map (eI .i64) ws := List.take_of_length_le (by simp)
      refine Post.frz [0, 1] (by first | (simp [lendPL, lendP, lendSlP, dropL, Heap.get, Heap.drop, resV]; done) | (simp [lendPL, lendP, lendSlP, dropL, Heap.get, Heap.drop, resV]; omega) | (simp [lendPL, lendP, lendSlP, dropL, Heap.get, Heap.drop, resV, -List.length_eq_zero_iff]; omega)) ?_
      simp only [resV, lendL, lendS, lendSl, dropL, Heap.drop, Heap.get, List.mem_singleton, List.mem_cons, List.not_mem_nil, or_false, or_true, true_or, List.drop_zero, Nat.reduceEqDiff, Nat.one_ne_zero, Nat.zero_ne_one, ↓reduceIte, et1, et2]
      exact .ret (by simp [SV.bnd, SV.bndL])
end Go.Proofs.YtnjgmjcokcfmkaaDoor
