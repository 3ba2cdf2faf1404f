/- pick.Whole and pick.Idle. No condition. -/
import Derived.Test.YtnjgmjcokcfmkaaDoorQn
namespace Go.Proofs.YtnjgmjcokcfmkaaDoor
open Go Go.Sy
set_option maxRecDepth 100000
set_option linter.unusedSimpArgs false
set_option linter.unusedVariables false
set_option maxHeartbeats 8000000

theorem cnt_snoc (P : List (Int × Int)) (ms : List Int) (v : Int) : cntP P (ms ++ [v]) = if (onP P v).isSome = true then cntP P ms + 1 else cntP P ms := by
  rw [cntP, cntP, List.filter_append, List.filter_cons, List.filter_nil, List.length_append]
  split <;> rfl
theorem cntP_le (P : List (Int × Int)) (ms : List Int) : cntP P ms ≤ ms.length := List.length_filter_le _ _
theorem Whole_ok (l : List En) (P : List (Int × Int)) (hl : ∀ x ∈ l, inE0 x) (hn : l.length < 2 ^ 46) (hn2 : P.length < 2 ^ 46) : Con Tryd.prog gl0 (fnv 34) [Ens l, Ps P] 0 [] (Ret (Bo (wholeB l P))) := by
  refine Con.of Tryd.ok34 (nt := 45) (res := [.tmp 4]) Tryd.mixed Tryd.func34 rfl rfl rfl rfl fun κ xc hκ => hκ.run 300 ?_
  simp (disch := omega) only [push_cast, simprocAttr]
  refine Sat.less (Sat.loop (γ := Nat) (fun k => ([(14, I k), (13, I l.length), (12, Ens l), (1, Ps P)], [], 0)) (fun k => l.length - k) (fun k => k ≤ l.length ∧ wholeB (l.drop k) P = wholeB l P) ?round 0 ⟨Nat.zero_le _, rfl⟩) (by repeat' (first | exact EnvSub.nil _ | exact HeapSub.nil _ | refine EnvSub.cons rfl ?_ | refine HeapSub.cons rfl ?_ | (refine EnvSub.cons (by simp [Env.get]; done) ?_) | (refine HeapSub.cons (by simp [Heap.get]; done) ?_))) (by repeat' (first | exact EnvSub.nil _ | exact HeapSub.nil _ | refine EnvSub.cons rfl ?_ | refine HeapSub.cons rfl ?_ | (refine EnvSub.cons (by simp [Env.get]; done) ?_) | (refine HeapSub.cons (by simp [Heap.get]; done) ?_)))
  case round =>
    rintro k ⟨hk, ho⟩ ih
    dsimp only at hk ho ih ⊢
    by_cases hkl : k < l.length
    · have q1 : ((k : Int) < l.length) = True := by first | (simp only [eq_iff_iff, iff_true]; first | assumption | omega) | (simp; omega)
      have gk : (List.map eEn l).getD k [] = eEn (l.getD k default) := getD_map _ _ _ hkl
      have hd : l.drop k = l.getD k default :: l.drop (k + 1) := by
        rw [List.drop_eq_getElem_cons hkl, List.getD, List.getElem?_eq_getElem hkl]; rfl
      have hcons : wholeB (l.getD k default :: l.drop (k + 1)) P = (!(decide (0 < cntP P (l.getD k default).ms) && decide (cntP P (l.getD k default).ms < (l.getD k default).ms.length)) && wholeB (l.drop (k + 1)) P) := rfl
      rw [hd, hcons] at ho
      have hx := (hl _ (getD_mem' hkl)).2
      have hz := fun h => ih (k + 1) ⟨by omega, h⟩ (by omega)
      clear ih hcons
      generalize l.getD k default = x at *
      have te : takeN (eEn x) 6 = some (eEn x) := rfl
      have cm : cut (eEn x) 0 1 = some [Is x.ms] := rfl
      have t1 : takeN (eEn x) 1 = some [Is x.ms] := rfl
      have oz : over [.v (.slice none 0 0), .v (.int .u64 0), .v (.int .u64 0), .v (.int .u64 0), .v (.int .u64 0), Bo false] (eEn x) = some (eEn x) := rfl
      have on : ones (eEn x) := ⟨trivial, rfl, rfl, rfl, rfl, rfl, trivial⟩
      have le : (eEn x).length = 6 := rfl
      have tk : List.take 6 (eEn x) = eEn x := rfl
      have e00 : (0 ≤ (k : Int)) = True := by first | (simp only [eq_iff_iff, iff_true]; first | assumption | omega) | (simp; omega)
      refine hκ.runD 300 ?_
      simp (disch := omega) only [push_cast, simprocAttr, q1, gk, te, cm, oz, on, le, tk, t1, e00]
      refine Sat.less (Sat.loop (γ := Nat) (fun j => ([(21, I j), (20, I x.ms.length), (19, Is x.ms), (7, I (cntP P (x.ms.take j))), (6, .ptr 0 0 0 0), (14, I k), (13, I l.length), (12, Ens l), (1, Ps P)], [(0, .own (eEn x) 56)], 1)) (fun j => x.ms.length - j) (fun j => j ≤ x.ms.length) ?inner 0 (Nat.zero_le _)) (by repeat' (first | exact EnvSub.nil _ | exact HeapSub.nil _ | refine EnvSub.cons rfl ?_ | refine HeapSub.cons rfl ?_ | (refine EnvSub.cons (by simp [Env.get]; done) ?_) | (refine HeapSub.cons (by simp [Heap.get]; done) ?_))) (by repeat' (first | exact EnvSub.nil _ | exact HeapSub.nil _ | refine EnvSub.cons rfl ?_ | refine HeapSub.cons rfl ?_ | (refine EnvSub.cons (by simp [Env.get]; done) ?_) | (refine HeapSub.cons (by simp [Heap.get]; done) ?_)))
      case inner =>
        intro j hj ih2
        dsimp only at hj ih2 ⊢
        by_cases hjl : j < x.ms.length
        · have q2 : ((j : Int) < x.ms.length) = True := by first | (simp only [eq_iff_iff, iff_true]; first | assumption | omega) | (simp; omega)
          have e0 : (0 ≤ (j : Int)) = True := by first | (simp only [eq_iff_iff, iff_true]; first | assumption | omega) | (simp; omega)
          have gj : (List.map (eI .i64) x.ms).getD j [] = eI .i64 (x.ms.getD j default) := getD_map _ _ _ hjl
          have cj := On_ok P (x.ms.getD j default) hn2
          have hs : x.ms.take (j + 1) = x.ms.take j ++ [x.ms.getD j default] := by
            rw [List.take_succ_eq_append_getElem hjl, List.getD, List.getElem?_eq_getElem hjl]; rfl
          have hz2 := ih2 (j + 1) (by omega) (by omega)
          rw [hs, cnt_snoc] at hz2
          have hc := cntP_le P (x.ms.take j)
          rw [List.length_take] at hc
          clear ih2 hz
          generalize cntP P (x.ms.take j) = n at *
          generalize x.ms.getD j default = v at *
          cases hv : onP P v with
          | none =>
            rw [hv] at cj hz2
            dsimp only [Option.getD_none, Option.isSome_none] at cj
            rw [if_neg (by simp)] at hz2
            refine hκ.run 300 ?_
            simp (disch := omega) only [push_cast, simprocAttr, q1, q2, gj, e0]
            refine Does.ret hκ.hP hκ.hgl cj ⟨trivial, by first | (simp [SV.bnd, SV.bndL]; done) | (simp [SV.bnd, SV.bndL, ec_bnd]; done), by first | (simp [SV.bnd, SV.bndL]; done) | (simp [SV.bnd, SV.bndL, ec_bnd]; done) | assumption⟩ ?_
            refine hκ.run 300 ?_
            simp (disch := omega) only [push_cast, simprocAttr, q1, q2, gj, e0]
            exact hz2.less (by repeat' (first | exact EnvSub.nil _ | exact HeapSub.nil _ | refine EnvSub.cons rfl ?_ | refine HeapSub.cons rfl ?_ | (refine EnvSub.cons (by simp [Env.get]; done) ?_) | (refine HeapSub.cons (by simp [Heap.get]; done) ?_))) (by repeat' (first | exact EnvSub.nil _ | exact HeapSub.nil _ | refine EnvSub.cons rfl ?_ | refine HeapSub.cons rfl ?_ | (refine EnvSub.cons (by simp [Env.get]; done) ?_) | (refine HeapSub.cons (by simp [Heap.get]; done) ?_)))
          | some c =>
            rw [hv] at cj hz2
            dsimp only [Option.getD_some, Option.isSome_some] at cj
            rw [if_pos (by simp)] at hz2
            refine hκ.run 300 ?_
            simp (disch := omega) only [push_cast, simprocAttr, q1, q2, gj, e0]
            refine Does.ret hκ.hP hκ.hgl cj ⟨trivial, by first | (simp [SV.bnd, SV.bndL]; done) | (simp [SV.bnd, SV.bndL, ec_bnd]; done), by first | (simp [SV.bnd, SV.bndL]; done) | (simp [SV.bnd, SV.bndL, ec_bnd]; done) | assumption⟩ ?_
            refine hκ.run 300 ?_
            simp (disch := omega) only [push_cast, simprocAttr, q1, q2, gj, e0]
            exact hz2.less (by repeat' (first | exact EnvSub.nil _ | exact HeapSub.nil _ | refine EnvSub.cons rfl ?_ | refine HeapSub.cons rfl ?_ | (refine EnvSub.cons (by simp [Env.get]; done) ?_) | (refine HeapSub.cons (by simp [Heap.get]; done) ?_))) (by repeat' (first | exact EnvSub.nil _ | exact HeapSub.nil _ | refine EnvSub.cons rfl ?_ | refine HeapSub.cons rfl ?_ | (refine EnvSub.cons (by simp [Env.get]; done) ?_) | (refine HeapSub.cons (by simp [Heap.get]; done) ?_)))
        · obtain rfl : j = x.ms.length := by omega
          rw [List.take_length]
          have q2 : ((x.ms.length : Int) < x.ms.length) = False := by first | (simp only [eq_iff_iff, iff_false]; first | assumption | omega) | (simp; omega)
          generalize cntP P x.ms = n at *
          by_cases h1 : 0 < n
          · have q3 : (0 < (n : Int)) = True := by first | (simp only [eq_iff_iff, iff_true]; first | assumption | omega) | (simp; omega)
            by_cases h2 : n < x.ms.length
            · rw [decide_eq_true h1, decide_eq_true h2] at ho
              rw [← ho] at hκ
              have q4 : ((n : Int) < x.ms.length) = True := by first | (simp only [eq_iff_iff, iff_true]; first | assumption | omega) | (simp; omega)
              refine hκ.run 300 ?_
              simp (disch := omega) only [push_cast, simprocAttr, q2, q3, q4, te, cm, oz, on, le, tk, t1]
              refine hκ.ret _ _ _ _ _ _ trivial rfl ?_
              exact .ret trivial
            · rw [decide_eq_true h1, decide_eq_false h2] at ho
              have hy := hz ho
              have q4 : ((n : Int) < x.ms.length) = False := by first | (simp only [eq_iff_iff, iff_false]; first | assumption | omega) | (simp; omega)
              refine hκ.run 300 ?_
              simp (disch := omega) only [push_cast, simprocAttr, q2, q3, q4, te, cm, oz, on, le, tk, t1]
              refine Sat.via (fun i => i) (hy) (by intro i j; (repeat (first | omega | split))) (by repeat' (first | exact EnvVia.nil | refine EnvVia.cons (by first | trivial | decide | (simp [SV.bnd, SV.bndL]; done)) rfl ?_)) (by repeat' (first | exact HeapVia.nil | refine HeapVia.cons (by decide) (by first | trivial | exact Blk.bnd_own0 (by assumption) | (simp [Blk.bnd, SV.bnd, SV.bndL]; done) | exact bndL_mapV _ _ _ | exact LR.bnd (by rw [l2]; simp [bndE, SV.bnd, SV.bndL]) (by rw [l6]; decide)) (by first | (rw [Blk.ren_own0 (by assumption)]; rfl) | rfl | (simp only [Blk.ren, renL_mapV]; rfl) | (rw [LR.ren (by rw [l2] <;> rfl) (by rw [l6] <;> rfl)]; rfl)) ?_)) ⟨by have := hκ.hm; (try dsimp only at this); (first | done | omega), fun i hi => by have := hκ.hm; (try dsimp only at this); (first | omega | (dsimp only; omega) | (rw [if_neg (by omega)]))⟩ ⟨by simp, rfl⟩
          · rw [decide_eq_false h1] at ho
            have hy := hz ho
            have q3 : (0 < (n : Int)) = False := by first | (simp only [eq_iff_iff, iff_false]; first | assumption | omega) | (simp; omega)
            refine hκ.run 300 ?_
            simp (disch := omega) only [push_cast, simprocAttr, q2, q3, te, cm, oz, on, le, tk, t1]
            refine Sat.via (fun i => i) (hy) (by intro i j; (repeat (first | omega | split))) (by repeat' (first | exact EnvVia.nil | refine EnvVia.cons (by first | trivial | decide | (simp [SV.bnd, SV.bndL]; done)) rfl ?_)) (by repeat' (first | exact HeapVia.nil | refine HeapVia.cons (by decide) (by first | trivial | exact Blk.bnd_own0 (by assumption) | (simp [Blk.bnd, SV.bnd, SV.bndL]; done) | exact bndL_mapV _ _ _ | exact LR.bnd (by rw [l2]; simp [bndE, SV.bnd, SV.bndL]) (by rw [l6]; decide)) (by first | (rw [Blk.ren_own0 (by assumption)]; rfl) | rfl | (simp only [Blk.ren, renL_mapV]; rfl) | (rw [LR.ren (by rw [l2] <;> rfl) (by rw [l6] <;> rfl)]; rfl)) ?_)) ⟨by have := hκ.hm; (try dsimp only at this); (first | done | omega), fun i hi => by have := hκ.hm; (try dsimp only at this); (first | omega | (dsimp only; omega) | (rw [if_neg (by omega)]))⟩ ⟨by simp, rfl⟩
    · obtain rfl : k = l.length := by omega
      rw [List.drop_length, show wholeB [] P = true from rfl] at ho
      rw [← ho] at hκ
      have q1 : ((l.length : Int) < l.length) = False := by first | (simp only [eq_iff_iff, iff_false]; first | assumption | omega) | (simp; omega)
      refine hκ.run 300 ?_
      simp (disch := omega) only [push_cast, simprocAttr, q1]
      refine hκ.ret _ _ _ _ _ _ trivial rfl ?_
      exact .ret trivial
theorem Idle_no (l : List En) (w : List Wi) (free : Nat) (P : List (Int × Int)) (hl : ∀ x ∈ l, inE x) (hw : ∀ x ∈ w, inW x) (hn : l.length < 2 ^ 40) (hn2 : w.length < 2 ^ 40) (hf : free < 4294967296) (h : askP l w free ≠ 0) : Con Tryd.prog gl0 (fnv 33) [Ens l, Ws w, S free, Ps P] 0 [] (Ret (.tup [nilS, I (askP l w free)])) := by
  have c0 := pasked_ok l w free hl hw hn hn2 hf
  generalize askP l w free = e at *
  refine Con.of Tryd.ok33 (nt := 82) (res := [.tmp 8, .tmp 9]) Tryd.mixed Tryd.func33 rfl rfl rfl rfl fun κ xc hκ => hκ.run 300 ?_
  simp (disch := omega) only [push_cast, simprocAttr]
  refine Does.ret hκ.hP hκ.hgl c0 ⟨trivial, by first | (simp [SV.bnd, SV.bndL]; done) | (simp [SV.bnd, SV.bndL, ec_bnd]; done), by first | (simp [SV.bnd, SV.bndL]; done) | (simp [SV.bnd, SV.bndL, ec_bnd]; done) | assumption⟩ ?_
  refine hκ.run 300 ?_
  simp (disch := omega) only [push_cast, simprocAttr, h]
  refine hκ.ret _ _ _ _ _ _ trivial rfl ?_
  exact .ret (by simp [SV.bnd, SV.bndL])
theorem Idle_ok (l : List En) (w : List Wi) (free : Nat) (P : List (Int × Int)) (hl : ∀ x ∈ l, inE x) (hw : ∀ x ∈ w, inW x) (hn : l.length < 2 ^ 40) (hn2 : w.length < 2 ^ 40) (hf : free < 4294967296) (hn3 : P.length < 2 ^ 46) (h : askP l w free = 0) : Con Tryd.prog gl0 (fnv 33) [Ens l, Ws w, S free, Ps P] 0 [] (Ret (.tup [Is (bits (cutP (wantN w free P l) P)), I 0])) := by
  have c0 := pasked_ok l w free hl hw hn hn2 hf
  rw [h] at c0
  obtain ⟨hp, hf8⟩ := askP_zero h
  obtain ⟨hoL, -, -, -⟩ := pickE_zero hp
  refine Con.of Tryd.ok33 (nt := 82) (res := [.tmp 8, .tmp 9]) Tryd.mixed Tryd.func33 rfl rfl rfl rfl fun κ xc hκ => hκ.run 300 ?_
  simp (disch := omega) only [push_cast, simprocAttr]
  refine Does.ret hκ.hP hκ.hgl c0 ⟨trivial, by first | (simp [SV.bnd, SV.bndL]; done) | (simp [SV.bnd, SV.bndL, ec_bnd]; done), by first | (simp [SV.bnd, SV.bndL]; done) | (simp [SV.bnd, SV.bndL, ec_bnd]; done) | assumption⟩ ?_
  refine hκ.run 300 ?_
  simp (disch := omega) only [push_cast, simprocAttr]
  refine Sat.less (Sat.loop (γ := Nat) (fun k => ([(27, I k), (26, I l.length), (25, Ens l), (11, S (wantN w free P (l.take k))), (1, Ws w), (2, S free), (3, Ps P)], [], 0)) (fun k => l.length - k) (fun k => k ≤ l.length) ?round 0 (Nat.zero_le _)) (by repeat' (first | exact EnvSub.nil _ | exact HeapSub.nil _ | refine EnvSub.cons rfl ?_ | refine HeapSub.cons rfl ?_ | (refine EnvSub.cons (by simp [Env.get]; done) ?_) | (refine HeapSub.cons (by simp [Heap.get]; done) ?_))) (by repeat' (first | exact EnvSub.nil _ | exact HeapSub.nil _ | refine EnvSub.cons rfl ?_ | refine HeapSub.cons rfl ?_ | (refine EnvSub.cons (by simp [Env.get]; done) ?_) | (refine HeapSub.cons (by simp [Heap.get]; done) ?_)))
  case round =>
    intro k hk ih
    dsimp only at hk ih ⊢
    by_cases hkl : k < l.length
    · have q1 : ((k : Int) < l.length) = True := by first | (simp only [eq_iff_iff, iff_true]; first | assumption | omega) | (simp; omega)
      have gk : (List.map eEn l).getD k [] = eEn (l.getD k default) := getD_map _ _ _ hkl
      have hs : l.take (k + 1) = l.take k ++ [l.getD k default] := by
        rw [List.take_succ_eq_append_getElem hkl, List.getD, List.getElem?_eq_getElem hkl]; rfl
      have hz := ih (k + 1) (by omega) (by omega)
      rw [hs, wantN, List.foldl_append, List.foldl_cons, List.foldl_nil, ← wantN] at hz
      have hlt : wantN w free P (l.take k) < 256 := want_lt w free P _ 0 (by decide)
      have hok := okW_of hp (getD_mem' hkl)
      obtain ⟨hx8, -⟩ := okL_rng l [] hoL _ (getD_mem' hkl)
      clear ih hs
      generalize l.getD k default = x at *
      generalize wantN w free P (l.take k) = s at *
      have te : takeN (eEn x) 6 = some (eEn x) := rfl
      have cm : cut (eEn x) 0 1 = some [Is x.ms] := rfl
      have t1 : takeN (eEn x) 1 = some [Is x.ms] := rfl
      have oz : over [.v (.slice none 0 0), .v (.int .u64 0), .v (.int .u64 0), .v (.int .u64 0), .v (.int .u64 0), Bo false] (eEn x) = some (eEn x) := rfl
      have on : ones (eEn x) := ⟨trivial, rfl, rfl, rfl, rfl, rfl, trivial⟩
      have le : (eEn x).length = 6 := rfl
      have tk : List.take 6 (eEn x) = eEn x := rfl
      have g0 : (List.map (eI .i64) x.ms).getD 0 [] = eI .i64 (x.ms.getD 0 default) := getD_map _ _ _ (by omega)
      have c1 := On_ok P (x.ms.getD 0 default) hn3
      have q0 : (0 < (x.ms.length : Int)) = True := by first | (simp only [eq_iff_iff, iff_true]; first | assumption | omega) | (simp; omega)
      have e00 : (0 ≤ (k : Int)) = True := by first | (simp only [eq_iff_iff, iff_true]; first | assumption | omega) | (simp; omega)
      refine hκ.runD 300 ?_
      simp (disch := omega) only [push_cast, simprocAttr, q1, gk, te, cm, oz, on, le, tk, t1, g0, q0, e00]
      rw [want1] at hz
      cases hv : onP P (x.ms.getD 0 default) with
      | some c =>
        rw [hv] at c1 hz
        rw [if_neg (by simp)] at hz
        dsimp only [Option.getD_some, Option.isSome_some] at c1
        refine Does.ret hκ.hP hκ.hgl c1 ⟨trivial, by first | (simp [SV.bnd, SV.bndL]; done) | (simp [SV.bnd, SV.bndL, ec_bnd]; done), by first | (simp [SV.bnd, SV.bndL]; done) | (simp [SV.bnd, SV.bndL, ec_bnd]; done) | assumption⟩ ?_
        by_cases h1 : x.ms.length = 1
        · have q3 : ((x.ms.length : Int) = 1) = True := by first | (simp only [eq_iff_iff, iff_true]; first | assumption | omega) | (simp; omega)
          refine hκ.run 300 ?_
          simp (disch := omega) only [push_cast, simprocAttr, q1, gk, te, cm, oz, on, le, tk, t1, g0, q0, q3]
          refine Sat.via (fun i => i) (hz) (by intro i j; (repeat (first | omega | split))) (by repeat' (first | exact EnvVia.nil | refine EnvVia.cons (by first | trivial | decide | (simp [SV.bnd, SV.bndL]; done)) rfl ?_)) (by repeat' (first | exact HeapVia.nil | refine HeapVia.cons (by decide) (by first | trivial | exact Blk.bnd_own0 (by assumption) | (simp [Blk.bnd, SV.bnd, SV.bndL]; done) | exact bndL_mapV _ _ _ | exact LR.bnd (by rw [l2]; simp [bndE, SV.bnd, SV.bndL]) (by rw [l6]; decide)) (by first | (rw [Blk.ren_own0 (by assumption)]; rfl) | rfl | (simp only [Blk.ren, renL_mapV]; rfl) | (rw [LR.ren (by rw [l2] <;> rfl) (by rw [l6] <;> rfl)]; rfl)) ?_)) ⟨by have := hκ.hm; (try dsimp only at this); (first | done | omega), fun i hi => by have := hκ.hm; (try dsimp only at this); (first | omega | (dsimp only; omega) | (rw [if_neg (by omega)]))⟩ ⟨by simp, rfl⟩
        · have q3 : ((x.ms.length : Int) = 1) = False := by first | (simp only [eq_iff_iff, iff_false]; first | assumption | omega) | (simp; omega)
          refine hκ.run 300 ?_
          simp (disch := omega) only [push_cast, simprocAttr, q1, gk, te, cm, oz, on, le, tk, t1, g0, q0, q3]
          refine Sat.via (fun i => i) (hz) (by intro i j; (repeat (first | omega | split))) (by repeat' (first | exact EnvVia.nil | refine EnvVia.cons (by first | trivial | decide | (simp [SV.bnd, SV.bndL]; done)) rfl ?_)) (by repeat' (first | exact HeapVia.nil | refine HeapVia.cons (by decide) (by first | trivial | exact Blk.bnd_own0 (by assumption) | (simp [Blk.bnd, SV.bnd, SV.bndL]; done) | exact bndL_mapV _ _ _ | exact LR.bnd (by rw [l2]; simp [bndE, SV.bnd, SV.bndL]) (by rw [l6]; decide)) (by first | (rw [Blk.ren_own0 (by assumption)]; rfl) | rfl | (simp only [Blk.ren, renL_mapV]; rfl) | (rw [LR.ren (by rw [l2] <;> rfl) (by rw [l6] <;> rfl)]; rfl)) ?_)) ⟨by have := hκ.hm; (try dsimp only at this); (first | done | omega), fun i hi => by have := hκ.hm; (try dsimp only at this); (first | omega | (dsimp only; omega) | (rw [if_neg (by omega)]))⟩ ⟨by simp, rfl⟩
      | none =>
        rw [hv] at c1 hz
        dsimp only [Option.getD_none, Option.isSome_none] at c1
        refine Does.ret hκ.hP hκ.hgl c1 ⟨trivial, by first | (simp [SV.bnd, SV.bndL]; done) | (simp [SV.bnd, SV.bndL, ec_bnd]; done), by first | (simp [SV.bnd, SV.bndL]; done) | (simp [SV.bnd, SV.bndL, ec_bnd]; done) | assumption⟩ ?_
        by_cases h1 : x.ms.length = 1
        · rw [if_pos ⟨h1, rfl⟩] at hz
          have q3 : ((x.ms.length : Int) = 1) = True := by first | (simp only [eq_iff_iff, iff_true]; first | assumption | omega) | (simp; omega)
          have hokl : (wsh w x.ms).length = x.ms.length := hok.2.1
          have c2 := (wishes_ok w x.ms hw hn2 (by omega)).toRd
          have g2 : (List.map eW (wsh w x.ms)).getD 0 [] = eW ((wsh w x.ms).getD 0 default) := getD_map _ _ _ (by omega)
          have hl1 : (wsh w x.ms).length = 1 := by omega
          have hyw : inW ((wsh w x.ms).getD 0 default) := hw _ (List.mem_filter.1 (getD_mem' (show 0 < (wsh w x.ms).length by omega))).1
          have c3 := allows_ok ((wsh w x.ms).getD 0 default).m free hyw.2.2 hf
          have ha := alw_lt ((wsh w x.ms).getD 0 default).m free
          have e2 := or32 (a := s) (b := alw ((wsh w x.ms).getD 0 default).m free) (by omega) (by omega)
          generalize wsh w x.ms = ys at *
          generalize ys.getD 0 default = y at *
          rw [eW] at g2
          have q4 : (0 < (ys.length : Int)) = True := by first | (simp only [eq_iff_iff, iff_true]; first | assumption | omega) | (simp; omega)
          refine hκ.run 300 ?_
          simp (disch := omega) only [push_cast, simprocAttr, q1, gk, te, cm, oz, on, le, tk, t1, g0, q0, q3, g2, q4, e2]
          refine Does.ret hκ.hP hκ.hgl c2 ⟨trivial, by first | (simp [SV.bnd, SV.bndL]; done) | (simp [SV.bnd, SV.bndL, ec_bnd]; done), by first | (simp [SV.bnd, SV.bndL]; done) | (simp [SV.bnd, SV.bndL, ec_bnd]; done) | assumption⟩ ?_
          refine hκ.run 300 ?_
          simp (disch := omega) only [push_cast, simprocAttr, q1, gk, te, cm, oz, on, le, tk, t1, g0, q0, q3, g2, q4, e2]
          refine Does.ret hκ.hP hκ.hgl c3 ⟨trivial, by first | (simp [SV.bnd, SV.bndL]; done) | (simp [SV.bnd, SV.bndL, ec_bnd]; done), by first | (simp [SV.bnd, SV.bndL]; done) | (simp [SV.bnd, SV.bndL, ec_bnd]; done) | assumption⟩ ?_
          refine hκ.run 300 ?_
          simp (disch := omega) only [push_cast, simprocAttr, q1, gk, te, cm, oz, on, le, tk, t1, g0, q0, q3, g2, q4, e2]
          refine Sat.via (fun i => i) (hz) (by intro i j; (repeat (first | omega | split))) (by repeat' (first | exact EnvVia.nil | refine EnvVia.cons (by first | trivial | decide | (simp [SV.bnd, SV.bndL]; done)) rfl ?_)) (by repeat' (first | exact HeapVia.nil | refine HeapVia.cons (by decide) (by first | trivial | exact Blk.bnd_own0 (by assumption) | (simp [Blk.bnd, SV.bnd, SV.bndL]; done) | exact bndL_mapV _ _ _ | exact LR.bnd (by rw [l2]; simp [bndE, SV.bnd, SV.bndL]) (by rw [l6]; decide)) (by first | (rw [Blk.ren_own0 (by assumption)]; rfl) | rfl | (simp only [Blk.ren, renL_mapV]; rfl) | (rw [LR.ren (by rw [l2] <;> rfl) (by rw [l6] <;> rfl)]; rfl)) ?_)) ⟨by have := hκ.hm; (try dsimp only at this); (first | done | omega), fun i hi => by have := hκ.hm; (try dsimp only at this); (first | omega | (dsimp only; omega) | (rw [if_neg (by omega)]))⟩ ⟨by simp, rfl⟩
        · rw [if_neg (fun h => h1 h.1)] at hz
          have q3 : ((x.ms.length : Int) = 1) = False := by first | (simp only [eq_iff_iff, iff_false]; first | assumption | omega) | (simp; omega)
          refine hκ.run 300 ?_
          simp (disch := omega) only [push_cast, simprocAttr, q1, gk, te, cm, oz, on, le, tk, t1, g0, q0, q3]
          refine Sat.via (fun i => i) (hz) (by intro i j; (repeat (first | omega | split))) (by repeat' (first | exact EnvVia.nil | refine EnvVia.cons (by first | trivial | decide | (simp [SV.bnd, SV.bndL]; done)) rfl ?_)) (by repeat' (first | exact HeapVia.nil | refine HeapVia.cons (by decide) (by first | trivial | exact Blk.bnd_own0 (by assumption) | (simp [Blk.bnd, SV.bnd, SV.bndL]; done) | exact bndL_mapV _ _ _ | exact LR.bnd (by rw [l2]; simp [bndE, SV.bnd, SV.bndL]) (by rw [l6]; decide)) (by first | (rw [Blk.ren_own0 (by assumption)]; rfl) | rfl | (simp only [Blk.ren, renL_mapV]; rfl) | (rw [LR.ren (by rw [l2] <;> rfl) (by rw [l6] <;> rfl)]; rfl)) ?_)) ⟨by have := hκ.hm; (try dsimp only at this); (first | done | omega), fun i hi => by have := hκ.hm; (try dsimp only at this); (first | omega | (dsimp only; omega) | (rw [if_neg (by omega)]))⟩ ⟨by simp, rfl⟩
    · obtain rfl : k = l.length := by omega
      rw [List.take_length]
      have q1 : ((l.length : Int) < l.length) = False := by first | (simp only [eq_iff_iff, iff_false]; first | assumption | omega) | (simp; omega)
      have hlt : wantN w free P l < 256 := want_lt w free P _ 0 (by decide)
      generalize wantN w free P l = s at *
      refine hκ.run 300 ?_
      simp (disch := omega) only [push_cast, simprocAttr, q1]
      refine Sat.less (Sat.loop (γ := Nat) (fun k => ([(62, I k), (61, I P.length), (60, Ps P), (11, S (cutP s (P.take k)))], [], 0)) (fun k => P.length - k) (fun k => k ≤ P.length) ?round2 0 (Nat.zero_le _)) (by repeat' (first | exact EnvSub.nil _ | exact HeapSub.nil _ | refine EnvSub.cons rfl ?_ | refine HeapSub.cons rfl ?_ | (refine EnvSub.cons (by simp [Env.get]; done) ?_) | (refine HeapSub.cons (by simp [Heap.get]; done) ?_))) (by repeat' (first | exact EnvSub.nil _ | exact HeapSub.nil _ | refine EnvSub.cons rfl ?_ | refine HeapSub.cons rfl ?_ | (refine EnvSub.cons (by simp [Env.get]; done) ?_) | (refine HeapSub.cons (by simp [Heap.get]; done) ?_)))
      case round2 =>
        intro k hk ih
        dsimp only at hk ih ⊢
        have hcl : ∀ (Q : List (Int × Int)) (s : Nat), s < 256 → cutP s Q < 256 := fun Q => by
          induction Q with
          | nil => exact fun s h => h
          | cons p Q ihQ =>
            intro s h
            rw [cutP, List.foldl_cons]
            refine ihQ _ ?_
            rw [cut1]
            split
            · exact Nat.lt_of_le_of_lt (dif_le _ _) h
            · exact h
        by_cases hkl : k < P.length
        · have q1 : ((k : Int) < P.length) = True := by first | (simp only [eq_iff_iff, iff_true]; first | assumption | omega) | (simp; omega)
          have gk : (List.map eP P).getD k [] = eP (P.getD k default) := getD_map _ _ _ hkl
          have hs : P.take (k + 1) = P.take k ++ [P.getD k default] := by
            rw [List.take_succ_eq_append_getElem hkl, List.getD, List.getElem?_eq_getElem hkl]; rfl
          have hz := ih (k + 1) (by omega) (by omega)
          rw [hs, cutP, List.foldl_append, List.foldl_cons, List.foldl_nil, ← cutP, cut1] at hz
          have hq := hcl (P.take k) s hlt
          clear ih hs hcl
          generalize P.getD k default = p at *
          generalize cutP s (P.take k) = s2 at *
          rw [eP] at gk
          have e00 : (0 ≤ (k : Int)) = True := by first | (simp only [eq_iff_iff, iff_true]; first | assumption | omega) | (simp; omega)
          by_cases h1 : 0 ≤ p.2
          · have q2 : ((0 : Int) ≤ p.2) = True := by first | (simp only [eq_iff_iff, iff_true]; first | assumption | omega) | (simp; omega)
            by_cases h2 : p.2 < 8
            · have q3 : (p.2 < 8) = True := by first | (simp only [eq_iff_iff, iff_true]; first | assumption | omega) | (simp; omega)
              rw [if_pos ⟨h1, h2⟩] at hz
              have pw := pow32 p.2.toNat (by omega)
              have hp2 := pow_lt_256 (c := p.2.toNat) (by omega)
              have an := andNot32 (a := s2) (b := 2 ^ p.2.toNat) (by omega) (by omega)
              have an : ibits .andNot .u32 (s2 : Int) ((2 : Int) ^ p.2.toNat) = ((dif s2 (2 ^ p.2.toNat) : Nat) : Int) := by
                rwa [Int.natCast_pow] at an
              refine hκ.run 300 ?_
              simp (disch := omega) only [push_cast, simprocAttr, q1, gk, q2, q3, pw, an, e00]
              refine Sat.via (fun i => i) (hz) (by intro i j; (repeat (first | omega | split))) (by repeat' (first | exact EnvVia.nil | refine EnvVia.cons (by first | trivial | decide | (simp [SV.bnd, SV.bndL]; done)) rfl ?_)) (by repeat' (first | exact HeapVia.nil | refine HeapVia.cons (by decide) (by first | trivial | exact Blk.bnd_own0 (by assumption) | (simp [Blk.bnd, SV.bnd, SV.bndL]; done) | exact bndL_mapV _ _ _ | exact LR.bnd (by rw [l2]; simp [bndE, SV.bnd, SV.bndL]) (by rw [l6]; decide)) (by first | (rw [Blk.ren_own0 (by assumption)]; rfl) | rfl | (simp only [Blk.ren, renL_mapV]; rfl) | (rw [LR.ren (by rw [l2] <;> rfl) (by rw [l6] <;> rfl)]; rfl)) ?_)) ⟨by have := hκ.hm; (try dsimp only at this); (first | done | omega), fun i hi => by have := hκ.hm; (try dsimp only at this); (first | omega | (dsimp only; omega) | (rw [if_neg (by omega)]))⟩ ⟨by simp, rfl⟩
            · rw [if_neg (fun h => h2 h.2)] at hz
              have q3 : (p.2 < 8) = False := by first | (simp only [eq_iff_iff, iff_false]; first | assumption | omega) | (simp; omega)
              refine hκ.run 300 ?_
              simp (disch := omega) only [push_cast, simprocAttr, q1, gk, q2, q3, e00]
              refine Sat.via (fun i => i) (hz) (by intro i j; (repeat (first | omega | split))) (by repeat' (first | exact EnvVia.nil | refine EnvVia.cons (by first | trivial | decide | (simp [SV.bnd, SV.bndL]; done)) rfl ?_)) (by repeat' (first | exact HeapVia.nil | refine HeapVia.cons (by decide) (by first | trivial | exact Blk.bnd_own0 (by assumption) | (simp [Blk.bnd, SV.bnd, SV.bndL]; done) | exact bndL_mapV _ _ _ | exact LR.bnd (by rw [l2]; simp [bndE, SV.bnd, SV.bndL]) (by rw [l6]; decide)) (by first | (rw [Blk.ren_own0 (by assumption)]; rfl) | rfl | (simp only [Blk.ren, renL_mapV]; rfl) | (rw [LR.ren (by rw [l2] <;> rfl) (by rw [l6] <;> rfl)]; rfl)) ?_)) ⟨by have := hκ.hm; (try dsimp only at this); (first | done | omega), fun i hi => by have := hκ.hm; (try dsimp only at this); (first | omega | (dsimp only; omega) | (rw [if_neg (by omega)]))⟩ ⟨by simp, rfl⟩
          · rw [if_neg (fun h => h1 h.1)] at hz
            have q2 : ((0 : Int) ≤ p.2) = False := by first | (simp only [eq_iff_iff, iff_false]; first | assumption | omega) | (simp; omega)
            refine hκ.run 300 ?_
            simp (disch := omega) only [push_cast, simprocAttr, q1, gk, q2, e00]
            refine Sat.via (fun i => i) (hz) (by intro i j; (repeat (first | omega | split))) (by repeat' (first | exact EnvVia.nil | refine EnvVia.cons (by first | trivial | decide | (simp [SV.bnd, SV.bndL]; done)) rfl ?_)) (by repeat' (first | exact HeapVia.nil | refine HeapVia.cons (by decide) (by first | trivial | exact Blk.bnd_own0 (by assumption) | (simp [Blk.bnd, SV.bnd, SV.bndL]; done) | exact bndL_mapV _ _ _ | exact LR.bnd (by rw [l2]; simp [bndE, SV.bnd, SV.bndL]) (by rw [l6]; decide)) (by first | (rw [Blk.ren_own0 (by assumption)]; rfl) | rfl | (simp only [Blk.ren, renL_mapV]; rfl) | (rw [LR.ren (by rw [l2] <;> rfl) (by rw [l6] <;> rfl)]; rfl)) ?_)) ⟨by have := hκ.hm; (try dsimp only at this); (first | done | omega), fun i hi => by have := hκ.hm; (try dsimp only at this); (first | omega | (dsimp only; omega) | (rw [if_neg (by omega)]))⟩ ⟨by simp, rfl⟩
        · obtain rfl : k = P.length := by omega
          rw [List.take_length]
          have q1 : ((P.length : Int) < P.length) = False := by first | (simp only [eq_iff_iff, iff_false]; first | assumption | omega) | (simp; omega)
          have hq := hcl P s hlt
          have cl := (list_ok (cutP s P) (by omega)).toRd
          generalize cutP s P = s2 at *
          refine hκ.run 300 ?_
          simp (disch := omega) only [push_cast, simprocAttr, q1]
          refine Does.ret hκ.hP hκ.hgl cl ⟨trivial, by first | (simp [SV.bnd, SV.bndL]; done) | (simp [SV.bnd, SV.bndL, ec_bnd]; done), by first | (simp [SV.bnd, SV.bndL]; done) | (simp [SV.bnd, SV.bndL, ec_bnd]; done) | assumption⟩ ?_
          refine hκ.run 300 ?_
          simp (disch := omega) only [push_cast, simprocAttr, q1]
          refine hκ.ret _ _ _ _ _ _ trivial rfl ?_
          exact .ret (by simp [SV.bnd, SV.bndL])
end Go.Proofs.YtnjgmjcokcfmkaaDoor
