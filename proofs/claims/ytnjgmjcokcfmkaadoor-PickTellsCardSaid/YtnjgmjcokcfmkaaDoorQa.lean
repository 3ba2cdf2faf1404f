/- What may be picked from: pick.Check. No condition. -/
import Derived.Test.YtnjgmjcokcfmkaaDoorPl
import Derived.Test.YtnjgmjcokcfmkaaDoorGm
namespace Go.Proofs.YtnjgmjcokcfmkaaDoor
open Go Go.Sy
set_option maxRecDepth 100000
set_option linter.unusedSimpArgs false
set_option linter.unusedVariables false
set_option maxHeartbeats 4000000

/-- An entity: its members, its times, its order, whether it is fresh. -/
structure En where
  ms : List Int
  hi : Int
  lo : Int
  w : Int
  o : Int
  fr : Bool
instance : Inhabited En := ⟨⟨[], 0, 0, 0, 0, false⟩⟩
def eEn (x : En) : List SV := [Is x.ms, .v (.int .u64 x.hi), .v (.int .u64 x.lo), .v (.int .u64 x.w), .v (.int .u64 x.o), Bo x.fr]
abbrev Ens (l : List En) : SV := .rd 6 (l.map eEn)
abbrev inI (n : Int) : Prop := -9223372036854775808 ≤ n ∧ n ≤ 9223372036854775807
abbrev inE (x : En) : Prop := (∀ n ∈ x.ms, inI n) ∧ x.ms.length < 2 ^ 40
/-- May one more stand behind these? -/
def ok1M (all pre : List Int) (v : Int) : Bool := decide (1 ≤ v ∧ v ≤ 16) && (!((all ++ pre).any fun u => decide (u = v)) && !(decide (0 < pre.length) && decide (v ≤ pre.getD (pre.length - 1) default)))
def okMs (all : List Int) : List Int → List Int → Bool
  | _, [] => true
  | pre, v :: ms => ok1M all pre v && okMs all (pre ++ [v]) ms
def okX (all : List Int) (x : En) : Bool := decide (1 ≤ x.ms.length ∧ x.ms.length ≤ 8) && okMs all [] x.ms
def okL : List Int → List En → Bool
  | _, [] => true
  | all, x :: l => okX all x && okL (all ++ x.ms) l
def allM (l : List En) : List Int := l.flatMap En.ms
def ok1V (all : List Int) (pre : List Wi) (w : Wi) : Bool := (all.any fun u => decide (u = w.v)) && !(decide (0 < pre.length) && decide (w.v ≤ (pre.getD (pre.length - 1) default).v))
def okV (all : List Int) : List Wi → List Wi → Bool
  | _, [] => true
  | pre, w :: l => ok1V all pre w && okV all (pre ++ [w]) l
def pickE (l : List En) (w : List Wi) : Int := if (okL [] l && (okV (allM l) [] w && decide (w.length = (allM l).length))) = true then (if okWs [] w = true then 0 else 230) else 290
theorem allM_snoc (l : List En) (x : En) : allM (l ++ [x]) = allM l ++ x.ms := by simp [allM]
theorem okMs_rng : ∀ (ms all pre : List Int), okMs all pre ms = true → ∀ v ∈ ms, 1 ≤ v ∧ v ≤ 16
  | [], _, _, _ => fun v hv => nomatch hv
  | u :: ms, all, pre, h => fun v hv => by
    rw [okMs, Bool.and_eq_true, ok1M, Bool.and_eq_true, decide_eq_true_eq] at h
    rcases List.mem_cons.1 hv with rfl | hv
    · exact h.1.1
    · exact okMs_rng ms all _ h.2 v hv
theorem okL_rng : ∀ (l : List En) (all : List Int), okL all l = true → ∀ x ∈ l, (1 ≤ x.ms.length ∧ x.ms.length ≤ 8) ∧ ∀ v ∈ x.ms, 1 ≤ v ∧ v ≤ 16
  | [], _, _ => fun v hv => nomatch hv
  | y :: l, all, h => fun x hx => by
    rw [okL, Bool.and_eq_true, okX, Bool.and_eq_true, decide_eq_true_eq] at h
    rcases List.mem_cons.1 hx with rfl | hx
    · exact ⟨h.1.1, okMs_rng _ _ _ h.1.2⟩
    · exact okL_rng l _ h.2 x hx
theorem Check_ok (l : List En) (w : List Wi) (hl : ∀ x ∈ l, inE x) (hw : ∀ x ∈ w, inW x) (hn : l.length < 2 ^ 40) (hn2 : w.length < 2 ^ 40) : Con Tryd.prog gl0 (fnv 14) [Ens l, Ws w] 0 [] (Ret (I (pickE l w))) := by
  have hp : pickE l w = if (okL [] l && (okV (allM l) [] w && decide (w.length = (allM l).length))) = true then (if okWs [] w = true then 0 else 230) else 290 := rfl
  have cP := pcheck_ok w hw hn2
  rw [hp]
  clear hp
  refine Con.of Tryd.ok14 (nt := 112) (res := [.tmp 4]) Tryd.mixed Tryd.func14 rfl rfl rfl rfl fun κ xc hκ => hκ.run 300 ?_
  simp (disch := omega) only [push_cast, simprocAttr]
  apply Sat.join (κ := κ) (x := xc) (α := List Bool) (nx := 1) (dfs := []) (fun t => okL [] l = true ∧ marks 17 (fun i => (allM l).any fun u => decide (u = i)) t) (fun t => ([(6, I (allM l).length), (5, .ptr 0 0 0 0), (1, Ws w)], [(0, .row 1 17 80 (t.map eB))]))
  · intro hj
    refine Sat.less (Sat.loop (γ := Nat × List Bool) (fun g => ([(15, I g.1), (14, I l.length), (13, Ens l), (6, I (allM (l.take g.1)).length), (5, .ptr 0 0 0 0), (1, Ws w)], [(0, .row 1 17 80 (g.2.map eB))], 1)) (fun g => l.length - g.1)
      (fun g => g.1 ≤ l.length ∧ okL (allM (l.take g.1)) (l.drop g.1) = okL [] l ∧ marks 17 (fun i => (allM (l.take g.1)).any fun u => decide (u = i)) g.2 ∧ (allM (l.take g.1)).length ≤ 8 * g.1) ?round (0, List.replicate 17 false) ⟨Nat.zero_le _, rfl, marks_none _ _ (fun i => rfl), Nat.zero_le _⟩) (by repeat' (first | exact EnvSub.nil _ | exact HeapSub.nil _ | refine EnvSub.cons rfl ?_ | refine HeapSub.cons rfl ?_ | (refine EnvSub.cons (by simp [Env.get]; done) ?_) | (refine HeapSub.cons (by simp [Heap.get]; done) ?_))) (by repeat' (first | exact EnvSub.nil _ | exact HeapSub.nil _ | refine EnvSub.cons rfl ?_ | refine HeapSub.cons rfl ?_ | (refine EnvSub.cons (by simp [Env.get]; done) ?_) | (refine HeapSub.cons (by simp [Heap.get]; done) ?_)))
    case round =>
      rintro ⟨k, t⟩ ⟨hk, ho, hm, hal⟩ ih
      dsimp only at hk ho hm hal ih ⊢
      by_cases hkl : k < l.length
      · have q1 : ((k : Int) < l.length) = True := by first | (simp only [eq_iff_iff, iff_true]; first | assumption | omega) | (simp; omega)
        have gk : (List.map eEn l).getD k [] = eEn (l.getD k default) := getD_map _ _ _ hkl
        have hd : l.drop k = l.getD k default :: l.drop (k + 1) := by
          rw [List.drop_eq_getElem_cons hkl, List.getD, List.getElem?_eq_getElem hkl]; rfl
        have ht : l.take (k + 1) = l.take k ++ [l.getD k default] := by
          rw [List.take_succ_eq_append_getElem hkl, List.getD, List.getElem?_eq_getElem hkl]; rfl
        have hx := hl _ (getD_mem' hkl)
        rw [hd, okL] at ho
        have hz := fun t h1 h2 h3 => ih (k + 1, t) ⟨by omega, h1, h2, h3⟩ (by dsimp only; omega)
        dsimp only at hz
        rw [ht, allM_snoc] at hz
        clear ih hd ht
        generalize l.getD k default = x at *
        generalize allM (l.take k) = all at *
        generalize l.drop (k + 1) = rest at *
        have te : takeN (eEn x) 6 = some (eEn x) := rfl
        have cm : cut (eEn x) 0 1 = some [Is x.ms] := rfl
        have oe : ∀ y, over (eEn y) (eEn x) = some (eEn x) := fun _ => rfl
        have oz : over [.v (.slice none 0 0), .v (.int .u64 0), .v (.int .u64 0), .v (.int .u64 0), .v (.int .u64 0), Bo false] (eEn x) = some (eEn x) := rfl
        have on : ones (eEn x) := ⟨trivial, rfl, rfl, rfl, rfl, rfl, trivial⟩
        have le : (eEn x).length = 6 := rfl
        have tk : List.take 6 (eEn x) = eEn x := rfl
        by_cases hlen : 1 ≤ x.ms.length ∧ x.ms.length ≤ 8
        · have q2 : ((x.ms.length : Int) < 1) = False := by first | (simp only [eq_iff_iff, iff_false]; first | assumption | omega) | (simp; omega)
          have q3 : (8 < (x.ms.length : Int)) = False := by first | (simp only [eq_iff_iff, iff_false]; first | assumption | omega) | (simp; omega)
          refine hκ.run 300 ?_
          simp (disch := omega) only [push_cast, simprocAttr, q1, gk, te, cm, oz, on, le, tk, q2, q3]
          (repeat (refine ⟨by first | omega | (refine ⟨?_, ?_⟩ <;> omega) | trivial | (simp; done) | decide +kernel, fun _ => ?_⟩))
          have hox : okX all x = okMs all [] x.ms := by rw [okX, decide_eq_true hlen, Bool.true_and]
          refine Sat.less (Sat.loop (γ := Nat × List Bool) (fun g => ([(32, I g.1), (31, I x.ms.length), (30, Is x.ms), (8, .ptr 1 0 0 0), (15, I k), (14, I l.length), (13, Ens l), (6, I (all.length + g.1 : Nat)), (5, .ptr 0 0 0 0), (1, Ws w)], [(1, .own (eEn x) 56), (0, .row 1 17 80 (g.2.map eB))], 2)) (fun g => x.ms.length - g.1)
            (fun g => g.1 ≤ x.ms.length ∧ okMs all (x.ms.take g.1) (x.ms.drop g.1) = okMs all [] x.ms ∧ marks 17 (fun i => (all ++ x.ms.take g.1).any fun u => decide (u = i)) g.2) ?inner (0, t) ⟨Nat.zero_le _, rfl, by simpa using hm⟩) (by repeat' (first | exact EnvSub.nil _ | exact HeapSub.nil _ | refine EnvSub.cons rfl ?_ | refine HeapSub.cons rfl ?_ | (refine EnvSub.cons (by simp [Env.get]; done) ?_) | (refine HeapSub.cons (by simp [Heap.get]; done) ?_))) (by repeat' (first | exact EnvSub.nil _ | exact HeapSub.nil _ | refine EnvSub.cons rfl ?_ | refine HeapSub.cons rfl ?_ | (refine EnvSub.cons (by simp [Env.get]; done) ?_) | (refine HeapSub.cons (by simp [Heap.get]; done) ?_)))
          case inner =>
            rintro ⟨j, u⟩ ⟨hj, hoj, hmj⟩ ih2
            dsimp only at hj hoj hmj ih2 ⊢
            have l17 := hmj.1
            by_cases hjl : j < x.ms.length
            · have q4 : ((j : Int) < x.ms.length) = True := by first | (simp only [eq_iff_iff, iff_true]; first | assumption | omega) | (simp; omega)
              have gj : (List.map (eI .i64) x.ms).getD j [] = eI .i64 (x.ms.getD j default) := getD_map _ _ _ hjl
              have gj1 : 0 < j → (List.map (eI .i64) x.ms).getD (j - 1) [] = eI .i64 (x.ms.getD (j - 1) default) := fun h => getD_map _ _ _ (by omega)
              have hdj : x.ms.drop j = x.ms.getD j default :: x.ms.drop (j + 1) := by
                rw [List.drop_eq_getElem_cons hjl, List.getD, List.getElem?_eq_getElem hjl]; rfl
              have htj : x.ms.take (j + 1) = x.ms.take j ++ [x.ms.getD j default] := by
                rw [List.take_succ_eq_append_getElem hjl, List.getD, List.getElem?_eq_getElem hjl]; rfl
              have hin := hx.1 _ (getD_mem' hjl)
              have hlast : 0 < j → (x.ms.take j).getD ((x.ms.take j).length - 1) default = x.ms.getD (j - 1) default := fun h => by
                rw [List.length_take, Nat.min_eq_left hj, List.getD, List.getD, List.getElem?_take_of_lt (by omega)]
              rw [hdj, okMs, ok1M] at hoj
              have hy := fun u h1 h2 => ih2 (j + 1, u) ⟨by omega, h1, h2⟩ (by dsimp only; omega)
              dsimp only at hy
              rw [htj, ← List.append_assoc] at hy
              have hpl : (x.ms.take j).length = j := by rw [List.length_take]; omega
              rw [hpl] at hoj hlast
              clear ih2 hdj htj
              generalize x.ms.getD j default = v at *
              generalize x.ms.getD (j - 1) default = pv at *
              generalize x.ms.drop (j + 1) = ms2 at *
              generalize x.ms.take j = pre at *
              have hj1 : ((j : Int) - 1).toNat = j - 1 := by omega
              have bad : ok1M all pre v = false → okL [] l = false := fun h => by
                rw [← ho, hox, ← hoj]
                rw [ok1M, hpl] at h
                rw [h, Bool.false_and, Bool.false_and]
              rw [ok1M, hpl] at bad
              by_cases b1 : v < 1
              · rw [bad (by rw [decide_eq_false (by omega), Bool.false_and]), Bool.false_and, if_neg (by decide)] at hκ
                have z1 : (v < 1) = True := by first | (simp only [eq_iff_iff, iff_true]; first | assumption | omega) | (simp; omega)
                refine hκ.run 300 ?_
                simp (disch := omega) only [push_cast, simprocAttr, q4, gj, cm, on, le, tk, z1]
                (repeat (refine ⟨by first | omega | (refine ⟨?_, ?_⟩ <;> omega) | trivial | (simp; done) | decide +kernel, fun _ => ?_⟩))
                refine hκ.ret _ _ _ _ _ _ trivial rfl ?_
                exact .ret trivial
              have z1 : (v < 1) = False := by first | (simp only [eq_iff_iff, iff_false]; first | assumption | omega) | (simp; omega)
              by_cases b2 : 16 < v
              · rw [bad (by rw [decide_eq_false (by omega), Bool.false_and]), Bool.false_and, if_neg (by decide)] at hκ
                have z2 : (16 < v) = True := by first | (simp only [eq_iff_iff, iff_true]; first | assumption | omega) | (simp; omega)
                refine hκ.run 300 ?_
                simp (disch := omega) only [push_cast, simprocAttr, q4, gj, cm, on, le, tk, z1, z2]
                (repeat (refine ⟨by first | omega | (refine ⟨?_, ?_⟩ <;> omega) | trivial | (simp; done) | decide +kernel, fun _ => ?_⟩))
                refine hκ.ret _ _ _ _ _ _ trivial rfl ?_
                exact .ret trivial
              have z2 : (16 < v) = False := by first | (simp only [eq_iff_iff, iff_false]; first | assumption | omega) | (simp; omega)
              have hmg : u.getD v.toNat default = (all ++ pre).any fun a => decide (a = v) := marks_get (i := v) hmj (by omega) (by omega)
              cases b3 : (all ++ pre).any fun a => decide (a = v)
              · rw [b3] at hmg hoj bad
                have hc : (decide (1 ≤ v ∧ v ≤ 16)) = true := decide_eq_true ⟨by omega, by omega⟩
                rw [hc, Bool.true_and, Bool.not_false, Bool.true_and] at hoj bad
                have mset := marks_set (i := v) hmj (by omega)
                have mv : marks 17 (fun i => (all ++ pre ++ [v]).any fun a => decide (a = i)) (u.set v.toNat true) := by
                  simpa only [List.any_append, List.any_cons, List.any_nil, Bool.or_false] using mset
                by_cases b4 : 0 < j
                · have gj1 := gj1 b4
                  have hlast := hlast b4
                  rw [hlast] at hoj bad
                  rw [decide_eq_true b4, Bool.true_and] at hoj bad
                  have z4 : ((0 : Int) < j) = True := by first | (simp only [eq_iff_iff, iff_true]; first | assumption | omega) | (simp; omega)
                  by_cases b5 : v ≤ pv
                  · rw [bad (by rw [decide_eq_true b5]; rfl), Bool.false_and, if_neg (by decide)] at hκ
                    have z5 : (v ≤ pv) = True := by first | (simp only [eq_iff_iff, iff_true]; first | assumption | omega) | (simp; omega)
                    refine hκ.run 300 ?_
                    simp (disch := omega) only [push_cast, simprocAttr, q4, gj, cm, on, le, tk, z1, z2, z4, z5, hmg, hj1, gj1]
                    (repeat (refine ⟨by first | omega | (refine ⟨?_, ?_⟩ <;> omega) | trivial | (simp; done) | decide +kernel, fun _ => ?_⟩))
                    refine hκ.ret _ _ _ _ _ _ trivial rfl ?_
                    exact .ret trivial
                  · have hy := hy (u.set v.toNat true) (by rw [← hoj, decide_eq_false b5]; rfl) mv
                    have z5 : (v ≤ pv) = False := by first | (simp only [eq_iff_iff, iff_false]; first | assumption | omega) | (simp; omega)
                    refine hκ.run 300 ?_
                    simp (disch := omega) only [push_cast, simprocAttr, q4, gj, cm, on, le, tk, z1, z2, z4, z5, hmg, hj1, gj1, setEB]
                    (repeat (refine ⟨by first | omega | (refine ⟨?_, ?_⟩ <;> omega) | trivial | (simp; done) | decide +kernel, fun _ => ?_⟩))
                    simp only [List.length_append, List.length_cons, List.length_nil, List.length_singleton, List.length_map, List.length_set, List.length_replicate, Nat.zero_add, Nat.add_zero, Int.natCast_add, Int.natCast_one, Int.ofNat_eq_natCast, List.map_append, List.map_cons, List.map_nil, List.take_length, eI, eB] at hy ⊢
                    refine Sat.via (fun i => i) (hy) (by intro i j; (repeat (first | omega | split))) (by repeat' (first | exact EnvVia.nil | refine EnvVia.cons (by first | trivial | decide | (simp [SV.bnd, SV.bndL]; done)) rfl ?_)) (by repeat' (first | exact HeapVia.nil | refine HeapVia.cons (by decide) (by first | trivial | exact Blk.bnd_own0 (by assumption) | (simp [Blk.bnd, SV.bnd, SV.bndL]; done) | exact bndL_mapV _ _ _ | exact LR.bnd (by rw [l2]; simp [bndE, SV.bnd, SV.bndL]) (by rw [l6]; decide)) (by first | (rw [Blk.ren_own0 (by assumption)]; rfl) | rfl | (simp only [Blk.ren, renL_mapV]; rfl) | (rw [LR.ren (by rw [l2] <;> rfl) (by rw [l6] <;> rfl)]; rfl)) ?_)) ⟨by have := hκ.hm; (try dsimp only at this); (first | done | omega), fun i hi => by have := hκ.hm; (try dsimp only at this); (first | omega | (dsimp only; omega) | (rw [if_neg (by omega)]))⟩ ⟨by simp, rfl⟩
                · have hy := hy (u.set v.toNat true) (by rw [← hoj, decide_eq_false b4]; rfl) mv
                  have z4 : ((0 : Int) < j) = False := by first | (simp only [eq_iff_iff, iff_false]; first | assumption | omega) | (simp; omega)
                  refine hκ.run 300 ?_
                  simp (disch := omega) only [push_cast, simprocAttr, q4, gj, cm, on, le, tk, z1, z2, z4, hmg, setEB]
                  (repeat (refine ⟨by first | omega | (refine ⟨?_, ?_⟩ <;> omega) | trivial | (simp; done) | decide +kernel, fun _ => ?_⟩))
                  simp only [List.length_append, List.length_cons, List.length_nil, List.length_singleton, List.length_map, List.length_set, List.length_replicate, Nat.zero_add, Nat.add_zero, Int.natCast_add, Int.natCast_one, Int.ofNat_eq_natCast, List.map_append, List.map_cons, List.map_nil, List.take_length, eI, eB] at hy ⊢
                  refine Sat.via (fun i => i) (hy) (by intro i j; (repeat (first | omega | split))) (by repeat' (first | exact EnvVia.nil | refine EnvVia.cons (by first | trivial | decide | (simp [SV.bnd, SV.bndL]; done)) rfl ?_)) (by repeat' (first | exact HeapVia.nil | refine HeapVia.cons (by decide) (by first | trivial | exact Blk.bnd_own0 (by assumption) | (simp [Blk.bnd, SV.bnd, SV.bndL]; done) | exact bndL_mapV _ _ _ | exact LR.bnd (by rw [l2]; simp [bndE, SV.bnd, SV.bndL]) (by rw [l6]; decide)) (by first | (rw [Blk.ren_own0 (by assumption)]; rfl) | rfl | (simp only [Blk.ren, renL_mapV]; rfl) | (rw [LR.ren (by rw [l2] <;> rfl) (by rw [l6] <;> rfl)]; rfl)) ?_)) ⟨by have := hκ.hm; (try dsimp only at this); (first | done | omega), fun i hi => by have := hκ.hm; (try dsimp only at this); (first | omega | (dsimp only; omega) | (rw [if_neg (by omega)]))⟩ ⟨by simp, rfl⟩
              · rw [bad (by rw [b3]; simp), Bool.false_and, if_neg (by decide)] at hκ
                rw [b3] at hmg
                refine hκ.run 300 ?_
                simp (disch := omega) only [push_cast, simprocAttr, q4, gj, cm, on, le, tk, z1, z2, hmg]
                (repeat (refine ⟨by first | omega | (refine ⟨?_, ?_⟩ <;> omega) | trivial | (simp; done) | decide +kernel, fun _ => ?_⟩))
                refine hκ.ret _ _ _ _ _ _ trivial rfl ?_
                exact .ret trivial
            · obtain rfl : j = x.ms.length := by omega
              rw [List.drop_length, okMs] at hoj
              rw [List.take_length] at hmj
              have hz := hz u (by rw [← ho, hox, ← hoj, Bool.true_and]) hmj (by rw [List.length_append]; omega)
              have q4 : ((x.ms.length : Int) < x.ms.length) = False := by first | (simp only [eq_iff_iff, iff_false]; first | assumption | omega) | (simp; omega)
              refine hκ.run 300 ?_
              simp (disch := omega) only [push_cast, simprocAttr, q4, cm, on, le, tk]
              simp only [List.length_append, List.length_cons, List.length_nil, List.length_singleton, List.length_map, List.length_set, List.length_replicate, Nat.zero_add, Nat.add_zero, Int.natCast_add, Int.natCast_one, Int.ofNat_eq_natCast, List.map_append, List.map_cons, List.map_nil, List.take_length, eI, eB] at hz ⊢
              refine Sat.via (fun i => i) (hz) (by intro i j; (repeat (first | omega | split))) (by repeat' (first | exact EnvVia.nil | refine EnvVia.cons (by first | trivial | decide | (simp [SV.bnd, SV.bndL]; done)) rfl ?_)) (by repeat' (first | exact HeapVia.nil | refine HeapVia.cons (by decide) (by first | trivial | exact Blk.bnd_own0 (by assumption) | (simp [Blk.bnd, SV.bnd, SV.bndL]; done) | exact bndL_mapV _ _ _ | exact LR.bnd (by rw [l2]; simp [bndE, SV.bnd, SV.bndL]) (by rw [l6]; decide)) (by first | (rw [Blk.ren_own0 (by assumption)]; rfl) | rfl | (simp only [Blk.ren, renL_mapV]; rfl) | (rw [LR.ren (by rw [l2] <;> rfl) (by rw [l6] <;> rfl)]; rfl)) ?_)) ⟨by have := hκ.hm; (try dsimp only at this); (first | done | omega), fun i hi => by have := hκ.hm; (try dsimp only at this); (first | omega | (dsimp only; omega) | (rw [if_neg (by omega)]))⟩ ⟨by simp, rfl⟩
        · have hbad : okL [] l = false := by rw [← ho, okX, decide_eq_false hlen, Bool.false_and, Bool.false_and]
          rw [hbad, Bool.false_and, if_neg (by decide)] at hκ
          by_cases h1 : x.ms.length < 1
          · have q2 : ((x.ms.length : Int) < 1) = True := by first | (simp only [eq_iff_iff, iff_true]; first | assumption | omega) | (simp; omega)
            refine hκ.run 300 ?_
            simp (disch := omega) only [push_cast, simprocAttr, q1, gk, te, cm, oz, on, le, tk, q2]
            (repeat (refine ⟨by first | omega | (refine ⟨?_, ?_⟩ <;> omega) | trivial | (simp; done) | decide +kernel, fun _ => ?_⟩))
            refine hκ.ret _ _ _ _ _ _ trivial rfl ?_
            exact .ret trivial
          · have q2 : ((x.ms.length : Int) < 1) = False := by first | (simp only [eq_iff_iff, iff_false]; first | assumption | omega) | (simp; omega)
            have q3 : (8 < (x.ms.length : Int)) = True := by first | (simp only [eq_iff_iff, iff_true]; first | assumption | omega) | (simp; omega)
            refine hκ.run 300 ?_
            simp (disch := omega) only [push_cast, simprocAttr, q1, gk, te, cm, oz, on, le, tk, q2, q3]
            (repeat (refine ⟨by first | omega | (refine ⟨?_, ?_⟩ <;> omega) | trivial | (simp; done) | decide +kernel, fun _ => ?_⟩))
            refine hκ.ret _ _ _ _ _ _ trivial rfl ?_
            exact .ret trivial
      · obtain rfl : k = l.length := by omega
        rw [List.drop_length, okL] at ho
        rw [List.take_length] at hm hal
        have hy := hj t ⟨ho.symm, hm⟩
        dsimp only at hy
        rw [List.take_length]
        have q1 : ((l.length : Int) < l.length) = False := by first | (simp only [eq_iff_iff, iff_false]; first | assumption | omega) | (simp; omega)
        refine hκ.runA 17 300 ?_
        simp (disch := omega) only [push_cast, simprocAttr, q1]
        exact hy.less (by repeat' (first | exact EnvSub.nil _ | exact HeapSub.nil _ | refine EnvSub.cons rfl ?_ | refine HeapSub.cons rfl ?_ | (refine EnvSub.cons (by simp [Env.get]; done) ?_) | (refine HeapSub.cons (by simp [Heap.get]; done) ?_))) (by repeat' (first | exact EnvSub.nil _ | exact HeapSub.nil _ | refine EnvSub.cons rfl ?_ | refine HeapSub.cons rfl ?_ | (refine EnvSub.cons (by simp [Env.get]; done) ?_) | (refine HeapSub.cons (by simp [Heap.get]; done) ?_)))
  intro t ht
  obtain ⟨hoL, hm⟩ := ht
  dsimp only
  rw [hoL, Bool.true_and] at hκ
  have hrng : ∀ v ∈ allM l, 1 ≤ v ∧ v ≤ 16 := fun v hv => by
    obtain ⟨x, hx, hv⟩ := List.mem_flatMap.1 hv
    exact (okL_rng l [] hoL x hx).2 v hv
  have hnb : (allM l).length < 2 ^ 60 := by
    have h1 : ∀ l : List En, (∀ x ∈ l, x.ms.length ≤ 8) → (allM l).length ≤ 8 * l.length := by
      intro l
      induction l with
      | nil => intro _; exact Nat.zero_le _
      | cons x l ih =>
        intro h
        have h1 := ih fun y hy => h y (by simp [hy])
        have h2 := h x (by simp)
        simp only [allM, List.flatMap_cons, List.length_append, List.length_cons] at h1 ⊢
        omega
    have := h1 l fun x hx => (okL_rng l [] hoL x hx).1.2
    omega
  generalize allM l = all at *
  have l17 := hm.1
  refine hκ.run 300 ?_
  simp (disch := omega) only [push_cast, simprocAttr]
  refine Sat.less (Sat.loop (γ := Nat) (fun k => ([(70, I k), (69, I w.length), (68, Ws w), (6, I all.length), (5, .ptr 0 0 0 0), (1, Ws w)], [(0, .row 1 17 80 (t.map eB))], 1)) (fun k => w.length - k)
    (fun k => k ≤ w.length ∧ okV all (w.take k) (w.drop k) = okV all [] w) ?wround 0 ⟨Nat.zero_le _, rfl⟩) (by repeat' (first | exact EnvSub.nil _ | exact HeapSub.nil _ | refine EnvSub.cons rfl ?_ | refine HeapSub.cons rfl ?_ | (refine EnvSub.cons (by simp [Env.get]; done) ?_) | (refine HeapSub.cons (by simp [Heap.get]; done) ?_))) (by repeat' (first | exact EnvSub.nil _ | exact HeapSub.nil _ | refine EnvSub.cons rfl ?_ | refine HeapSub.cons rfl ?_ | (refine EnvSub.cons (by simp [Env.get]; done) ?_) | (refine HeapSub.cons (by simp [Heap.get]; done) ?_)))
  case wround =>
    rintro k ⟨hk, ho⟩ ih
    dsimp only at hk ho ih ⊢
    by_cases hkl : k < w.length
    · have q1 : ((k : Int) < w.length) = True := by first | (simp only [eq_iff_iff, iff_true]; first | assumption | omega) | (simp; omega)
      have gk : (List.map eW w).getD k [] = eW (w.getD k default) := getD_map _ _ _ hkl
      have gk1 : 0 < k → (List.map eW w).getD (k - 1) [] = eW (w.getD (k - 1) default) := fun h => getD_map _ _ _ (by omega)
      have hd : w.drop k = w.getD k default :: w.drop (k + 1) := by
        rw [List.drop_eq_getElem_cons hkl, List.getD, List.getElem?_eq_getElem hkl]; rfl
      have ht : w.take (k + 1) = w.take k ++ [w.getD k default] := by
        rw [List.take_succ_eq_append_getElem hkl, List.getD, List.getElem?_eq_getElem hkl]; rfl
      have hin := hw _ (getD_mem' hkl)
      have hlast : 0 < k → (w.take k).getD ((w.take k).length - 1) default = w.getD (k - 1) default := fun h => by
        rw [List.length_take, Nat.min_eq_left hk, List.getD, List.getD, List.getElem?_take_of_lt (by omega)]
      rw [hd, okV, ok1V] at ho
      have hz := fun h => ih (k + 1) ⟨by omega, h⟩ (by omega)
      rw [ht] at hz
      have hpl : (w.take k).length = k := by rw [List.length_take]; omega
      rw [hpl] at ho hlast
      clear ih hd ht
      generalize w.getD k default = x at *
      generalize w.getD (k - 1) default = px at *
      generalize w.drop (k + 1) = w2 at *
      generalize w.take k = pre at *
      obtain ⟨v1, a1, m1⟩ := hin
      have hj1 : ((k : Int) - 1).toNat = k - 1 := by omega
      have bad : ((all.any fun u => decide (u = x.v)) && !(decide (0 < k) && decide (x.v ≤ (pre.getD (k - 1) default).v))) = false → okV all [] w = false := fun h => by
        rw [← ho, h, Bool.false_and]
      by_cases b1 : x.v < 1
      · have hno : (all.any fun u => decide (u = x.v)) = false := by
          rw [List.any_eq_false]
          intro u hu
          have := hrng u hu
          simp; omega
        rw [bad (by rw [hno, Bool.false_and]), Bool.false_and, if_neg (by decide)] at hκ
        have z1 : (x.v < 1) = True := by first | (simp only [eq_iff_iff, iff_true]; first | assumption | omega) | (simp; omega)
        refine hκ.runD 300 ?_
        simp (disch := omega) only [push_cast, simprocAttr, q1, gk, eW, z1]
        (repeat (refine ⟨by first | omega | (refine ⟨?_, ?_⟩ <;> omega) | trivial | (simp; done) | decide +kernel, fun _ => ?_⟩))
        refine hκ.draw (.q 0 (.q 1 (.q 2 (.q 3 (.q 4 (.q 5 (.q 6 (.q 7 (.q 8 (.q 9 (.q 10 (.q 11 (.q 12 (.q 13 (.q 14 (.q 15 (.q 16 (.q 17 (.q 18 (.q 19 (.q 20 (.q 21 (.q 22 (.q 23 (.q 24 (.q 25 (.q 26 (.q 27 (.q 28 (.q 29 (.fin))))))))))))))))))))))))))))))) [0, 1, 2, 3, 4, 5, 6, 7, 8, 9, 10, 11, 12, 13, 14, 15, 16, 17, 18, 19, 20, 21, 22, 23, 24, 25, 26, 27, 28, 29] (by kernel_rfl) (by kernel_rfl) rfl ?_
        simp (disch := omega) only [push_cast, simprocAttr, q1, gk, eW, z1]
        refine hκ.run 300 ?_
        simp (disch := omega) only [push_cast, simprocAttr, q1, gk, eW, z1]
        refine hκ.ret _ _ _ _ _ _ trivial rfl ?_
        exact .ret trivial
      have z1 : (x.v < 1) = False := by first | (simp only [eq_iff_iff, iff_false]; first | assumption | omega) | (simp; omega)
      by_cases b2 : 16 < x.v
      · have hno : (all.any fun u => decide (u = x.v)) = false := by
          rw [List.any_eq_false]
          intro u hu
          have := hrng u hu
          simp; omega
        rw [bad (by rw [hno, Bool.false_and]), Bool.false_and, if_neg (by decide)] at hκ
        have z2 : (16 < x.v) = True := by first | (simp only [eq_iff_iff, iff_true]; first | assumption | omega) | (simp; omega)
        refine hκ.runD 300 ?_
        simp (disch := omega) only [push_cast, simprocAttr, q1, gk, eW, z1, z2]
        (repeat (refine ⟨by first | omega | (refine ⟨?_, ?_⟩ <;> omega) | trivial | (simp; done) | decide +kernel, fun _ => ?_⟩))
        refine hκ.draw (.q 0 (.q 1 (.q 2 (.q 3 (.q 4 (.q 5 (.q 6 (.q 7 (.q 8 (.q 9 (.q 10 (.q 11 (.q 12 (.q 13 (.q 14 (.q 15 (.q 16 (.q 17 (.q 18 (.q 19 (.q 20 (.q 21 (.q 22 (.q 23 (.q 24 (.q 25 (.q 26 (.q 27 (.q 28 (.q 29 (.fin))))))))))))))))))))))))))))))) [0, 1, 2, 3, 4, 5, 6, 7, 8, 9, 10, 11, 12, 13, 14, 15, 16, 17, 18, 19, 20, 21, 22, 23, 24, 25, 26, 27, 28, 29] (by kernel_rfl) (by kernel_rfl) rfl ?_
        simp (disch := omega) only [push_cast, simprocAttr, q1, gk, eW, z1, z2]
        refine hκ.run 300 ?_
        simp (disch := omega) only [push_cast, simprocAttr, q1, gk, eW, z1, z2]
        refine hκ.ret _ _ _ _ _ _ trivial rfl ?_
        exact .ret trivial
      have z2 : (16 < x.v) = False := by first | (simp only [eq_iff_iff, iff_false]; first | assumption | omega) | (simp; omega)
      have hmg : t.getD x.v.toNat default = all.any fun a => decide (a = x.v) := marks_get (i := x.v) hm (by omega) (by omega)
      cases b3 : all.any fun a => decide (a = x.v)
      · rw [bad (by rw [b3]; rfl), Bool.false_and, if_neg (by decide)] at hκ
        rw [b3] at hmg
        refine hκ.runD 300 ?_
        simp (disch := omega) only [push_cast, simprocAttr, q1, gk, eW, z1, z2, hmg]
        (repeat (refine ⟨by first | omega | (refine ⟨?_, ?_⟩ <;> omega) | trivial | (simp; done) | decide +kernel, fun _ => ?_⟩))
        refine hκ.draw (.q 0 (.q 1 (.q 2 (.q 3 (.q 4 (.q 5 (.q 6 (.q 7 (.q 8 (.q 9 (.q 10 (.q 11 (.q 12 (.q 13 (.q 14 (.q 15 (.q 16 (.q 17 (.q 18 (.q 19 (.q 20 (.q 21 (.q 22 (.q 23 (.q 24 (.q 25 (.q 26 (.q 27 (.q 28 (.q 29 (.fin))))))))))))))))))))))))))))))) [0, 1, 2, 3, 4, 5, 6, 7, 8, 9, 10, 11, 12, 13, 14, 15, 16, 17, 18, 19, 20, 21, 22, 23, 24, 25, 26, 27, 28, 29] (by kernel_rfl) (by kernel_rfl) rfl ?_
        simp (disch := omega) only [push_cast, simprocAttr, q1, gk, eW, z1, z2, hmg]
        (repeat (refine ⟨by first | omega | (refine ⟨?_, ?_⟩ <;> omega) | trivial | (simp; done) | decide +kernel, fun _ => ?_⟩))
        refine hκ.run 300 ?_
        simp (disch := omega) only [push_cast, simprocAttr, q1, gk, eW, z1, z2, hmg]
        refine hκ.ret _ _ _ _ _ _ trivial rfl ?_
        exact .ret trivial
      · rw [b3, Bool.true_and] at bad ho
        rw [b3] at hmg
        by_cases b4 : 0 < k
        · have gk1 := gk1 b4
          have hlast := hlast b4
          rw [hlast] at ho bad
          rw [decide_eq_true b4, Bool.true_and] at ho bad
          have z4 : ((0 : Int) < k) = True := by first | (simp only [eq_iff_iff, iff_true]; first | assumption | omega) | (simp; omega)
          by_cases b5 : x.v ≤ px.v
          · rw [bad (by rw [decide_eq_true b5]; rfl), Bool.false_and, if_neg (by decide)] at hκ
            have z5 : (x.v ≤ px.v) = True := by first | (simp only [eq_iff_iff, iff_true]; first | assumption | omega) | (simp; omega)
            refine hκ.runD 300 ?_
            simp (disch := omega) only [push_cast, simprocAttr, q1, gk, eW, z1, z2, z4, z5, hmg, hj1, gk1]
            (repeat (refine ⟨by first | omega | (refine ⟨?_, ?_⟩ <;> omega) | trivial | (simp; done) | decide +kernel, fun _ => ?_⟩))
            refine hκ.draw (.q 0 (.q 1 (.q 2 (.q 3 (.q 4 (.q 5 (.q 6 (.q 7 (.q 8 (.q 9 (.q 10 (.q 11 (.q 12 (.q 13 (.q 14 (.q 15 (.q 16 (.q 17 (.q 18 (.q 19 (.q 20 (.q 21 (.q 22 (.q 23 (.q 24 (.q 25 (.q 26 (.q 27 (.q 28 (.q 29 (.fin))))))))))))))))))))))))))))))) [0, 1, 2, 3, 4, 5, 6, 7, 8, 9, 10, 11, 12, 13, 14, 15, 16, 17, 18, 19, 20, 21, 22, 23, 24, 25, 26, 27, 28, 29] (by kernel_rfl) (by kernel_rfl) rfl ?_
            simp (disch := omega) only [push_cast, simprocAttr, q1, gk, eW, z1, z2, z4, z5, hmg, hj1, gk1]
            (repeat (refine ⟨by first | omega | (refine ⟨?_, ?_⟩ <;> omega) | trivial | (simp; done) | decide +kernel, fun _ => ?_⟩))
            refine hκ.run 300 ?_
            simp (disch := omega) only [push_cast, simprocAttr, q1, gk, eW, z1, z2, z4, z5, hmg, hj1, gk1]
            refine hκ.ret _ _ _ _ _ _ trivial rfl ?_
            exact .ret trivial
          · have hz := hz (by rw [← ho, decide_eq_false b5]; rfl)
            have z5 : (x.v ≤ px.v) = False := by first | (simp only [eq_iff_iff, iff_false]; first | assumption | omega) | (simp; omega)
            refine hκ.runD 300 ?_
            simp (disch := omega) only [push_cast, simprocAttr, q1, gk, eW, z1, z2, z4, z5, hmg, hj1, gk1]
            (repeat (refine ⟨by first | omega | (refine ⟨?_, ?_⟩ <;> omega) | trivial | (simp; done) | decide +kernel, fun _ => ?_⟩))
            refine hκ.draw (.q 0 (.q 1 (.q 2 (.q 3 (.q 4 (.q 5 (.q 6 (.q 7 (.q 8 (.q 9 (.q 10 (.q 11 (.q 12 (.q 13 (.q 14 (.q 15 (.q 16 (.q 17 (.q 18 (.q 19 (.q 20 (.q 21 (.q 22 (.q 23 (.q 24 (.q 25 (.q 26 (.q 27 (.q 28 (.q 29 (.fin))))))))))))))))))))))))))))))) [0, 1, 2, 3, 4, 5, 6, 7, 8, 9, 10, 11, 12, 13, 14, 15, 16, 17, 18, 19, 20, 21, 22, 23, 24, 25, 26, 27, 28, 29] (by kernel_rfl) (by kernel_rfl) rfl ?_
            simp (disch := omega) only [push_cast, simprocAttr, q1, gk, eW, z1, z2, z4, z5, hmg, hj1, gk1]
            (repeat (refine ⟨by first | omega | (refine ⟨?_, ?_⟩ <;> omega) | trivial | (simp; done) | decide +kernel, fun _ => ?_⟩))
            refine hκ.run 300 ?_
            simp (disch := omega) only [push_cast, simprocAttr, q1, gk, eW, z1, z2, z4, z5, hmg, hj1, gk1]
            refine Sat.via (fun i => i) (hz) (by intro i j; (repeat (first | omega | split))) (by repeat' (first | exact EnvVia.nil | refine EnvVia.cons (by first | trivial | decide | (simp [SV.bnd, SV.bndL]; done)) rfl ?_)) (by repeat' (first | exact HeapVia.nil | refine HeapVia.cons (by decide) (by first | trivial | exact Blk.bnd_own0 (by assumption) | (simp [Blk.bnd, SV.bnd, SV.bndL]; done) | exact bndL_mapV _ _ _ | exact LR.bnd (by rw [l2]; simp [bndE, SV.bnd, SV.bndL]) (by rw [l6]; decide)) (by first | (rw [Blk.ren_own0 (by assumption)]; rfl) | rfl | (simp only [Blk.ren, renL_mapV]; rfl) | (rw [LR.ren (by rw [l2] <;> rfl) (by rw [l6] <;> rfl)]; rfl)) ?_)) ⟨by have := hκ.hm; (try dsimp only at this); (first | done | omega), fun i hi => by have := hκ.hm; (try dsimp only at this); (first | omega | (dsimp only; omega) | (rw [if_neg (by omega)]))⟩ ⟨by simp, rfl⟩
        · have hz := hz (by rw [← ho, decide_eq_false b4]; rfl)
          have z4 : ((0 : Int) < k) = False := by first | (simp only [eq_iff_iff, iff_false]; first | assumption | omega) | (simp; omega)
          refine hκ.runD 300 ?_
          simp (disch := omega) only [push_cast, simprocAttr, q1, gk, eW, z1, z2, z4, hmg]
          (repeat (refine ⟨by first | omega | (refine ⟨?_, ?_⟩ <;> omega) | trivial | (simp; done) | decide +kernel, fun _ => ?_⟩))
          refine hκ.draw (.q 0 (.q 1 (.q 2 (.q 3 (.q 4 (.q 5 (.q 6 (.q 7 (.q 8 (.q 9 (.q 10 (.q 11 (.q 12 (.q 13 (.q 14 (.q 15 (.q 16 (.q 17 (.q 18 (.q 19 (.q 20 (.q 21 (.q 22 (.q 23 (.q 24 (.q 25 (.q 26 (.q 27 (.q 28 (.q 29 (.fin))))))))))))))))))))))))))))))) [0, 1, 2, 3, 4, 5, 6, 7, 8, 9, 10, 11, 12, 13, 14, 15, 16, 17, 18, 19, 20, 21, 22, 23, 24, 25, 26, 27, 28, 29] (by kernel_rfl) (by kernel_rfl) rfl ?_
          simp (disch := omega) only [push_cast, simprocAttr, q1, gk, eW, z1, z2, z4, hmg]
          (repeat (refine ⟨by first | omega | (refine ⟨?_, ?_⟩ <;> omega) | trivial | (simp; done) | decide +kernel, fun _ => ?_⟩))
          refine hκ.run 300 ?_
          simp (disch := omega) only [push_cast, simprocAttr, q1, gk, eW, z1, z2, z4, hmg]
          refine Sat.via (fun i => i) (hz) (by intro i j; (repeat (first | omega | split))) (by repeat' (first | exact EnvVia.nil | refine EnvVia.cons (by first | trivial | decide | (simp [SV.bnd, SV.bndL]; done)) rfl ?_)) (by repeat' (first | exact HeapVia.nil | refine HeapVia.cons (by decide) (by first | trivial | exact Blk.bnd_own0 (by assumption) | (simp [Blk.bnd, SV.bnd, SV.bndL]; done) | exact bndL_mapV _ _ _ | exact LR.bnd (by rw [l2]; simp [bndE, SV.bnd, SV.bndL]) (by rw [l6]; decide)) (by first | (rw [Blk.ren_own0 (by assumption)]; rfl) | rfl | (simp only [Blk.ren, renL_mapV]; rfl) | (rw [LR.ren (by rw [l2] <;> rfl) (by rw [l6] <;> rfl)]; rfl)) ?_)) ⟨by have := hκ.hm; (try dsimp only at this); (first | done | omega), fun i hi => by have := hκ.hm; (try dsimp only at this); (first | omega | (dsimp only; omega) | (rw [if_neg (by omega)]))⟩ ⟨by simp, rfl⟩
    · obtain rfl : k = w.length := by omega
      rw [List.drop_length, okV] at ho
      rw [← ho, Bool.true_and] at hκ
      have q1 : ((w.length : Int) < w.length) = False := by first | (simp only [eq_iff_iff, iff_false]; first | assumption | omega) | (simp; omega)
      by_cases hwn : w.length = all.length
      · rw [decide_eq_true hwn, if_pos rfl] at hκ
        have e : (w.length : Int) = all.length := by omega
        have q3 : ((w.length : Int) = all.length) = True := by first | (simp only [eq_iff_iff, iff_true]; first | assumption | omega) | (simp; omega)
        refine hκ.run 300 ?_
        simp (disch := omega) only [push_cast, simprocAttr, q1, q3]
        refine Does.ret hκ.hP hκ.hgl cP ⟨trivial, by first | (simp [SV.bnd, SV.bndL]; done) | (simp [SV.bnd, SV.bndL, ec_bnd]; done), by first | (simp [SV.bnd, SV.bndL]; done) | (simp [SV.bnd, SV.bndL, ec_bnd]; done) | assumption⟩ ?_
        refine hκ.run 300 ?_
        simp (disch := omega) only [push_cast, simprocAttr, q1, q3]
        refine hκ.ret _ _ _ _ _ _ trivial rfl ?_
        exact .ret trivial
      · rw [decide_eq_false hwn, if_neg (by decide)] at hκ
        have q2 : ((w.length : Int) = all.length) = False := by first | (simp only [eq_iff_iff, iff_false]; first | assumption | omega) | (simp; omega)
        refine hκ.run 300 ?_
        simp (disch := omega) only [push_cast, simprocAttr, q1, q2]
        refine hκ.ret _ _ _ _ _ _ trivial rfl ?_
        exact .ret trivial
end Go.Proofs.YtnjgmjcokcfmkaaDoor
