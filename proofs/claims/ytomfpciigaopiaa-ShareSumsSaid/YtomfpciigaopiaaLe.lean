/- The walk of the law ShareSums. No condition. -/
import Derived.Test.YtomfpciigaopiaaVb
namespace Go.Proofs.Ytomfpciigaopiaa
open Go Go.Sy
set_option maxRecDepth 100000
set_option linter.unusedSimpArgs false
set_option linter.unusedVariables false

def ovS (L w p : Int) : Int := if L ≤ 0 ∨ p = 0 then 1 else w
theorem wt_part {l : List Pt} {b : List Bool} (hb : b.length = l.length) (hall : ∀ p ∈ l, okP p = true) : ∀ k, k ≤ l.length → 0 ≤ sumZ zW (l.take k) (b.take k) ∧ sumZ zW (l.take k) (b.take k) ≤ sumZ zW l b := by
  intro k hk
  have h1 := sumZ_bd (b := b.take k) (zW_bd (take_all hall k)) (by decide)
  have h2 := sumZ_bd (l := l.drop k) (b := b.drop k) (zW_bd fun p hp => hall p (List.mem_of_mem_drop hp)) (by decide)
  have e : sumZ zW l b = sumZ zW (l.take k) (b.take k) + sumZ zW (l.drop k) (b.drop k) := by
    have : l.zip b = (l.take k).zip (b.take k) ++ (l.drop k).zip (b.drop k) := by
      rw [← List.zip_append (by rw [List.length_take, List.length_take, hb]), List.take_append_drop, List.take_append_drop]
    rw [sumZ, this, List.map_append, List.sum_append, sumZ, sumZ]
  omega
set_option maxHeartbeats 4000000 in
theorem sums_law (l : List Pt) (m : Int) (hl : ∀ p ∈ l, inP p) (hn0 : l.length < 2 ^ 46) : Law Try.prog gl0 6 [Ps l, I m] := by
  refine Law.of (nt := 197) (res := [.tmp 4]) Try.mixed Try.func6 rfl rfl rfl rfl fun κ xc hκ => hκ.run 300 ?_
  simp (disch := omega) only [exec_succ, runR_next, runR_call, stepS, runOp, toSR, sop, rOf, ev, evs, envOf, OutOK_call, List.size_toArray, List.length_cons, List.length_nil, List.range, List.range.loop, List.getElem?_toArray, List.getElem?_cons_zero, ↓reduceIte, Nat.reduceAdd, Nat.reduceLT, Nat.zero_add, gl0]
  refine Does.ret hκ.hP hκ.hgl (wakes_ok) ⟨trivial, by simp [SV.bnd, SV.bndL], by first | (simp [SV.bnd, SV.bndL]; done) | assumption⟩ ?_
  refine hκ.run 300 ?_
  simp (disch := omega) only [exec_succ, runR_next, runR_fork_false, runR_call, stepS, runOp, condS, toSR, sop, rOf, sUn, ev, evs, Env.get, setO, OutOK_call, List.size_toArray, List.length_cons, List.length_nil, List.range, List.range.loop, List.getElem?_toArray, List.getElem?_cons_succ, List.getElem?_cons_zero, ↓reduceIte, Nat.reduceAdd, Nat.reduceLT, Nat.reduceEqDiff, Nat.zero_add, Nat.add_one_ne_zero, Bool.not_true, reduceCtorEq, gl0]
  by_cases hbig : 2 ^ 40 ≤ l.length
  · refine Does.ret hκ.hP hκ.hgl (Full_big l m hbig hn0) ⟨trivial, by simp [SV.bnd, SV.bndL], by first | (simp [SV.bnd, SV.bndL]; done) | assumption⟩ ?_
    refine hκ.run 300 ?_
    simp (disch := omega) only [sBuiltin, exec_succ, runR_next, runR_fork_true, runR_stop, stepS, runOp, condS, toSR, sop, rOf, sInt, sBin, sExtract, sLen, ev, Env.get, setO, OutOK_stop, Int.cast_ofNat_Int, List.size_toArray, List.length_cons, List.length_nil, List.range, List.range.loop, List.getElem?_toArray, List.getElem?_cons_succ, List.getElem?_cons_zero, ↓reduceIte, Nat.reduceAdd, Nat.reduceLT, Nat.reduceEqDiff, Nat.zero_add, Int.reduceEq, Bool.not_false, decide_true, decide_false, gl0, Try.underlying28]
    refine hκ.ret _ _ _ _ _ _ trivial rfl ?_
    rfl
  have c1 := Full_ok l m hl (by omega)
  by_cases he : askE l (inI m 1 8) = 0
  case neg =>
    rw [if_neg he] at c1
    refine Does.ret hκ.hP hκ.hgl (c1) ⟨trivial, by simp [SV.bnd, SV.bndL], by first | (simp [SV.bnd, SV.bndL]; done) | assumption⟩ ?_
    refine hκ.run 300 ?_
    simp (disch := omega) only [sBuiltin, exec_succ, runR_next, runR_fork_true, runR_stop, stepS, runOp, condS, toSR, sop, rOf, sInt, sBin, sExtract, sLen, ev, Env.get, setO, OutOK_stop, Int.cast_ofNat_Int, List.size_toArray, List.length_cons, List.length_nil, List.range, List.range.loop, List.getElem?_toArray, List.getElem?_cons_succ, List.getElem?_cons_zero, List.map_nil, ↓reduceIte, Nat.reduceAdd, Nat.reduceLT, Nat.reduceEqDiff, Nat.zero_add, Bool.not_false, decide_true, decide_false, gl0, Try.underlying28, he]
    refine hκ.ret _ _ _ _ _ _ trivial rfl ?_
    rfl
  obtain ⟨hr, hm⟩ := askE_ok he
  have hm := (inI_iff _ _ _).1 hm
  rw [if_pos he, he] at c1
  obtain ⟨hn, hall, hC16⟩ := (rightP_iff l).1 hr
  have hVl := fullV_len l m
  have cS := fun k hk => Share_yes l m k hl hr hm hk
  have hsb := fun k hk => shareV_bd (l := l) (m := m) (i := k) hr hm hk
  have hle := fun k hk => share_le (l := l) (m := m) (i := k) hr hk
  have hfew := few_full (l := l) (m := m) hr
  have hmore := more_open (l := l) (m := m) hr
  have hcross := fun i k hi hk => share_cross (l := l) (m := m) (i := i) (k := k) hr hi hk
  have hsf := fun k => share_f (l := l) (m := m) (i := k)
  have hs0 := fun k => share_0 (l := l) (m := m) (i := k)
  have hsw := fun k => share_w (l := l) (m := m) (i := k)
  have hLb := leftF_bd (b := fullV l m) (m := m) hr
  have hLe : leftF l (fullV l m) m = m - sumZ zC l (fullV l m) := rfl
  have hWb := wtF_bd (b := fullV l m) hr
  have hwp := wt_part hVl hall
  have hWe : sumZ zW l (fullV l m) = wtF l (fullV l m) := rfl
  rw [hWe] at hwp
  generalize hV : fullV l m = V at *
  generalize hLL : leftF l V m = L at *
  generalize hww : wtF l V = w at *
  refine Does.ret hκ.hP hκ.hgl (c1) ⟨trivial, by simp [SV.bnd, SV.bndL], by first | (simp [SV.bnd, SV.bndL]; done) | assumption⟩ ?_
  refine hκ.run 300 ?_
  simp (disch := omega) only [sBuiltin, exec_succ, runR_next, runR_fork_false, runR_stop, stepS, runOp, condS, toSR, sop, rOf, sInt, sBin, sExtract, sLen, ev, Env.get, setO, OutOK_stop, List.size_toArray, List.length_cons, List.length_nil, List.length_map, List.range, List.range.loop, List.getElem?_toArray, List.getElem?_cons_succ, List.getElem?_cons_zero, ↓reduceIte, Nat.reduceAdd, Nat.reduceLT, Nat.reduceEqDiff, Nat.zero_add, Nat.add_one_ne_zero, Bool.not_true, decide_true, gl0, Try.underlying22]
  refine Sat.less (Sat.loop (γ := Nat) (fun k => ([(41, I k), (40, I l.length), (39, Ps l), (5, .rd 1 (Bs V)), (7, I (sumOf wC (l.take k))), (8, Ui (sumZ zC (l.take k) (V.take k))), (9, Ui (sumZ zW (l.take k) (V.take k) * max L 0)), (10, Ui (ovS L w (sumZ zW (l.take k) (V.take k)))), (0, Ps l), (1, I m)], [], 0)) (fun k => l.length - k) (fun k => k ≤ l.length) ?round 0 (Nat.zero_le _)) (by rw [show ovS L w (sumZ zW (l.take 0) (V.take 0)) = 1 by rw [ovS, if_pos (.inr rfl)], show sumZ zW (l.take 0) (V.take 0) = 0 from rfl, Int.zero_mul]; exact (by repeat' (first | exact EnvSub.nil _ | exact HeapSub.nil _ | refine EnvSub.cons rfl ?_ | refine HeapSub.cons rfl ?_ | (refine EnvSub.cons (by simp [Env.get]; done) ?_) | (refine HeapSub.cons (by simp [Heap.get]; done) ?_)))) (by repeat' (first | exact EnvSub.nil _ | exact HeapSub.nil _ | refine EnvSub.cons rfl ?_ | refine HeapSub.cons rfl ?_ | (refine EnvSub.cons (by simp [Env.get]; done) ?_) | (refine HeapSub.cons (by simp [Heap.get]; done) ?_)))
  case round =>
    intro k hk ih
    dsimp only at ih ⊢
    have hb1 := sumOf_bd (g := wC) (B := 8) (l := l.take k) fun p hp => by have := (okP_iff p).1 (hall p (List.mem_of_mem_take hp)); rw [wC]; omega
    have hb2 := sumZ_bd (b := V.take k) (zC_bd (take_all hall k)) (by decide)
    rw [List.length_take] at hb1 hb2
    have hp1 := hwp k hk
    refine hκ.runA 24 300 ?_
    simp (disch := omega) only [runR_next, stepS, runOp, condS, toSR, sop, sInt, sBin, ev, Env.get, halt, isAt, atC, execA_succ, List.size_toArray, List.length_cons, List.length_nil, List.range, List.range.loop, List.getElem?_toArray, List.getElem?_cons_zero, ↓reduceIte, Nat.reduceLT, Nat.reduceEqDiff, Nat.zero_add, Nat.reduceBEq, gl0]
    refine OutOK_fork (fun h => ?_) (fun h => ?_) <;> try simp only [Bool.not_true, Bool.not_false, decide_eq_true_eq, decide_eq_false_iff_not, Bool.not_eq_true', Bool.not_eq_false', Bool.and_eq_true, Bool.or_eq_false_iff, Bool.or_eq_true, Bool.and_eq_false_iff] at h
    · have hz := ih (k + 1) (by omega) (by omega)
      have hp2 := hwp (k + 1) (by omega)
      have hkl : k < l.length := by omega
      rw [sumZ_take hkl hVl, sumZ_take hkl hVl, sumOf_take hkl] at hz
      rw [sumZ_take hkl hVl] at hp2
      have hp := (okP_iff _).1 (hall _ (getD_mem hkl))
      have g1 : (List.map eP l).getD k [] = eP (l.getD k default) := getD_map _ _ _ (by omega)
      have g2 := Bs_get (b := V) (show k < V.length by omega)
      have c2 := cS k hkl
      have f1 := hsb k hkl
      have f2 := hle k hkl
      have f3 := hsf k
      have f4 := hs0 k
      have f5 := hsw k
      clear ih cS hsb hle hsf hs0 hsw hcross hfew hmore hwp
      generalize l.getD k default = p at *
      generalize V.getD k default = x at *
      generalize shareV l m k = sh at *
      generalize sumOf wC (l.take k) = cnt at *
      generalize sumZ zC (l.take k) (V.take k) = cw at *
      generalize sumZ zW (l.take k) (V.take k) = pw at *
      rw [show wC p = p.2 from rfl] at hz
      cases x
      · rw [show zC (p, false) = 0 from rfl, show zW (p, false) = p.1 from rfl, Int.add_zero] at hz
        rw [show zW (p, false) = p.1 from rfl] at hp2
        by_cases h0 : L ≤ 0
        · obtain rfl := f4 rfl h0
          rw [ovS, if_pos (.inl h0)] at hz ⊢
          rw [Int.max_eq_right h0, Int.mul_zero] at hz ⊢
          obtain ⟨c, hc⟩ : ∃ X : Nat, p.2 = (X : Int) := ⟨p.2.toNat, by omega⟩
          have c3 := compare_ok 0 1 c 1 (by decide) (by decide) (by omega) (by decide)
          have e9 : (0 < cmpN 0 c) = False := by rw [cmpN_gt]; exact eq_false (by omega)
          rw [hc] at hz
          simp (disch := omega) only [runR_next, runR_need, runR_call, stepS, runOp, toSR, sop, rOf, rNew, sAlloc, sAlloc0, sLoad, sStoreIn, sStore, sIndexAddr, elemT, obind, ev, evs, svs, Env.get, Heap.get, Heap.set, takeN, cut, over, paste, aggOf, cellsS, one, ones, Value.oneCell', OutOK_need, OutOK_call, undefS, undef, halt, isAt, atC, execA_succ, List.size_toArray, List.length_cons, List.length_nil, List.length_map, List.range, List.range.loop, List.getElem?_toArray, List.getElem?_cons_succ, List.getElem?_cons_zero, List.map_cons, List.map_nil, ↓reduceIte, Nat.reduceAdd, Nat.reduceLT, Nat.reduceEqDiff, Nat.zero_add, Nat.add_one_ne_zero, Nat.reduceBEq, Int.toNat_natCast, true_and, and_self, forall_const, reduceCtorEq, Try.underlying22, Try.sz54, Try.ag54, Try.ze54, Try.ar54, g1, eP, hc]
          (repeat (refine ⟨by first | omega | (refine ⟨?_, ?_⟩ <;> omega) | trivial | (simp; done) | decide +kernel, fun _ => ?_⟩))
          refine Does.ret hκ.hP hκ.hgl (c2) ⟨trivial, by simp [SV.bnd, SV.bndL], by first | (simp [SV.bnd, SV.bndL]; done) | assumption⟩ ?_
          refine hκ.run 300 ?_
          simp (disch := omega) only [exec_succ, runR_next, runR_guard_ff, runR_call, stepS, runOp, guardS, toSR, sop, rOf, sPick, sLoadIn, sLoad, sInt, sBin, sConv, sFieldAddr, sExtract, ev, evs, Env.get, Heap.get, takeN, cut, aggOf, setO, OutOK_call, undefS, undef, List.size_toArray, List.length_cons, List.length_nil, List.range, List.range.loop, List.getElem?_toArray, List.getElem?_cons_succ, List.getElem?_cons_zero, Option.bind_some, ↓reduceIte, Nat.reduceAdd, Nat.reduceLT, Nat.reduceEqDiff, Nat.zero_add, Nat.add_one_ne_zero, Int.reduceEq, Bool.not_true, Bool.not_false, decide_true, decide_false, and_self, wrap_u64, gl0, Try.underlying3, Try.sz3, Try.ag3, Try.underlying31, Try.fd54f1]
          (repeat (refine ⟨by first | omega | (refine ⟨?_, ?_⟩ <;> omega) | trivial | (simp; done) | decide +kernel, fun _ => ?_⟩))
          refine Does.ret hκ.hP hκ.hgl (c3) ⟨trivial, by simp [SV.bnd, SV.bndL], by first | (simp [SV.bnd, SV.bndL]; done) | assumption⟩ ?_
          refine hκ.run 300 ?_
          simp (disch := omega) only [exec_succ, runR_next, runR_need, runR_fork_false, runR_guard_ff, runR_guard_ft, runR_stop, stepS, runOp, guardS, condS, toSR, sop, rOf, sPick, sLoadIn, sLoad, sInt, sEq, sEqR, sBin, sFieldAddr, sIndexAddr, elemT, obind, ev, Env.get, Heap.get, takeN, cut, aggOf, setO, OutOK_need, OutOK_stop, undefS, undef, Int.add_zero, List.size_toArray, List.length_cons, List.length_nil, List.length_map, List.range, List.range.loop, List.getElem?_toArray, List.getElem?_cons_succ, List.getElem?_cons_zero, Option.bind_some, ↓reduceIte, Nat.reduceAdd, Nat.reduceLT, Nat.reduceEqDiff, Nat.zero_add, Nat.mul_one, Nat.add_one_ne_zero, Int.reduceMul, Int.toNat_natCast, Bool.not_true, Bool.not_false, decide_true, decide_false, and_self, wrap_i64, wrap_u64, gl0, Try.sz3, Try.ag3, Try.sz4, Try.ag4, Try.underlying28, Try.fd54f1, g2, e9]
          (repeat (refine ⟨by first | omega | (refine ⟨?_, ?_⟩ <;> omega) | trivial | (simp; done) | decide +kernel, fun _ => ?_⟩))
          refine Sat.via (fun i => i) (hz) (by intro i j; (repeat (first | omega | split))) (by repeat' (first | exact EnvVia.nil | refine EnvVia.cons (by first | trivial | decide | (simp [SV.bnd, SV.bndL]; done)) rfl ?_)) (by repeat' (first | exact HeapVia.nil | refine HeapVia.cons (by decide) (by first | trivial | (simp [Blk.bnd, SV.bnd, SV.bndL]; done) | exact bndL_mapV _ _ _ | exact LR.bnd (by rw [l2]; simp [bndE, SV.bnd, SV.bndL]) (by rw [l6]; decide)) (by first | rfl | (simp only [Blk.ren, renL_mapV]; rfl) | (rw [LR.ren (by rw [l2] <;> rfl) (by rw [l6] <;> rfl)]; rfl)) ?_)) ⟨by have := hκ.hm; (try dsimp only at this); (first | done | omega), fun i hi => by have := hκ.hm; (try dsimp only at this); (first | omega | (dsimp only; omega) | (rw [if_neg (by omega)]))⟩ ⟨by simp, rfl⟩
        · obtain rfl := f5 rfl h0
          dsimp only at c2 f1 f2
          rw [Int.max_eq_left (show 0 ≤ L by omega)] at hz ⊢
          obtain ⟨c, hc⟩ : ∃ X : Nat, p.2 = (X : Int) := ⟨p.2.toNat, by omega⟩
          obtain ⟨a, ha⟩ : ∃ X : Nat, p.1 * L = (X : Int) := ⟨(p.1 * L).toNat, by omega⟩
          obtain ⟨u, hu⟩ : ∃ X : Nat, w = (X : Int) := ⟨w.toNat, by omega⟩
          have hac : a * 1 ≤ c * u := by
            have : ((a * 1 : Nat) : Int) ≤ ((c * u : Nat) : Int) := by rw [Int.natCast_mul, Int.natCast_mul, ← ha, ← hc, ← hu, Int.natCast_one, Int.mul_one]; exact f2
            omega
          have c3 := compare_ok a u c 1 (by omega) (by omega) (by omega) (by decide)
          have e9 : (0 < cmpN a (c * u)) = False := by rw [cmpN_gt]; exact eq_false (by omega)
          have hpl : (pw + p.1) * L = pw * L + a := by rw [Int.add_mul, ha]
          have hpb := mul_bd hp1.1 (show pw ≤ 524280 by omega) (show 0 ≤ L by omega) (show L ≤ 8 by omega)
          rw [hpl, hc] at hz
          have hov : ovS L w (pw + p.1) = w := by rw [ovS, if_neg (by omega)]
          rw [hov] at hz
          rw [ha] at c2
          rw [hu] at c2 hz
          have w0 : ((u : Int) = 0) = False := by simp only [eq_iff_iff, iff_false]; omega
          by_cases hpw : pw = 0
          · rw [show ovS L w pw = 1 by rw [ovS, if_pos (.inr hpw)]]
            by_cases hw1 : w = 1
            · have w1 : ((u : Int) = 1) = True := by simp only [eq_iff_iff, iff_true]; omega
              rw [of_eq_true w1] at hz
              simp (disch := omega) only [runR_next, runR_need, runR_call, stepS, runOp, toSR, sop, rOf, rNew, sAlloc, sAlloc0, sLoad, sStoreIn, sStore, sIndexAddr, elemT, obind, ev, evs, svs, Env.get, Heap.get, Heap.set, takeN, cut, over, paste, aggOf, cellsS, one, ones, Value.oneCell', OutOK_need, OutOK_call, undefS, undef, halt, isAt, atC, execA_succ, List.size_toArray, List.length_cons, List.length_nil, List.length_map, List.range, List.range.loop, List.getElem?_toArray, List.getElem?_cons_succ, List.getElem?_cons_zero, List.map_cons, List.map_nil, ↓reduceIte, Nat.reduceAdd, Nat.reduceLT, Nat.reduceEqDiff, Nat.zero_add, Nat.add_one_ne_zero, Nat.reduceBEq, Int.toNat_natCast, true_and, and_self, forall_const, reduceCtorEq, Try.underlying22, Try.sz54, Try.ag54, Try.ze54, Try.ar54, g1, eP, hc]
              (repeat (refine ⟨by first | omega | (refine ⟨?_, ?_⟩ <;> omega) | trivial | (simp; done) | decide +kernel, fun _ => ?_⟩))
              refine Does.ret hκ.hP hκ.hgl (c2) ⟨trivial, by simp [SV.bnd, SV.bndL], by first | (simp [SV.bnd, SV.bndL]; done) | assumption⟩ ?_
              refine hκ.run 300 ?_
              simp (disch := omega) only [exec_succ, runR_next, runR_guard_ff, runR_call, stepS, runOp, guardS, toSR, sop, rOf, sPick, sLoadIn, sLoad, sInt, sBin, sConv, sFieldAddr, sExtract, ev, evs, Env.get, Heap.get, takeN, cut, aggOf, setO, OutOK_call, undefS, undef, List.size_toArray, List.length_cons, List.length_nil, List.range, List.range.loop, List.getElem?_toArray, List.getElem?_cons_succ, List.getElem?_cons_zero, Option.bind_some, ↓reduceIte, Nat.reduceAdd, Nat.reduceLT, Nat.reduceEqDiff, Nat.zero_add, Nat.add_one_ne_zero, Bool.not_true, Bool.not_false, decide_true, decide_false, and_self, wrap_u64, gl0, Try.underlying3, Try.sz3, Try.ag3, Try.underlying31, Try.fd54f1, w0]
              (repeat (refine ⟨by first | omega | (refine ⟨?_, ?_⟩ <;> omega) | trivial | (simp; done) | decide +kernel, fun _ => ?_⟩))
              refine Does.ret hκ.hP hκ.hgl (c3) ⟨trivial, by simp [SV.bnd, SV.bndL], by first | (simp [SV.bnd, SV.bndL]; done) | assumption⟩ ?_
              refine hκ.run 300 ?_
              simp (disch := omega) only [exec_succ, runR_next, runR_need, runR_fork_false, runR_guard_ff, runR_guard_ft, runR_stop, stepS, runOp, guardS, condS, toSR, sop, rOf, sPick, sLoadIn, sLoad, sInt, sEq, sEqR, sBin, sFieldAddr, sIndexAddr, elemT, obind, ev, Env.get, Heap.get, takeN, cut, aggOf, setO, OutOK_need, OutOK_stop, undefS, undef, List.size_toArray, List.length_cons, List.length_nil, List.length_map, List.range, List.range.loop, List.getElem?_toArray, List.getElem?_cons_succ, List.getElem?_cons_zero, Option.bind_some, ↓reduceIte, Nat.reduceAdd, Nat.reduceLT, Nat.reduceEqDiff, Nat.zero_add, Nat.mul_one, Nat.add_one_ne_zero, Int.toNat_natCast, Bool.not_true, Bool.not_false, decide_true, decide_false, and_self, wrap_i64, wrap_u64, gl0, Try.sz3, Try.ag3, Try.sz4, Try.ag4, Try.underlying28, Try.fd54f1, g2, w1, e9, Int.mul_one]
              (repeat (refine ⟨by first | omega | (refine ⟨?_, ?_⟩ <;> omega) | trivial | (simp; done) | decide +kernel, fun _ => ?_⟩))
              refine Sat.via (fun i => i) (hz) (by intro i j; (repeat (first | omega | split))) (by repeat' (first | exact EnvVia.nil | refine EnvVia.cons (by first | trivial | decide | (simp [SV.bnd, SV.bndL]; done)) rfl ?_)) (by repeat' (first | exact HeapVia.nil | refine HeapVia.cons (by decide) (by first | trivial | (simp [Blk.bnd, SV.bnd, SV.bndL]; done) | exact bndL_mapV _ _ _ | exact LR.bnd (by rw [l2]; simp [bndE, SV.bnd, SV.bndL]) (by rw [l6]; decide)) (by first | rfl | (simp only [Blk.ren, renL_mapV]; rfl) | (rw [LR.ren (by rw [l2] <;> rfl) (by rw [l6] <;> rfl)]; rfl)) ?_)) ⟨by have := hκ.hm; (try dsimp only at this); (first | done | omega), fun i hi => by have := hκ.hm; (try dsimp only at this); (first | omega | (dsimp only; omega) | (rw [if_neg (by omega)]))⟩ ⟨by simp, rfl⟩
            · have w1 : ((u : Int) = 1) = False := by simp only [eq_iff_iff, iff_false]; omega
              simp (disch := omega) only [runR_next, runR_need, runR_call, stepS, runOp, toSR, sop, rOf, rNew, sAlloc, sAlloc0, sLoad, sStoreIn, sStore, sIndexAddr, elemT, obind, ev, evs, svs, Env.get, Heap.get, Heap.set, takeN, cut, over, paste, aggOf, cellsS, one, ones, Value.oneCell', OutOK_need, OutOK_call, undefS, undef, halt, isAt, atC, execA_succ, List.size_toArray, List.length_cons, List.length_nil, List.length_map, List.range, List.range.loop, List.getElem?_toArray, List.getElem?_cons_succ, List.getElem?_cons_zero, List.map_cons, List.map_nil, ↓reduceIte, Nat.reduceAdd, Nat.reduceLT, Nat.reduceEqDiff, Nat.zero_add, Nat.add_one_ne_zero, Nat.reduceBEq, Int.toNat_natCast, true_and, and_self, forall_const, reduceCtorEq, Try.underlying22, Try.sz54, Try.ag54, Try.ze54, Try.ar54, g1, eP, hc]
              (repeat (refine ⟨by first | omega | (refine ⟨?_, ?_⟩ <;> omega) | trivial | (simp; done) | decide +kernel, fun _ => ?_⟩))
              refine Does.ret hκ.hP hκ.hgl (c2) ⟨trivial, by simp [SV.bnd, SV.bndL], by first | (simp [SV.bnd, SV.bndL]; done) | assumption⟩ ?_
              refine hκ.run 300 ?_
              simp (disch := omega) only [exec_succ, runR_next, runR_guard_ff, runR_call, stepS, runOp, guardS, toSR, sop, rOf, sPick, sLoadIn, sLoad, sInt, sBin, sConv, sFieldAddr, sExtract, ev, evs, Env.get, Heap.get, takeN, cut, aggOf, setO, OutOK_call, undefS, undef, List.size_toArray, List.length_cons, List.length_nil, List.range, List.range.loop, List.getElem?_toArray, List.getElem?_cons_succ, List.getElem?_cons_zero, Option.bind_some, ↓reduceIte, Nat.reduceAdd, Nat.reduceLT, Nat.reduceEqDiff, Nat.zero_add, Nat.add_one_ne_zero, Bool.not_true, Bool.not_false, decide_true, decide_false, and_self, wrap_u64, gl0, Try.underlying3, Try.sz3, Try.ag3, Try.underlying31, Try.fd54f1, w0]
              (repeat (refine ⟨by first | omega | (refine ⟨?_, ?_⟩ <;> omega) | trivial | (simp; done) | decide +kernel, fun _ => ?_⟩))
              refine Does.ret hκ.hP hκ.hgl (c3) ⟨trivial, by simp [SV.bnd, SV.bndL], by first | (simp [SV.bnd, SV.bndL]; done) | assumption⟩ ?_
              refine hκ.run 300 ?_
              simp (disch := omega) only [exec_succ, runR_next, runR_need, runR_fork_true, runR_fork_false, runR_guard_tt, runR_guard_ff, runR_guard_ft, runR_stop, stepS, runOp, guardS, condS, toSR, sop, rOf, sPick, sLoadIn, sLoad, sInt, sEq, sEqR, sBin, sFieldAddr, sIndexAddr, elemT, obind, ev, Env.get, Heap.get, takeN, cut, aggOf, setO, OutOK_need, OutOK_stop, undefS, undef, List.size_toArray, List.length_cons, List.length_nil, List.length_map, List.range, List.range.loop, List.getElem?_toArray, List.getElem?_cons_succ, List.getElem?_cons_zero, Option.bind_some, ↓reduceIte, Nat.reduceAdd, Nat.reduceLT, Nat.reduceEqDiff, Nat.zero_add, Nat.mul_one, Nat.add_one_ne_zero, Int.toNat_natCast, Bool.not_true, Bool.not_false, decide_true, decide_false, and_self, wrap_i64, wrap_u64, gl0, Try.sz3, Try.ag3, Try.sz4, Try.ag4, Try.underlying28, Try.fd54f1, g2, w1, e9]
              (repeat (refine ⟨by first | omega | (refine ⟨?_, ?_⟩ <;> omega) | trivial | (simp; done) | decide +kernel, fun _ => ?_⟩))
              refine Sat.via (fun i => i) (hz) (by intro i j; (repeat (first | omega | split))) (by repeat' (first | exact EnvVia.nil | refine EnvVia.cons (by first | trivial | decide | (simp [SV.bnd, SV.bndL]; done)) rfl ?_)) (by repeat' (first | exact HeapVia.nil | refine HeapVia.cons (by decide) (by first | trivial | (simp [Blk.bnd, SV.bnd, SV.bndL]; done) | exact bndL_mapV _ _ _ | exact LR.bnd (by rw [l2]; simp [bndE, SV.bnd, SV.bndL]) (by rw [l6]; decide)) (by first | rfl | (simp only [Blk.ren, renL_mapV]; rfl) | (rw [LR.ren (by rw [l2] <;> rfl) (by rw [l6] <;> rfl)]; rfl)) ?_)) ⟨by have := hκ.hm; (try dsimp only at this); (first | done | omega), fun i hi => by have := hκ.hm; (try dsimp only at this); (first | omega | (dsimp only; omega) | (rw [if_neg (by omega)]))⟩ ⟨by simp, rfl⟩
          · rw [show ovS L w pw = w by rw [ovS, if_neg (by omega)], hu]
            have w1 : ((u : Int) = 1) = False := by simp only [eq_iff_iff, iff_false]; omega
            simp (disch := omega) only [runR_next, runR_need, runR_call, stepS, runOp, toSR, sop, rOf, rNew, sAlloc, sAlloc0, sLoad, sStoreIn, sStore, sIndexAddr, elemT, obind, ev, evs, svs, Env.get, Heap.get, Heap.set, takeN, cut, over, paste, aggOf, cellsS, one, ones, Value.oneCell', OutOK_need, OutOK_call, undefS, undef, halt, isAt, atC, execA_succ, List.size_toArray, List.length_cons, List.length_nil, List.length_map, List.range, List.range.loop, List.getElem?_toArray, List.getElem?_cons_succ, List.getElem?_cons_zero, List.map_cons, List.map_nil, ↓reduceIte, Nat.reduceAdd, Nat.reduceLT, Nat.reduceEqDiff, Nat.zero_add, Nat.add_one_ne_zero, Nat.reduceBEq, Int.toNat_natCast, true_and, and_self, forall_const, reduceCtorEq, Try.underlying22, Try.sz54, Try.ag54, Try.ze54, Try.ar54, g1, eP, hc]
            (repeat (refine ⟨by first | omega | (refine ⟨?_, ?_⟩ <;> omega) | trivial | (simp; done) | decide +kernel, fun _ => ?_⟩))
            refine Does.ret hκ.hP hκ.hgl (c2) ⟨trivial, by simp [SV.bnd, SV.bndL], by first | (simp [SV.bnd, SV.bndL]; done) | assumption⟩ ?_
            refine hκ.run 300 ?_
            simp (disch := omega) only [exec_succ, runR_next, runR_guard_ff, runR_call, stepS, runOp, guardS, toSR, sop, rOf, sPick, sLoadIn, sLoad, sInt, sBin, sConv, sFieldAddr, sExtract, ev, evs, Env.get, Heap.get, takeN, cut, aggOf, setO, OutOK_call, undefS, undef, List.size_toArray, List.length_cons, List.length_nil, List.range, List.range.loop, List.getElem?_toArray, List.getElem?_cons_succ, List.getElem?_cons_zero, Option.bind_some, ↓reduceIte, Nat.reduceAdd, Nat.reduceLT, Nat.reduceEqDiff, Nat.zero_add, Nat.add_one_ne_zero, Bool.not_true, Bool.not_false, decide_true, decide_false, and_self, wrap_u64, gl0, Try.underlying3, Try.sz3, Try.ag3, Try.underlying31, Try.fd54f1, w0]
            (repeat (refine ⟨by first | omega | (refine ⟨?_, ?_⟩ <;> omega) | trivial | (simp; done) | decide +kernel, fun _ => ?_⟩))
            refine Does.ret hκ.hP hκ.hgl (c3) ⟨trivial, by simp [SV.bnd, SV.bndL], by first | (simp [SV.bnd, SV.bndL]; done) | assumption⟩ ?_
            refine hκ.run 300 ?_
            simp (disch := omega) only [exec_succ, runR_next, runR_need, runR_fork_true, runR_fork_false, runR_guard_tt, runR_guard_ff, runR_stop, stepS, runOp, guardS, condS, toSR, sop, rOf, sPick, sLoadIn, sLoad, sInt, sBin, sFieldAddr, sIndexAddr, elemT, obind, ev, Env.get, Heap.get, takeN, cut, aggOf, setO, OutOK_need, OutOK_stop, undefS, undef, List.size_toArray, List.length_cons, List.length_nil, List.length_map, List.range, List.range.loop, List.getElem?_toArray, List.getElem?_cons_succ, List.getElem?_cons_zero, Option.bind_some, ↓reduceIte, Nat.reduceAdd, Nat.reduceLT, Nat.reduceEqDiff, Nat.zero_add, Nat.mul_one, Nat.add_one_ne_zero, Int.toNat_natCast, Bool.not_true, Bool.not_false, decide_true, decide_false, and_self, wrap_i64, wrap_u64, gl0, Try.sz3, Try.ag3, Try.sz4, Try.ag4, Try.underlying28, Try.fd54f1, g2, w1, e9]
            (repeat (refine ⟨by first | omega | (refine ⟨?_, ?_⟩ <;> omega) | trivial | (simp; done) | decide +kernel, fun _ => ?_⟩))
            refine Sat.via (fun i => i) (hz) (by intro i j; (repeat (first | omega | split))) (by repeat' (first | exact EnvVia.nil | refine EnvVia.cons (by first | trivial | decide | (simp [SV.bnd, SV.bndL]; done)) rfl ?_)) (by repeat' (first | exact HeapVia.nil | refine HeapVia.cons (by decide) (by first | trivial | (simp [Blk.bnd, SV.bnd, SV.bndL]; done) | exact bndL_mapV _ _ _ | exact LR.bnd (by rw [l2]; simp [bndE, SV.bnd, SV.bndL]) (by rw [l6]; decide)) (by first | rfl | (simp only [Blk.ren, renL_mapV]; rfl) | (rw [LR.ren (by rw [l2] <;> rfl) (by rw [l6] <;> rfl)]; rfl)) ?_)) ⟨by have := hκ.hm; (try dsimp only at this); (first | done | omega), fun i hi => by have := hκ.hm; (try dsimp only at this); (first | omega | (dsimp only; omega) | (rw [if_neg (by omega)]))⟩ ⟨by simp, rfl⟩
      · rw [show zC (p, true) = p.2 from rfl, show zW (p, true) = 0 from rfl, Int.add_zero] at hz
        obtain rfl := f3 rfl
        dsimp only at c2 f1 f2
        obtain ⟨c, hc⟩ : ∃ X : Nat, p.2 = (X : Int) := ⟨p.2.toNat, by omega⟩
        have c3 := compare_ok c 1 c 1 (by omega) (by decide) (by omega) (by decide)
        rw [cmpN_self] at c3
        have hov : 0 ≤ ovS L w pw := by rw [ovS]; split <;> omega
        simp (disch := omega) only [runR_next, runR_need, runR_call, stepS, runOp, toSR, sop, rOf, rNew, sAlloc, sAlloc0, sLoad, sStoreIn, sStore, sIndexAddr, elemT, obind, ev, evs, svs, Env.get, Heap.get, Heap.set, takeN, cut, over, paste, aggOf, cellsS, one, ones, Value.oneCell', OutOK_need, OutOK_call, undefS, undef, halt, isAt, atC, execA_succ, List.size_toArray, List.length_cons, List.length_nil, List.length_map, List.range, List.range.loop, List.getElem?_toArray, List.getElem?_cons_succ, List.getElem?_cons_zero, List.map_cons, List.map_nil, ↓reduceIte, Nat.reduceAdd, Nat.reduceLT, Nat.reduceEqDiff, Nat.zero_add, Nat.add_one_ne_zero, Nat.reduceBEq, Int.toNat_natCast, true_and, and_self, forall_const, reduceCtorEq, Try.underlying22, Try.sz54, Try.ag54, Try.ze54, Try.ar54, g1, eP, hc]
        (repeat (refine ⟨by first | omega | (refine ⟨?_, ?_⟩ <;> omega) | trivial | (simp; done) | decide +kernel, fun _ => ?_⟩))
        rw [hc] at c2
        refine Does.ret hκ.hP hκ.hgl (c2) ⟨trivial, by simp [SV.bnd, SV.bndL], by first | (simp [SV.bnd, SV.bndL]; done) | assumption⟩ ?_
        refine hκ.run 300 ?_
        simp (disch := omega) only [exec_succ, runR_next, runR_guard_ff, runR_call, stepS, runOp, guardS, toSR, sop, rOf, sPick, sLoadIn, sLoad, sInt, sBin, sConv, sFieldAddr, sExtract, ev, evs, Env.get, Heap.get, takeN, cut, aggOf, setO, OutOK_call, undefS, undef, List.size_toArray, List.length_cons, List.length_nil, List.range, List.range.loop, List.getElem?_toArray, List.getElem?_cons_succ, List.getElem?_cons_zero, Option.bind_some, ↓reduceIte, Nat.reduceAdd, Nat.reduceLT, Nat.reduceEqDiff, Nat.zero_add, Nat.add_one_ne_zero, Int.reduceEq, Bool.not_true, Bool.not_false, decide_true, decide_false, and_self, wrap_u64, gl0, Try.underlying3, Try.sz3, Try.ag3, Try.underlying31, Try.fd54f1]
        (repeat (refine ⟨by first | omega | (refine ⟨?_, ?_⟩ <;> omega) | trivial | (simp; done) | decide +kernel, fun _ => ?_⟩))
        rw [hc] at hz
        refine Does.ret hκ.hP hκ.hgl (c3) ⟨trivial, by simp [SV.bnd, SV.bndL], by first | (simp [SV.bnd, SV.bndL]; done) | assumption⟩ ?_
        refine hκ.run 300 ?_
        simp (disch := omega) only [exec_succ, runR_next, runR_need, runR_fork_true, runR_fork_false, runR_guard_ff, runR_stop, stepS, runOp, guardS, condS, goS, toSR, sop, rOf, sPick, sLoadIn, sLoad, sInt, sBin, sFieldAddr, sIndexAddr, elemT, obind, ev, Env.get, Heap.get, takeN, cut, aggOf, setO, exitTo, OutOK_need, OutOK_stop, undefS, undef, List.size_toArray, List.length_cons, List.length_nil, List.length_map, List.range, List.range.loop, List.getElem?_toArray, List.getElem?_cons_succ, List.getElem?_cons_zero, Option.bind_some, ↓reduceIte, Nat.reduceAdd, Nat.reduceLT, Nat.reduceEqDiff, Nat.zero_add, Nat.add_one_ne_zero, Int.reduceLT, Int.toNat_natCast, Bool.not_false, decide_false, beq_self_eq_true, and_self, wrap_i64, wrap_u64, gl0, Try.sz3, Try.ag3, Try.sz4, Try.ag4, Try.underlying28, Try.fd54f1, g2]
        (repeat (refine ⟨by first | omega | (refine ⟨?_, ?_⟩ <;> omega) | trivial | (simp; done) | decide +kernel, fun _ => ?_⟩))
        refine Sat.via (fun i => i) (hz) (by intro i j; (repeat (first | omega | split))) (by repeat' (first | exact EnvVia.nil | refine EnvVia.cons (by first | trivial | decide | (simp [SV.bnd, SV.bndL]; done)) rfl ?_)) (by repeat' (first | exact HeapVia.nil | refine HeapVia.cons (by decide) (by first | trivial | (simp [Blk.bnd, SV.bnd, SV.bndL]; done) | exact bndL_mapV _ _ _ | exact LR.bnd (by rw [l2]; simp [bndE, SV.bnd, SV.bndL]) (by rw [l6]; decide)) (by first | rfl | (simp only [Blk.ren, renL_mapV]; rfl) | (rw [LR.ren (by rw [l2] <;> rfl) (by rw [l6] <;> rfl)]; rfl)) ?_)) ⟨by have := hκ.hm; (try dsimp only at this); (first | done | omega), fun i hi => by have := hκ.hm; (try dsimp only at this); (first | omega | (dsimp only; omega) | (rw [if_neg (by omega)]))⟩ ⟨by simp, rfl⟩
    · simp (disch := omega) only [runR_next, stepS, goS, exitTo, OutOK_stop, halt, isAt, atC, execA_succ, ↓reduceIte, beq_self_eq_true]
      obtain rfl : k = l.length := by omega
      rw [List.take_length, List.take_of_length_le (show V.length ≤ l.length by omega), hWe]
      clear ih hb1 hb2
      apply Sat.join (α := Unit) (nx := 0) (dfs := []) (fun _ => True) (fun _ => ([(5, .rd 1 (Bs V)), (0, Ps l), (1, I m)], []))
      · intro hj
        have hj := hj () trivial
        have hA := sumZ_bd (b := V) (zC_bd hall) (by decide)
        have hCb := sumOf_bd (g := wC) (B := 8) (l := l) fun p hp => by have := (okP_iff p).1 (hall p hp); rw [wC]; omega
        by_cases hc : sumOf wC l ≤ m
        · obtain ⟨h1, h2⟩ := hfew hc
          rw [h1, h2]
          rw [Int.zero_mul]
          refine hκ.runA 29 300 ?_
          simp (disch := omega) only [runR_next, runR_fork_true, runR_fork_false, runR_guard_ff, stepS, runOp, guardS, condS, toSR, sop, rOf, sPick, sInt, sBin, sConv, ev, Env.get, OutOK_stop, undefS, undef, halt, isAt, atC, execA_succ, List.size_toArray, List.length_cons, List.length_nil, List.range, List.range.loop, List.getElem?_toArray, List.getElem?_cons_succ, List.getElem?_cons_zero, Option.bind_some, ↓reduceIte, Nat.reduceAdd, Nat.reduceLT, Nat.reduceEqDiff, Nat.zero_add, Nat.reduceBEq, Bool.not_true, Bool.not_false, decide_true, beq_self_eq_true, and_self, reduceCtorEq, wrap_u64, gl0, Try.underlying3, Try.underlying31, hc]
          (repeat (refine ⟨by first | omega | (refine ⟨?_, ?_⟩ <;> omega) | trivial | (simp; done) | decide +kernel, fun _ => ?_⟩))
          exact hj.less (by repeat' (first | exact EnvSub.nil _ | exact HeapSub.nil _ | refine EnvSub.cons rfl ?_ | refine HeapSub.cons rfl ?_ | (refine EnvSub.cons (by simp [Env.get]; done) ?_) | (refine HeapSub.cons (by simp [Heap.get]; done) ?_))) (by repeat' (first | exact EnvSub.nil _ | exact HeapSub.nil _ | refine EnvSub.cons rfl ?_ | refine HeapSub.cons rfl ?_ | (refine EnvSub.cons (by simp [Env.get]; done) ?_) | (refine HeapSub.cons (by simp [Heap.get]; done) ?_)))
        · by_cases h2 : sumZ zC l V < m
          · have hw := hmore (by omega) h2
            have hL : 0 < L := by omega
            rw [show ovS L w w = w by rw [ovS, if_neg (by omega)], Int.max_eq_left (show 0 ≤ L by omega)]
            obtain ⟨u, hu⟩ : ∃ X : Nat, w = (X : Int) := ⟨w.toNat, by omega⟩
            obtain ⟨x, hx⟩ : ∃ X : Nat, L = (X : Int) := ⟨L.toNat, by omega⟩
            have hb := mul_bd hWb.1 hWb.2 (show 0 ≤ L by omega) (show L ≤ 8 by omega)
            have hux : w * L = ((u * x : Nat) : Int) := by rw [hu, hx, Int.natCast_mul]
            have c3 := compare_ok (u * x) u x 1 (by omega) (by omega) (by omega) (by decide)
            rw [show u * x * 1 = x * u by rw [Nat.mul_one, Nat.mul_comm], cmpN_self] at c3
            have hm2 : m - sumZ zC l V = (x : Int) := by omega
            rw [hux, hu]
            refine hκ.runA 29 300 ?_
            simp (disch := omega) only [runR_next, runR_fork_false, runR_guard_tt, runR_call, stepS, runOp, guardS, condS, toSR, sop, rOf, sInt, sBin, sConv, ev, evs, Env.get, OutOK_call, undefS, undef, halt, isAt, atC, execA_succ, List.size_toArray, List.length_cons, List.length_nil, List.range, List.range.loop, List.getElem?_toArray, List.getElem?_cons_succ, List.getElem?_cons_zero, Option.bind_some, ↓reduceIte, Nat.reduceAdd, Nat.reduceLT, Nat.reduceEqDiff, Nat.zero_add, Nat.reduceBEq, Bool.not_true, decide_true, decide_false, and_self, reduceCtorEq, wrap_u64, gl0, Try.underlying3, Try.underlying31, hc, h2, hm2]
            (repeat (refine ⟨by first | omega | (refine ⟨?_, ?_⟩ <;> omega) | trivial | (simp; done) | decide +kernel, fun _ => ?_⟩))
            refine Does.ret hκ.hP hκ.hgl (c3) ⟨trivial, by simp [SV.bnd, SV.bndL], by first | (simp [SV.bnd, SV.bndL]; done) | assumption⟩ ?_
            refine hκ.runA 29 300 ?_
            simp (disch := omega) only [runR_next, runR_fork_false, runR_guard_tt, stepS, runOp, guardS, condS, toSR, sop, rOf, sPick, sInt, sBin, ev, Env.get, setO, OutOK_stop, undefS, undef, halt, isAt, atC, execA_succ, List.getElem?_toArray, List.getElem?_cons_succ, List.getElem?_cons_zero, Option.bind_some, ↓reduceIte, Nat.reduceLT, Nat.reduceEqDiff, Bool.not_true, decide_true, beq_self_eq_true, and_self, gl0]
            exact hj.less (by repeat' (first | exact EnvSub.nil _ | exact HeapSub.nil _ | refine EnvSub.cons rfl ?_ | refine HeapSub.cons rfl ?_ | (refine EnvSub.cons (by simp [Env.get]; done) ?_) | (refine HeapSub.cons (by simp [Heap.get]; done) ?_))) (by repeat' (first | exact EnvSub.nil _ | exact HeapSub.nil _ | refine EnvSub.cons rfl ?_ | refine HeapSub.cons rfl ?_ | (refine EnvSub.cons (by simp [Env.get]; done) ?_) | (refine HeapSub.cons (by simp [Heap.get]; done) ?_)))
          · refine hκ.runA 29 300 ?_
            simp (disch := omega) only [runR_next, runR_fork_false, runR_guard_ft, stepS, runOp, guardS, condS, toSR, sop, rOf, sPick, sInt, sEq, sEqR, sBin, sConv, ev, evs, Env.get, OutOK_stop, undefS, undef, halt, isAt, atC, execA_succ, List.size_toArray, List.length_cons, List.length_nil, List.range, List.range.loop, List.getElem?_toArray, List.getElem?_cons_succ, List.getElem?_cons_zero, Option.bind_some, ↓reduceIte, Nat.reduceAdd, Nat.reduceLT, Nat.reduceEqDiff, Nat.zero_add, Nat.reduceBEq, Bool.not_true, decide_false, beq_self_eq_true, and_self, reduceCtorEq, wrap_u64, gl0, Try.underlying3, Try.underlying31, hc, h2]
            (repeat (refine ⟨by first | omega | (refine ⟨?_, ?_⟩ <;> omega) | trivial | (simp; done) | decide +kernel, fun _ => ?_⟩))
            exact hj.less (by repeat' (first | exact EnvSub.nil _ | exact HeapSub.nil _ | refine EnvSub.cons rfl ?_ | refine HeapSub.cons rfl ?_ | (refine EnvSub.cons (by simp [Env.get]; done) ?_) | (refine HeapSub.cons (by simp [Heap.get]; done) ?_))) (by repeat' (first | exact EnvSub.nil _ | exact HeapSub.nil _ | refine EnvSub.cons rfl ?_ | refine HeapSub.cons rfl ?_ | (refine EnvSub.cons (by simp [Env.get]; done) ?_) | (refine HeapSub.cons (by simp [Heap.get]; done) ?_)))
      intro _ _
      clear hfew hmore
      refine hκ.run 300 ?_
      simp (disch := omega) only [sBuiltin, exec_succ, runR_next, runR_stop, stepS, runOp, toSR, sop, rOf, sLen, ev, Env.get, OutOK_stop, List.size_toArray, List.length_cons, List.length_nil, List.length_map, List.range, List.range.loop, List.getElem?_toArray, List.getElem?_cons_succ, List.getElem?_cons_zero, ↓reduceIte, Nat.reduceAdd, Nat.reduceLT, Nat.zero_add, Nat.add_one_ne_zero, gl0, Try.underlying22]
      refine Sat.less (Sat.loop (γ := Nat) (fun i => ([(130, I i), (129, I l.length), (128, Ps l), (5, .rd 1 (Bs V)), (0, Ps l), (1, I m)], [], 0)) (fun i => l.length - i) (fun i => i ≤ l.length) ?round2 0 (Nat.zero_le _)) (by repeat' (first | exact EnvSub.nil _ | exact HeapSub.nil _ | refine EnvSub.cons rfl ?_ | refine HeapSub.cons rfl ?_ | (refine EnvSub.cons (by simp [Env.get]; done) ?_) | (refine HeapSub.cons (by simp [Heap.get]; done) ?_))) (by repeat' (first | exact EnvSub.nil _ | exact HeapSub.nil _ | refine EnvSub.cons rfl ?_ | refine HeapSub.cons rfl ?_ | (refine EnvSub.cons (by simp [Env.get]; done) ?_) | (refine HeapSub.cons (by simp [Heap.get]; done) ?_)))
      case round2 =>
        intro i hi ih
        dsimp only at ih ⊢
        refine hκ.run 300 ?_
        simp (disch := omega) only [exec_succ, runR_next, stepS, runOp, condS, toSR, sop, sInt, sBin, ev, Env.get, List.size_toArray, List.length_cons, List.length_nil, List.range, List.range.loop, List.getElem?_toArray, List.getElem?_cons_zero, ↓reduceIte, Nat.reduceLT, Nat.reduceEqDiff, Nat.zero_add, gl0]
        refine OutOK_fork (fun h => ?_) (fun h => ?_) <;> try simp only [Bool.not_true, Bool.not_false, decide_eq_true_eq, decide_eq_false_iff_not, Bool.not_eq_true', Bool.not_eq_false', Bool.and_eq_true, Bool.or_eq_false_iff, Bool.or_eq_true, Bool.and_eq_false_iff] at h
        · have hz := ih (i + 1) (by omega) (by omega)
          have hil : i < l.length := by omega
          have gi : (List.map eP l).getD i [] = eP (l.getD i default) := getD_map _ _ _ (by omega)
          have vi := Bs_get (b := V) (show i < V.length by omega)
          have hpi := (okP_iff _).1 (hall _ (getD_mem hil))
          have ci := cS i hil
          have bi := hsb i hil
          have hci := fun k => hcross i k hil
          clear ih
          generalize l.getD i default = p at *
          generalize V.getD i default = xi at *
          generalize shareV l m i = si at *
          simp (disch := omega) only [sBuiltin, exec_succ, runR_next, runR_need, runR_stop, stepS, runOp, toSR, sop, rOf, rNew, sAlloc, sAlloc0, sLoad, sStoreIn, sStore, sIndexAddr, sLen, elemT, obind, ev, svs, Env.get, Heap.get, Heap.set, takeN, cut, over, paste, aggOf, cellsS, one, ones, Value.oneCell', OutOK_need, OutOK_stop, undefS, undef, List.size_toArray, List.length_cons, List.length_nil, List.length_map, List.range, List.range.loop, List.getElem?_toArray, List.getElem?_cons_succ, List.getElem?_cons_zero, List.map_cons, List.map_nil, ↓reduceIte, Nat.reduceAdd, Nat.reduceLT, Nat.reduceEqDiff, Nat.zero_add, Nat.add_one_ne_zero, Int.toNat_natCast, true_and, and_self, forall_const, Try.underlying22, Try.sz54, Try.ag54, Try.ze54, Try.ar54, gi, eP]
          (repeat (refine ⟨by first | omega | (refine ⟨?_, ?_⟩ <;> omega) | trivial | (simp; done) | decide +kernel, fun _ => ?_⟩))
          refine Sat.less (Sat.loop (γ := Nat) (fun k => ([(137, I k), (136, I l.length), (135, Ps l), (16, I i), (17, .ptr 0 0 0 0), (130, I i), (129, I l.length), (128, Ps l), (5, .rd 1 (Bs V)), (0, Ps l), (1, I m)], [(0, .own [I p.1, I p.2] 54)], 1)) (fun k => l.length - k) (fun k => k ≤ l.length) ?round3 0 (Nat.zero_le _)) (by repeat' (first | exact EnvSub.nil _ | exact HeapSub.nil _ | refine EnvSub.cons rfl ?_ | refine HeapSub.cons rfl ?_ | (refine EnvSub.cons (by simp [Env.get]; done) ?_) | (refine HeapSub.cons (by simp [Heap.get]; done) ?_))) (by repeat' (first | exact EnvSub.nil _ | exact HeapSub.nil _ | refine EnvSub.cons rfl ?_ | refine HeapSub.cons rfl ?_ | (refine EnvSub.cons (by simp [Env.get]; done) ?_) | (refine HeapSub.cons (by simp [Heap.get]; done) ?_)))
          case round3 =>
            intro k hk ih
            dsimp only at ih ⊢
            refine hκ.run 300 ?_
            simp (disch := omega) only [exec_succ, runR_next, stepS, runOp, condS, toSR, sop, sInt, sBin, ev, Env.get, List.size_toArray, List.length_cons, List.length_nil, List.range, List.range.loop, List.getElem?_toArray, List.getElem?_cons_zero, ↓reduceIte, Nat.reduceLT, Nat.reduceEqDiff, Nat.zero_add, gl0]
            refine OutOK_fork (fun h => ?_) (fun h => ?_) <;> try simp only [Bool.not_true, Bool.not_false, decide_eq_true_eq, decide_eq_false_iff_not, Bool.not_eq_true', Bool.not_eq_false', Bool.and_eq_true, Bool.or_eq_false_iff, Bool.or_eq_true, Bool.and_eq_false_iff] at h
            · have hz2 := ih (k + 1) (by omega) (by omega)
              have hkl : k < l.length := by omega
              have gk : (List.map eP l).getD k [] = eP (l.getD k default) := getD_map _ _ _ (by omega)
              have vk := Bs_get (b := V) (show k < V.length by omega)
              have hpk := (okP_iff _).1 (hall _ (getD_mem hkl))
              have ck := cS k hkl
              have bk := hsb k hkl
              have hck := hci k hkl
              clear ih hci cS hsb hle hsf hs0 hsw hcross
              generalize l.getD k default = q at *
              generalize V.getD k default = xk at *
              generalize shareV l m k = sk at *
              cases xi
              · skip
                simp (disch := omega) only [exec_succ, runR_next, runR_need, runR_fork_true, runR_guard_tf, runR_stop, stepS, runOp, guardS, condS, goS, toSR, sop, rOf, rNew, sPick, sAlloc, sAlloc0, sLoad, sStoreIn, sStore, sInt, sBin, sUn, sIndexAddr, elemT, obind, ev, svs, Env.get, Heap.get, Heap.set, takeN, cut, over, paste, aggOf, cellsS, one, ones, exitTo, Value.oneCell', OutOK_need, OutOK_stop, undefS, undef, List.size_toArray, List.length_cons, List.length_nil, List.length_map, List.range, List.range.loop, List.getElem?_toArray, List.getElem?_cons_succ, List.getElem?_cons_zero, List.map_cons, List.map_nil, Option.bind_some, ↓reduceIte, Nat.reduceAdd, Nat.reduceLT, Nat.reduceEqDiff, Nat.zero_add, Int.toNat_natCast, Bool.not_false, beq_self_eq_true, true_and, and_self, forall_const, wrap_i64, Try.sz4, Try.ag4, Try.underlying22, Try.underlying28, Try.sz54, Try.ag54, Try.ze54, Try.ar54, gk, vi, eP, hVl]
                (repeat (refine ⟨by first | omega | (refine ⟨?_, ?_⟩ <;> omega) | trivial | (simp; done) | decide +kernel, fun _ => ?_⟩))
                refine Sat.via (fun i => i) (hz2) (by intro i j; (repeat (first | omega | split))) (by repeat' (first | exact EnvVia.nil | refine EnvVia.cons (by first | trivial | decide | (simp [SV.bnd, SV.bndL]; done)) rfl ?_)) (by repeat' (first | exact HeapVia.nil | refine HeapVia.cons (by decide) (by first | trivial | (simp [Blk.bnd, SV.bnd, SV.bndL]; done) | exact bndL_mapV _ _ _ | exact LR.bnd (by rw [l2]; simp [bndE, SV.bnd, SV.bndL]) (by rw [l6]; decide)) (by first | rfl | (simp only [Blk.ren, renL_mapV]; rfl) | (rw [LR.ren (by rw [l2] <;> rfl) (by rw [l6] <;> rfl)]; rfl)) ?_)) ⟨by have := hκ.hm; (try dsimp only at this); (first | done | omega), fun i hi => by have := hκ.hm; (try dsimp only at this); (first | omega | (dsimp only; omega) | (rw [if_neg (by omega)]))⟩ ⟨by simp, rfl⟩
              cases xk
              case true =>
                simp (disch := omega) only [exec_succ, runR_next, runR_need, runR_fork_true, runR_guard_ff, runR_stop, stepS, runOp, guardS, condS, goS, toSR, sop, rOf, rNew, sPick, sAlloc, sAlloc0, sLoad, sStoreIn, sStore, sInt, sBin, sUn, sIndexAddr, elemT, obind, ev, svs, Env.get, Heap.get, Heap.set, takeN, cut, over, paste, aggOf, cellsS, one, ones, exitTo, Value.oneCell', OutOK_need, OutOK_stop, undefS, undef, List.size_toArray, List.length_cons, List.length_nil, List.length_map, List.range, List.range.loop, List.getElem?_toArray, List.getElem?_cons_succ, List.getElem?_cons_zero, List.map_cons, List.map_nil, Option.bind_some, ↓reduceIte, Nat.reduceAdd, Nat.reduceLT, Nat.reduceEqDiff, Nat.zero_add, Int.toNat_natCast, Bool.not_true, Bool.not_false, beq_self_eq_true, true_and, and_self, forall_const, wrap_i64, Try.sz4, Try.ag4, Try.underlying22, Try.underlying28, Try.sz54, Try.ag54, Try.ze54, Try.ar54, gk, vi, vk, eP, hVl]
                (repeat (refine ⟨by first | omega | (refine ⟨?_, ?_⟩ <;> omega) | trivial | (simp; done) | decide +kernel, fun _ => ?_⟩))
                refine Sat.via (fun i => i) (hz2) (by intro i j; (repeat (first | omega | split))) (by repeat' (first | exact EnvVia.nil | refine EnvVia.cons (by first | trivial | decide | (simp [SV.bnd, SV.bndL]; done)) rfl ?_)) (by repeat' (first | exact HeapVia.nil | refine HeapVia.cons (by decide) (by first | trivial | (simp [Blk.bnd, SV.bnd, SV.bndL]; done) | exact bndL_mapV _ _ _ | exact LR.bnd (by rw [l2]; simp [bndE, SV.bnd, SV.bndL]) (by rw [l6]; decide)) (by first | rfl | (simp only [Blk.ren, renL_mapV]; rfl) | (rw [LR.ren (by rw [l2] <;> rfl) (by rw [l6] <;> rfl)]; rfl)) ?_)) ⟨by have := hκ.hm; (try dsimp only at this); (first | done | omega), fun i hi => by have := hκ.hm; (try dsimp only at this); (first | omega | (dsimp only; omega) | (rw [if_neg (by omega)]))⟩ ⟨by simp, rfl⟩
              simp (disch := omega) only [exec_succ, runR_next, runR_need, runR_fork_false, runR_guard_ff, runR_call, stepS, runOp, guardS, condS, toSR, sop, rOf, rNew, sPick, sAlloc, sAlloc0, sLoad, sStoreIn, sStore, sUn, sIndexAddr, elemT, obind, ev, evs, svs, Env.get, Heap.get, Heap.set, takeN, cut, over, paste, aggOf, cellsS, one, ones, Value.oneCell', OutOK_need, OutOK_call, undefS, undef, List.size_toArray, List.length_cons, List.length_nil, List.length_map, List.range, List.range.loop, List.getElem?_toArray, List.getElem?_cons_succ, List.getElem?_cons_zero, List.map_cons, List.map_nil, Option.bind_some, ↓reduceIte, Nat.reduceAdd, Nat.reduceLT, Nat.reduceEqDiff, Nat.zero_add, Nat.add_one_ne_zero, Int.toNat_natCast, Bool.not_true, Bool.not_false, true_and, and_self, forall_const, reduceCtorEq, Try.sz4, Try.ag4, Try.underlying22, Try.underlying28, Try.sz54, Try.ag54, Try.ze54, Try.ar54, gk, vi, vk, eP, hVl]
              (repeat (refine ⟨by first | omega | (refine ⟨?_, ?_⟩ <;> omega) | trivial | (simp; done) | decide +kernel, fun _ => ?_⟩))
              have hck := hck rfl rfl
              obtain ⟨s1, s2⟩ := si
              obtain ⟨t1, t2⟩ := sk
              obtain ⟨p1, p2⟩ := p
              obtain ⟨q1, q2⟩ := q
              dsimp only at *
              obtain ⟨a, rfl⟩ : ∃ X : Nat, s1 = (X : Int) := ⟨s1.toNat, by omega⟩
              obtain ⟨b, rfl⟩ : ∃ X : Nat, s2 = (X : Int) := ⟨s2.toNat, by omega⟩
              obtain ⟨c, rfl⟩ : ∃ X : Nat, t1 = (X : Int) := ⟨t1.toNat, by omega⟩
              obtain ⟨d, rfl⟩ : ∃ X : Nat, t2 = (X : Int) := ⟨t2.toNat, by omega⟩
              obtain ⟨wi, rfl⟩ : ∃ X : Nat, p1 = (X : Int) := ⟨p1.toNat, by omega⟩
              obtain ⟨wk, rfl⟩ : ∃ X : Nat, q1 = (X : Int) := ⟨q1.toNat, by omega⟩
              refine Does.ret hκ.hP hκ.hgl (ci) ⟨trivial, by simp [SV.bnd, SV.bndL], by first | (simp [SV.bnd, SV.bndL]; done) | assumption⟩ ?_
              refine hκ.run 300 ?_
              simp (disch := omega) only [exec_succ, runR_next, runR_call, stepS, runOp, toSR, sop, rOf, sExtract, ev, evs, Env.get, setO, OutOK_call, List.size_toArray, List.length_cons, List.length_nil, List.range, List.range.loop, List.getElem?_toArray, List.getElem?_cons_succ, List.getElem?_cons_zero, ↓reduceIte, Nat.reduceAdd, Nat.reduceLT, Nat.reduceEqDiff, Nat.zero_add, Nat.add_one_ne_zero, reduceCtorEq, gl0]
              refine Does.ret hκ.hP hκ.hgl (ck) ⟨trivial, by simp [SV.bnd, SV.bndL], by first | (simp [SV.bnd, SV.bndL]; done) | assumption⟩ ?_
              by_cases h0 : (0 : Int) < c
              · have hck := hck h0
                have hle2 : a * wk * d ≤ c * wi * b := by
                  have : ((a * wk * d : Nat) : Int) ≤ ((c * wi * b : Nat) : Int) := by rw [Int.natCast_mul, Int.natCast_mul, Int.natCast_mul, Int.natCast_mul]; exact hck
                  omega
                have m1 : (c : Int) * (wi : Int) = ((c * wi : Nat) : Int) := by rw [Int.natCast_mul]
                have m2 : (a : Int) * (wk : Int) = ((a * wk : Nat) : Int) := by rw [Int.natCast_mul]
                have b1 : c * wi ≤ 524280 * 65535 := Nat.mul_le_mul (by omega) (by omega)
                have b2 : a * wk ≤ 524280 * 65535 := Nat.mul_le_mul (by omega) (by omega)
                have c3 := compare_ok (c * wi) d (a * wk) b (by omega) (by omega) (by omega) (by omega)
                have e9 : (cmpN (c * wi * b) (a * wk * d) < 0) = False := by rw [cmpN_lt]; exact eq_false (by omega)
                refine hκ.run 300 ?_
                simp (disch := omega) only [exec_succ, runR_next, runR_guard_tt, runR_guard_ff, runR_call, stepS, runOp, guardS, toSR, sop, rOf, sPick, sLoadIn, sLoad, sInt, sBin, sConv, sFieldAddr, sExtract, ev, evs, Env.get, Heap.get, takeN, cut, aggOf, setO, OutOK_call, undefS, undef, List.size_toArray, List.length_cons, List.length_nil, List.range, List.range.loop, List.getElem?_toArray, List.getElem?_cons_succ, List.getElem?_cons_zero, Option.bind_some, ↓reduceIte, Nat.reduceAdd, Nat.reduceLT, Nat.reduceEqDiff, Nat.zero_add, Nat.add_zero, Nat.add_one_ne_zero, Bool.not_true, Bool.not_false, decide_true, and_self, wrap_u64, gl0, Try.underlying3, Try.sz3, Try.ag3, Try.underlying31, Try.fd54f0, h0, m1, m2]
                (repeat (refine ⟨by first | omega | (refine ⟨?_, ?_⟩ <;> omega) | trivial | (simp; done) | decide +kernel, fun _ => ?_⟩))
                refine Does.ret hκ.hP hκ.hgl (c3) ⟨trivial, by simp [SV.bnd, SV.bndL], by first | (simp [SV.bnd, SV.bndL]; done) | assumption⟩ ?_
                refine hκ.run 300 ?_
                simp (disch := omega) only [exec_succ, runR_next, runR_fork_false, runR_guard_tt, runR_guard_ff, runR_stop, stepS, runOp, guardS, condS, toSR, sop, rOf, sPick, sInt, sBin, ev, Env.get, setO, OutOK_stop, undefS, undef, List.size_toArray, List.length_cons, List.length_nil, List.range, List.range.loop, List.getElem?_toArray, List.getElem?_cons_succ, List.getElem?_cons_zero, Option.bind_some, ↓reduceIte, Nat.reduceAdd, Nat.reduceLT, Nat.reduceEqDiff, Nat.zero_add, Bool.not_true, Bool.not_false, decide_false, and_self, wrap_i64, gl0, e9]
                (repeat (refine ⟨by first | omega | (refine ⟨?_, ?_⟩ <;> omega) | trivial | (simp; done) | decide +kernel, fun _ => ?_⟩))
                refine Sat.via (fun i => i) (hz2) (by intro i j; (repeat (first | omega | split))) (by repeat' (first | exact EnvVia.nil | refine EnvVia.cons (by first | trivial | decide | (simp [SV.bnd, SV.bndL]; done)) rfl ?_)) (by repeat' (first | exact HeapVia.nil | refine HeapVia.cons (by decide) (by first | trivial | (simp [Blk.bnd, SV.bnd, SV.bndL]; done) | exact bndL_mapV _ _ _ | exact LR.bnd (by rw [l2]; simp [bndE, SV.bnd, SV.bndL]) (by rw [l6]; decide)) (by first | rfl | (simp only [Blk.ren, renL_mapV]; rfl) | (rw [LR.ren (by rw [l2] <;> rfl) (by rw [l6] <;> rfl)]; rfl)) ?_)) ⟨by have := hκ.hm; (try dsimp only at this); (first | done | omega), fun i hi => by have := hκ.hm; (try dsimp only at this); (first | omega | (dsimp only; omega) | (rw [if_neg (by omega)]))⟩ ⟨by simp, rfl⟩
              · skip
                refine hκ.run 300 ?_
                simp (disch := omega) only [exec_succ, runR_next, runR_fork_false, runR_guard_ff, runR_guard_ft, runR_stop, stepS, runOp, guardS, condS, toSR, sop, rOf, sPick, sLoad, sInt, sBin, sConv, sFieldAddr, sExtract, ev, evs, Env.get, setO, OutOK_stop, undefS, undef, List.size_toArray, List.length_cons, List.length_nil, List.range, List.range.loop, List.getElem?_toArray, List.getElem?_cons_succ, List.getElem?_cons_zero, Option.bind_some, ↓reduceIte, Nat.reduceAdd, Nat.reduceLT, Nat.reduceEqDiff, Nat.zero_add, Nat.add_zero, Nat.add_one_ne_zero, Bool.not_true, Bool.not_false, decide_true, decide_false, and_self, wrap_i64, gl0, Try.underlying3, Try.fd54f0, h0]
                (repeat (refine ⟨by first | omega | (refine ⟨?_, ?_⟩ <;> omega) | trivial | (simp; done) | decide +kernel, fun _ => ?_⟩))
                refine Sat.via (fun i => i) (hz2) (by intro i j; (repeat (first | omega | split))) (by repeat' (first | exact EnvVia.nil | refine EnvVia.cons (by first | trivial | decide | (simp [SV.bnd, SV.bndL]; done)) rfl ?_)) (by repeat' (first | exact HeapVia.nil | refine HeapVia.cons (by decide) (by first | trivial | (simp [Blk.bnd, SV.bnd, SV.bndL]; done) | exact bndL_mapV _ _ _ | exact LR.bnd (by rw [l2]; simp [bndE, SV.bnd, SV.bndL]) (by rw [l6]; decide)) (by first | rfl | (simp only [Blk.ren, renL_mapV]; rfl) | (rw [LR.ren (by rw [l2] <;> rfl) (by rw [l6] <;> rfl)]; rfl)) ?_)) ⟨by have := hκ.hm; (try dsimp only at this); (first | done | omega), fun i hi => by have := hκ.hm; (try dsimp only at this); (first | omega | (dsimp only; omega) | (rw [if_neg (by omega)]))⟩ ⟨by simp, rfl⟩
            · simp (disch := omega) only [exec_succ, runR_next, runR_stop, stepS, runOp, goS, toSR, sop, rOf, sInt, sBin, ev, Env.get, exitTo, OutOK_stop, List.size_toArray, List.length_cons, List.length_nil, List.range, List.range.loop, List.getElem?_toArray, List.getElem?_cons_succ, List.getElem?_cons_zero, ↓reduceIte, Nat.reduceAdd, Nat.reduceLT, Nat.reduceEqDiff, Nat.zero_add, beq_self_eq_true, wrap_i64]
              refine Sat.via (fun i => i) (hz) (by intro i j; (repeat (first | omega | split))) (by repeat' (first | exact EnvVia.nil | refine EnvVia.cons (by first | trivial | decide | (simp [SV.bnd, SV.bndL]; done)) rfl ?_)) (by repeat' (first | exact HeapVia.nil | refine HeapVia.cons (by decide) (by first | trivial | (simp [Blk.bnd, SV.bnd, SV.bndL]; done) | exact bndL_mapV _ _ _ | exact LR.bnd (by rw [l2]; simp [bndE, SV.bnd, SV.bndL]) (by rw [l6]; decide)) (by first | rfl | (simp only [Blk.ren, renL_mapV]; rfl) | (rw [LR.ren (by rw [l2] <;> rfl) (by rw [l6] <;> rfl)]; rfl)) ?_)) ⟨by have := hκ.hm; (try dsimp only at this); (first | done | omega), fun i hi => by have := hκ.hm; (try dsimp only at this); (first | omega | (dsimp only; omega) | (rw [if_neg (by omega)]))⟩ ⟨by simp, rfl⟩
        · simp (disch := omega) only [exec_succ, runR_next, runR_stop, stepS, runOp, goS, toSR, sop, rOf, ev, exitTo, OutOK_stop, List.size_toArray, List.length_cons, List.length_nil, List.range, List.range.loop, List.getElem?_toArray, List.getElem?_cons_zero, ↓reduceIte, Nat.reduceLT, Nat.zero_add, beq_self_eq_true]
          refine hκ.ret _ _ _ _ _ _ trivial rfl ?_
          rfl
end Go.Proofs.Ytomfpciigaopiaa
