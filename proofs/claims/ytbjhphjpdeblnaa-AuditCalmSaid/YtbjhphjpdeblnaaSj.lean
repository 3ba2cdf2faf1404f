/- Times that lie apart. No condition. -/
import Derived.Test.YtbjhphjpdeblnaaSh
namespace Go.Proofs.Ytbjhphjpdeblnaa.Sh
open Go Go.Sy
set_option maxRecDepth 100000
set_option linter.unusedSimpArgs false
set_option linter.unusedVariables false

abbrev Ts (ts : List Int) : SV := .rd 1 (ts.map (eI .i64))
def okT (l : List Pt) (ts : List Int) (k : Nat) : Bool := decide (ts.length = l.length) && (ts.take k).all fun t => inI t 0 1125899906842624
theorem okT_succ {l : List Pt} {ts : List Int} {k : Nat} (h : k < ts.length) : okT l ts (k + 1) = (okT l ts k && inI (ts.getD k default) 0 1125899906842624) := by
  rw [okT, okT, take_getD h, List.all_append, List.all_cons, List.all_nil, Bool.and_true, Bool.and_assoc]
theorem okT_iff {l : List Pt} {ts : List Int} : okT l ts ts.length = true ↔ ts.length = l.length ∧ ∀ t ∈ ts, 0 ≤ t ∧ t ≤ 1125899906842624 := by
  rw [okT, List.take_length, Bool.and_eq_true, decide_eq_true_eq, List.all_eq_true]
  simp only [inI_iff]
def apP (l : List Pt) (ts : List Int) (sp i k : Nat) : Bool :=
  decide ((ts.getD k default).toNat * (l.getD i default).1.toNat + sp * ((l.getD i default).1.toNat * (l.getD k default).1.toNat) < (ts.getD i default).toNat * (l.getD k default).1.toNat)
def apartB (l : List Pt) (ts : List Int) (sp : Nat) : Bool := (List.range l.length).any fun i => (List.range l.length).any fun k => apP l ts sp i k
theorem ap_yes {l : List Pt} {ts : List Int} {sp i k : Nat} (hi : i < l.length) (hk : k < l.length) (h : apP l ts sp i k = true) : apartB l ts sp = true := by
  rw [apartB, List.any_eq_true]
  exact ⟨i, List.mem_range.2 hi, List.any_eq_true.2 ⟨k, List.mem_range.2 hk, h⟩⟩
theorem ap_no {l : List Pt} {ts : List Int} {sp : Nat} (h : ∀ i, i < l.length → ∀ k, k < l.length → apP l ts sp i k = false) : apartB l ts sp = false := by
  rw [← Bool.not_eq_true, apartB, List.any_eq_true]
  rintro ⟨i, hi, h2⟩
  rw [List.any_eq_true] at h2
  obtain ⟨k, hk, h3⟩ := h2
  rw [h i (List.mem_range.1 hi) k (List.mem_range.1 hk)] at h3
  cases h3
theorem Apart_err (l : List Pt) (ts : List Int) (sp : Nat) (hl : ∀ p ∈ l, inP p) (hn : l.length < 2 ^ 40) (ht : ∀ t ∈ ts, i64 t) (htn : ts.length < 2 ^ 40) (hne : askE l (okT l ts ts.length) ≠ 0) : Con Try.prog gl0 (fnv 49) [Ps l, Ts ts, W sp] 0 [] (Ret (.tup [Bo false, I (askE l (okT l ts ts.length))])) := by
  have c1 := asked_ok l (okT l ts ts.length) hl hn
  have e0 : decide ((ts.length : Int) = (l.length : Int)) = okT l ts 0 := by
    rw [okT, List.take_zero, List.all_nil, Bool.and_true, decide_eq_decide]; omega
  refine Con.of Try.ok49 (nt := 106) (res := [.tmp 6, .tmp 7]) Try.mixed Try.func49 rfl rfl rfl rfl fun κ xc hκ => hκ.run 300 ?_
  simp (disch := omega) only [sBuiltin, exec_succ, runR_next, runR_stop, stepS, runOp, toSR, sop, rOf, rNew, sBox, isArr, sInt, sBin, sLen, ev, Env.get, cellsS, envOf, OutOK_stop, Bool.false_eq_true, List.size_toArray, List.length_cons, List.length_nil, List.length_map, List.range, List.range.loop, List.getElem?_toArray, List.getElem?_cons_succ, List.getElem?_cons_zero, ↓reduceIte, Nat.reduceAdd, Nat.reduceLT, Nat.reduceEqDiff, Nat.zero_add, Nat.add_one_ne_zero, reduceCtorEq, gl0, Try.underlying76, Try.underlying77, e0]
  refine Sat.less (Sat.loop (γ := Nat) (fun k => ([(28, I k), (27, I ts.length), (26, Ts ts), (8, Bo (okT l ts k)), (0, Ps l), (1, Ts ts)], [], 1)) (fun k => ts.length - k) (fun k => k ≤ ts.length) ?round 0 (Nat.zero_le _)) (by repeat' (first | exact EnvSub.nil _ | exact HeapSub.nil _ | refine EnvSub.cons rfl ?_ | refine HeapSub.cons rfl ?_ | (refine EnvSub.cons (by simp [Env.get]; done) ?_) | (refine HeapSub.cons (by simp [Heap.get]; done) ?_))) (by repeat' (first | exact EnvSub.nil _ | exact HeapSub.nil _ | refine EnvSub.cons rfl ?_ | refine HeapSub.cons rfl ?_ | (refine EnvSub.cons (by simp [Env.get]; done) ?_) | (refine HeapSub.cons (by simp [Heap.get]; done) ?_)))
  case round =>
    intro k hk ih
    dsimp only at ih ⊢
    refine hκ.run 300 ?_
    simp (disch := omega) only [exec_succ, runR_next, stepS, runOp, condS, toSR, sop, sInt, sBin, ev, Env.get, List.size_toArray, List.length_cons, List.length_nil, List.range, List.range.loop, List.getElem?_toArray, List.getElem?_cons_zero, ↓reduceIte, Nat.reduceLT, Nat.reduceEqDiff, Nat.zero_add, gl0]
    refine OutOK_fork (fun h => ?_) (fun h => ?_) <;> try simp only [Bool.not_true, Bool.not_false, decide_eq_true_eq, decide_eq_false_iff_not, Bool.not_eq_true', Bool.not_eq_false', Bool.and_eq_true, Bool.or_eq_false_iff, Bool.or_eq_true, Bool.and_eq_false_iff] at h
    · have hz := ih (k + 1) (by omega) (by omega)
      rw [okT_succ (by omega)] at hz
      have g1 : (List.map (eI .i64) ts).getD k [] = eI .i64 (ts.getD k default) := getD_map _ _ _ (by omega)
      generalize ts.getD k default = t at *
      simp (disch := omega) only [exec_succ, runR_next, runR_need, stepS, runOp, guardS, toSR, sop, rOf, sLoad, sIndexAddr, elemT, obind, ev, Env.get, takeN, cut, aggOf, OutOK_need, undefS, undef, List.size_toArray, List.length_cons, List.length_nil, List.length_map, List.range, List.range.loop, List.getElem?_toArray, List.getElem?_cons_succ, List.getElem?_cons_zero, Option.bind_some, ↓reduceIte, Nat.reduceAdd, Nat.reduceLT, Nat.reduceEqDiff, Nat.zero_add, Int.toNat_natCast, Bool.not_true, and_self, eI, Try.sz2, Try.ag2, Try.underlying77, g1]
      (repeat (refine ⟨by first | omega | (refine ⟨?_, ?_⟩ <;> omega) | trivial | (simp; done) | decide +kernel, fun _ => ?_⟩))
      cases hb : okT l ts k
      · rw [hb, Bool.false_and] at hz
        simp (disch := omega) only [exec_succ, runR_next, runR_guard_ft, runR_stop, stepS, runOp, guardS, toSR, sop, rOf, sPick, sInt, sBin, ev, evs, Env.get, OutOK_stop, undefS, undef, List.size_toArray, List.length_cons, List.length_nil, List.range, List.range.loop, List.getElem?_toArray, List.getElem?_cons_succ, List.getElem?_cons_zero, Option.bind_some, ↓reduceIte, Nat.reduceAdd, Nat.reduceLT, Nat.reduceEqDiff, Nat.zero_add, Bool.not_true, and_self, wrap_i64]
        refine Sat.via (fun i => i) (hz) (by intro i j; (repeat (first | omega | split))) (by repeat' (first | exact EnvVia.nil | refine EnvVia.cons (by first | trivial | decide | (simp [SV.bnd, SV.bndL]; done)) rfl ?_)) (by repeat' (first | exact HeapVia.nil | refine HeapVia.cons (by decide) (by first | trivial | (simp [Blk.bnd, SV.bnd, SV.bndL]; done) | exact bndL_mapV _ _ _ | exact LR.bnd (by rw [l2]; simp [bndE, SV.bnd, SV.bndL]) (by rw [l6]; decide)) (by first | rfl | (simp only [Blk.ren, renL_mapV]; rfl) | (rw [LR.ren (by rw [l2] <;> rfl) (by rw [l6] <;> rfl)]; rfl)) ?_)) ⟨by have := hκ.hm; (try dsimp only at this); (first | done | omega), fun i hi => by have := hκ.hm; (try dsimp only at this); (first | omega | (dsimp only; omega) | (rw [if_neg (by omega)]))⟩ ⟨by simp, rfl⟩
      · rw [hb, Bool.true_and] at hz
        simp (disch := omega) only [exec_succ, runR_next, runR_guard_tt, runR_call, stepS, runOp, guardS, ev, evs, Env.get, OutOK_call, undefS, undef, List.getElem?_toArray, List.getElem?_cons_succ, List.getElem?_cons_zero, Option.bind_some, ↓reduceIte, Nat.reduceLT, Nat.reduceEqDiff, Bool.not_true, and_self]
        refine Does.ret hκ.hP hκ.hgl (within_ok t 0 1125899906842624) ⟨trivial, by simp [SV.bnd, SV.bndL], by first | (simp [SV.bnd, SV.bndL]; done) | assumption⟩ ?_
        refine hκ.run 300 ?_
        simp (disch := omega) only [exec_succ, runR_next, runR_stop, stepS, runOp, toSR, sop, rOf, sPick, sInt, sBin, ev, Env.get, setO, OutOK_stop, List.size_toArray, List.length_cons, List.length_nil, List.range, List.range.loop, List.getElem?_toArray, List.getElem?_cons_succ, List.getElem?_cons_zero, ↓reduceIte, Nat.reduceAdd, Nat.reduceLT, Nat.reduceEqDiff, Nat.zero_add, wrap_i64, gl0]
        refine Sat.via (fun i => i) (hz) (by intro i j; (repeat (first | omega | split))) (by repeat' (first | exact EnvVia.nil | refine EnvVia.cons (by first | trivial | decide | (simp [SV.bnd, SV.bndL]; done)) rfl ?_)) (by repeat' (first | exact HeapVia.nil | refine HeapVia.cons (by decide) (by first | trivial | (simp [Blk.bnd, SV.bnd, SV.bndL]; done) | exact bndL_mapV _ _ _ | exact LR.bnd (by rw [l2]; simp [bndE, SV.bnd, SV.bndL]) (by rw [l6]; decide)) (by first | rfl | (simp only [Blk.ren, renL_mapV]; rfl) | (rw [LR.ren (by rw [l2] <;> rfl) (by rw [l6] <;> rfl)]; rfl)) ?_)) ⟨by have := hκ.hm; (try dsimp only at this); (first | done | omega), fun i hi => by have := hκ.hm; (try dsimp only at this); (first | omega | (dsimp only; omega) | (rw [if_neg (by omega)]))⟩ ⟨by simp, rfl⟩
    · simp (disch := omega) only [exec_succ, runR_next, runR_call, stepS, runOp, goS, toSR, sop, rOf, ev, evs, Env.get, exitTo, OutOK_call, List.size_toArray, List.length_cons, List.length_nil, List.range, List.range.loop, List.getElem?_toArray, List.getElem?_cons_succ, List.getElem?_cons_zero, ↓reduceIte, Nat.reduceAdd, Nat.reduceLT, Nat.reduceEqDiff, Nat.zero_add, Nat.add_one_ne_zero, beq_self_eq_true]
      obtain rfl : k = ts.length := by omega
      refine Does.ret hκ.hP hκ.hgl (c1) ⟨trivial, by simp [SV.bnd, SV.bndL], by first | (simp [SV.bnd, SV.bndL]; done) | assumption⟩ ?_
      refine hκ.run 300 ?_
      simp (disch := omega) only [exec_succ, runR_next, runR_fork_true, runR_stop, stepS, runOp, condS, toSR, sop, rOf, sInt, sBin, ev, Env.get, setO, OutOK_stop, List.size_toArray, List.length_cons, List.length_nil, List.range, List.range.loop, List.getElem?_toArray, List.getElem?_cons_succ, List.getElem?_cons_zero, ↓reduceIte, Nat.reduceAdd, Nat.reduceLT, Nat.reduceEqDiff, Nat.zero_add, Bool.not_false, decide_false, gl0, hne]
      refine hκ.ret _ _ _ _ _ _ trivial rfl ?_
      exact .ret (by simp [SV.bnd, SV.bndL])
set_option maxHeartbeats 4000000 in
theorem Apart_yes (l : List Pt) (ts : List Int) (sp : Nat) (hl : ∀ p ∈ l, inP p) (hr : rightP l = true) (hsp : sp < 2 ^ 128) (hok : okT l ts ts.length = true) : Con Try.prog gl0 (fnv 49) [Ps l, Ts ts, W sp] 0 [] (Ret (.tup [Bo (apartB l ts sp), I 0])) := by
  obtain ⟨hn, hall, -⟩ := (rightP_iff l).1 hr
  obtain ⟨htl, hts⟩ := okT_iff.1 hok
  have c1 := asked_ok l true hl (by omega)
  rw [askE, if_pos hr, if_pos rfl] at c1
  have e0 : decide ((ts.length : Int) = (l.length : Int)) = true := decide_eq_true (by omega)
  have hyes := fun i k hi hk h => ap_yes (l := l) (ts := ts) (sp := sp) (i := i) (k := k) hi hk h
  have hno := ap_no (l := l) (ts := ts) (sp := sp)
  generalize apartB l ts sp = R at *
  refine Con.of Try.ok49 (nt := 106) (res := [.tmp 6, .tmp 7]) Try.mixed Try.func49 rfl rfl rfl rfl fun κ xc hκ => hκ.run 300 ?_
  simp (disch := omega) only [sBuiltin, exec_succ, runR_next, runR_stop, stepS, runOp, toSR, sop, rOf, rNew, sBox, isArr, sInt, sBin, sLen, ev, Env.get, cellsS, envOf, OutOK_stop, Bool.false_eq_true, List.size_toArray, List.length_cons, List.length_nil, List.length_map, List.range, List.range.loop, List.getElem?_toArray, List.getElem?_cons_succ, List.getElem?_cons_zero, ↓reduceIte, Nat.reduceAdd, Nat.reduceLT, Nat.reduceEqDiff, Nat.zero_add, Nat.add_one_ne_zero, reduceCtorEq, gl0, Try.underlying76, Try.underlying77, e0]
  refine Sat.less (Sat.loop (γ := Nat) (fun k => ([(28, I k), (27, I ts.length), (26, Ts ts), (8, Bo true), (5, .ptr 0 0 0 0), (0, Ps l), (1, Ts ts)], [(0, .own [U (sp / 18446744073709551616), U (sp % 18446744073709551616)] 83)], 1)) (fun k => ts.length - k) (fun k => k ≤ ts.length) ?round 0 (Nat.zero_le _)) (by repeat' (first | exact EnvSub.nil _ | exact HeapSub.nil _ | refine EnvSub.cons rfl ?_ | refine HeapSub.cons rfl ?_ | (refine EnvSub.cons (by simp [Env.get]; done) ?_) | (refine HeapSub.cons (by simp [Heap.get]; done) ?_))) (by repeat' (first | exact EnvSub.nil _ | exact HeapSub.nil _ | refine EnvSub.cons rfl ?_ | refine HeapSub.cons rfl ?_ | (refine EnvSub.cons (by simp [Env.get]; done) ?_) | (refine HeapSub.cons (by simp [Heap.get]; done) ?_)))
  case round =>
    intro k hk ih
    dsimp only at ih ⊢
    refine hκ.run 300 ?_
    simp (disch := omega) only [exec_succ, runR_next, stepS, runOp, condS, toSR, sop, sInt, sBin, ev, Env.get, List.size_toArray, List.length_cons, List.length_nil, List.range, List.range.loop, List.getElem?_toArray, List.getElem?_cons_zero, ↓reduceIte, Nat.reduceLT, Nat.reduceEqDiff, Nat.zero_add, gl0]
    refine OutOK_fork (fun h => ?_) (fun h => ?_) <;> try simp only [Bool.not_true, Bool.not_false, decide_eq_true_eq, decide_eq_false_iff_not, Bool.not_eq_true', Bool.not_eq_false', Bool.and_eq_true, Bool.or_eq_false_iff, Bool.or_eq_true, Bool.and_eq_false_iff] at h
    · have hz := ih (k + 1) (by omega) (by omega)
      have g1 : (List.map (eI .i64) ts).getD k [] = eI .i64 (ts.getD k default) := getD_map _ _ _ (by omega)
      have htk := hts _ (getD_mem (show k < ts.length by omega))
      generalize ts.getD k default = t at *
      have c2 := within_ok t 0 1125899906842624
      rw [(inI_iff _ _ _).2 htk] at c2
      simp (disch := omega) only [exec_succ, runR_next, runR_need, runR_guard_tt, runR_call, stepS, runOp, guardS, toSR, sop, rOf, sLoad, sIndexAddr, elemT, obind, ev, evs, Env.get, takeN, cut, aggOf, OutOK_need, OutOK_call, undefS, undef, List.size_toArray, List.length_cons, List.length_nil, List.length_map, List.range, List.range.loop, List.getElem?_toArray, List.getElem?_cons_succ, List.getElem?_cons_zero, Option.bind_some, ↓reduceIte, Nat.reduceAdd, Nat.reduceLT, Nat.reduceEqDiff, Nat.zero_add, Int.toNat_natCast, Bool.not_true, and_self, eI, Try.sz2, Try.ag2, Try.underlying77, g1]
      (repeat (refine ⟨by first | omega | (refine ⟨?_, ?_⟩ <;> omega) | trivial | (simp; done) | decide +kernel, fun _ => ?_⟩))
      refine Does.ret hκ.hP hκ.hgl (c2) ⟨trivial, by simp [SV.bnd, SV.bndL], by first | (simp [SV.bnd, SV.bndL]; done) | assumption⟩ ?_
      refine hκ.run 300 ?_
      simp (disch := omega) only [exec_succ, runR_next, runR_stop, stepS, runOp, toSR, sop, rOf, sPick, sInt, sBin, ev, Env.get, setO, OutOK_stop, List.size_toArray, List.length_cons, List.length_nil, List.range, List.range.loop, List.getElem?_toArray, List.getElem?_cons_succ, List.getElem?_cons_zero, ↓reduceIte, Nat.reduceAdd, Nat.reduceLT, Nat.reduceEqDiff, Nat.zero_add, wrap_i64, gl0]
      refine Sat.via (fun i => i) (hz) (by intro i j; (repeat (first | omega | split))) (by repeat' (first | exact EnvVia.nil | refine EnvVia.cons (by first | trivial | decide | (simp [SV.bnd, SV.bndL]; done)) rfl ?_)) (by repeat' (first | exact HeapVia.nil | refine HeapVia.cons (by decide) (by first | trivial | (simp [Blk.bnd, SV.bnd, SV.bndL]; done) | exact bndL_mapV _ _ _ | exact LR.bnd (by rw [l2]; simp [bndE, SV.bnd, SV.bndL]) (by rw [l6]; decide)) (by first | rfl | (simp only [Blk.ren, renL_mapV]; rfl) | (rw [LR.ren (by rw [l2] <;> rfl) (by rw [l6] <;> rfl)]; rfl)) ?_)) ⟨by have := hκ.hm; (try dsimp only at this); (first | done | omega), fun i hi => by have := hκ.hm; (try dsimp only at this); (first | omega | (dsimp only; omega) | (rw [if_neg (by omega)]))⟩ ⟨by simp, rfl⟩
    · clear ih
      obtain rfl : k = ts.length := by omega
      simp (disch := omega) only [exec_succ, runR_next, runR_call, stepS, runOp, goS, toSR, sop, rOf, ev, evs, Env.get, exitTo, OutOK_call, List.size_toArray, List.length_cons, List.length_nil, List.range, List.range.loop, List.getElem?_toArray, List.getElem?_cons_succ, List.getElem?_cons_zero, ↓reduceIte, Nat.reduceAdd, Nat.reduceLT, Nat.reduceEqDiff, Nat.zero_add, Nat.add_one_ne_zero, beq_self_eq_true]
      refine Does.ret hκ.hP hκ.hgl (c1) ⟨trivial, by simp [SV.bnd, SV.bndL], by first | (simp [SV.bnd, SV.bndL]; done) | assumption⟩ ?_
      refine hκ.run 300 ?_
      simp (disch := omega) only [sBuiltin, exec_succ, runR_next, runR_fork_false, runR_stop, stepS, runOp, condS, toSR, sop, rOf, sInt, sBin, sLen, ev, Env.get, setO, OutOK_stop, List.size_toArray, List.length_cons, List.length_nil, List.length_map, List.range, List.range.loop, List.getElem?_toArray, List.getElem?_cons_succ, List.getElem?_cons_zero, ↓reduceIte, Nat.reduceAdd, Nat.reduceLT, Nat.zero_add, Nat.add_one_ne_zero, Bool.not_true, decide_true, gl0, Try.underlying76]
      refine Sat.less (Sat.loop (γ := Nat) (fun i => ([(46, I i), (45, I l.length), (44, Ps l), (5, .ptr 0 0 0 0), (0, Ps l), (1, Ts ts)], [(0, .own [U (sp / 18446744073709551616), U (sp % 18446744073709551616)] 83)], 1)) (fun i => l.length - i) (fun i => i ≤ l.length ∧ ∀ a, a < i → ∀ b, b < l.length → apP l ts sp a b = false) ?round2 0 ⟨Nat.zero_le _, fun a ha => by omega⟩) (by repeat' (first | exact EnvSub.nil _ | exact HeapSub.nil _ | refine EnvSub.cons rfl ?_ | refine HeapSub.cons rfl ?_ | (refine EnvSub.cons (by simp [Env.get]; done) ?_) | (refine HeapSub.cons (by simp [Heap.get]; done) ?_))) (by repeat' (first | exact EnvSub.nil _ | exact HeapSub.nil _ | refine EnvSub.cons rfl ?_ | refine HeapSub.cons rfl ?_ | (refine EnvSub.cons (by simp [Env.get]; done) ?_) | (refine HeapSub.cons (by simp [Heap.get]; done) ?_)))
      case round2 =>
        rintro i ⟨hi, hni⟩ ih
        dsimp only at ih ⊢
        refine hκ.run 300 ?_
        simp (disch := omega) only [exec_succ, runR_next, stepS, runOp, condS, toSR, sop, sInt, sBin, ev, Env.get, List.size_toArray, List.length_cons, List.length_nil, List.range, List.range.loop, List.getElem?_toArray, List.getElem?_cons_zero, ↓reduceIte, Nat.reduceLT, Nat.reduceEqDiff, Nat.zero_add, gl0]
        refine OutOK_fork (fun h => ?_) (fun h => ?_) <;> try simp only [Bool.not_true, Bool.not_false, decide_eq_true_eq, decide_eq_false_iff_not, Bool.not_eq_true', Bool.not_eq_false', Bool.and_eq_true, Bool.or_eq_false_iff, Bool.or_eq_true, Bool.and_eq_false_iff] at h
        · have hz := fun h => ih (i + 1) ⟨by omega, h⟩ (by omega)
          have gi : (List.map eP l).getD i [] = eP (l.getD i default) := getD_map _ _ _ (by omega)
          have ti : (List.map (eI .i64) ts).getD i [] = eI .i64 (ts.getD i default) := getD_map _ _ _ (by omega)
          have hpi := (okP_iff _).1 (hall _ (getD_mem (show i < l.length by omega)))
          have hti := hts _ (getD_mem (show i < ts.length by omega))
          simp (disch := omega) only [sBuiltin, exec_succ, runR_next, runR_need, runR_stop, stepS, runOp, toSR, sop, rOf, rNew, sAlloc, sAlloc0, sLoad, sStoreIn, sStore, sIndexAddr, sLen, elemT, obind, ev, svs, Env.get, Heap.get, Heap.set, takeN, cut, over, paste, aggOf, cellsS, one, ones, Value.oneCell', OutOK_need, OutOK_stop, undefS, undef, List.size_toArray, List.length_cons, List.length_nil, List.length_map, List.range, List.range.loop, List.getElem?_toArray, List.getElem?_cons_succ, List.getElem?_cons_zero, List.map_cons, List.map_nil, ↓reduceIte, Nat.reduceAdd, Nat.reduceLT, Nat.reduceEqDiff, Nat.zero_add, Nat.add_one_ne_zero, Int.toNat_natCast, true_and, and_self, forall_const, Try.underlying76, Try.sz80, Try.ag80, Try.ze80, Try.ar80, gi, eP]
          (repeat (refine ⟨by first | omega | (refine ⟨?_, ?_⟩ <;> omega) | trivial | (simp; done) | decide +kernel, fun _ => ?_⟩))
          refine Sat.less (Sat.loop (γ := Nat) (fun k => ([(53, I k), (52, I l.length), (51, Ps l), (12, I i), (13, .ptr 1 0 0 0), (46, I i), (45, I l.length), (44, Ps l), (5, .ptr 0 0 0 0), (0, Ps l), (1, Ts ts)], [(1, .own [I (l.getD i default).1, I (l.getD i default).2] 80), (0, .own [U (sp / 18446744073709551616), U (sp % 18446744073709551616)] 83)], 2)) (fun k => l.length - k) (fun k => k ≤ l.length ∧ ∀ b, b < k → apP l ts sp i b = false) ?round3 0 ⟨Nat.zero_le _, fun a ha => by omega⟩) (by repeat' (first | exact EnvSub.nil _ | exact HeapSub.nil _ | refine EnvSub.cons rfl ?_ | refine HeapSub.cons rfl ?_ | (refine EnvSub.cons (by simp [Env.get]; done) ?_) | (refine HeapSub.cons (by simp [Heap.get]; done) ?_))) (by repeat' (first | exact EnvSub.nil _ | exact HeapSub.nil _ | refine EnvSub.cons rfl ?_ | refine HeapSub.cons rfl ?_ | (refine EnvSub.cons (by simp [Env.get]; done) ?_) | (refine HeapSub.cons (by simp [Heap.get]; done) ?_)))
          case round3 =>
            rintro k ⟨hk2, hnk⟩ ih2
            dsimp only at ih2 ⊢
            refine hκ.run 300 ?_
            simp (disch := omega) only [exec_succ, runR_next, stepS, runOp, condS, toSR, sop, sInt, sBin, ev, Env.get, List.size_toArray, List.length_cons, List.length_nil, List.range, List.range.loop, List.getElem?_toArray, List.getElem?_cons_zero, ↓reduceIte, Nat.reduceLT, Nat.reduceEqDiff, Nat.zero_add, gl0]
            refine OutOK_fork (fun h => ?_) (fun h => ?_) <;> try simp only [Bool.not_true, Bool.not_false, decide_eq_true_eq, decide_eq_false_iff_not, Bool.not_eq_true', Bool.not_eq_false', Bool.and_eq_true, Bool.or_eq_false_iff, Bool.or_eq_true, Bool.and_eq_false_iff] at h
            · have hz2 := fun h => ih2 (k + 1) ⟨by omega, h⟩ (by omega)
              have hz2 := fun (h : apP l ts sp i k = false) => hz2 fun b hb => by
                by_cases e : b = k
                · rw [e]; exact h
                · exact hnk b (by omega)
              have gk : (List.map eP l).getD k [] = eP (l.getD k default) := getD_map _ _ _ (by omega)
              have tk : (List.map (eI .i64) ts).getD k [] = eI .i64 (ts.getD k default) := getD_map _ _ _ (by omega)
              have hpk := (okP_iff _).1 (hall _ (getD_mem (show k < l.length by omega)))
              have htk := hts _ (getD_mem (show k < ts.length by omega))
              have hy := hyes i k (by omega) (by omega)
              rw [apP] at hz2 hy
              clear ih ih2 hz hni hnk
              generalize l.getD i default = p at *
              generalize l.getD k default = q at *
              generalize ts.getD i default = s at *
              generalize ts.getD k default = t at *
              obtain ⟨p1, p2⟩ := p
              obtain ⟨q1, q2⟩ := q
              dsimp only at hpi hpk hz2 hy gi gk ⊢
              obtain ⟨P, rfl⟩ : ∃ X : Nat, p1 = (X : Int) := ⟨p1.toNat, by omega⟩
              obtain ⟨Q, rfl⟩ : ∃ X : Nat, q1 = (X : Int) := ⟨q1.toNat, by omega⟩
              obtain ⟨S, rfl⟩ : ∃ X : Nat, s = (X : Int) := ⟨s.toNat, by omega⟩
              obtain ⟨T, rfl⟩ : ∃ X : Nat, t = (X : Int) := ⟨t.toNat, by omega⟩
              rw [Int.toNat_natCast, Int.toNat_natCast, Int.toNat_natCast, Int.toNat_natCast] at hz2 hy
              have ca := wmul_ok S Q (by omega) (by omega)
              have cb := wmul_ok T P (by omega) (by omega)
              have hSQ : S * Q < 2 ^ 128 := Nat.lt_of_lt_of_le (Nat.mul_lt_mul'' (show S < 2 ^ 64 by omega) (show Q < 2 ^ 64 by omega)) (by decide)
              have hPQ : P * Q < 2 ^ 32 := Nat.lt_of_lt_of_le (Nat.mul_lt_mul'' (show P < 2 ^ 16 by omega) (show Q < 2 ^ 16 by omega)) (by decide)
              have hPQj : (P : Int) * (Q : Int) = ((P * Q : Nat) : Int) := by rw [Int.natCast_mul]
              have cs := wscale_ok sp (P * Q) 1 hsp (by omega) (by decide) (by decide)
              have hce : ceilN (sp * (P * Q)) 1 = sp * (P * Q) := by rw [ceilN, Nat.div_one, Nat.mod_one, if_neg (by decide), Nat.add_zero]
              rw [hce] at cs
              generalize sp * (P * Q) = RM at *
              generalize P * Q = PQ at *
              have sy := wsub_yes (S * Q) (T * P) hSQ
              have sn := wsub_no (S * Q) (T * P)
              generalize S * Q = A at *
              generalize T * P = B at *
              apply Sat.join (α := Unit) (nx := 5) (dfs := []) (fun _ => True) (fun _ => ([(17, .ptr 4 0 0 0), (16, .ptr 3 0 0 0), (15, .ptr 2 0 0 0), (53, I k), (52, I l.length), (51, Ps l), (12, I i), (13, .ptr 1 0 0 0), (46, I i), (45, I l.length), (44, Ps l), (5, .ptr 0 0 0 0), (0, Ps l), (1, Ts ts)], [(4, .own [U (B / 18446744073709551616), U (B % 18446744073709551616)] 83), (3, .own [U (A / 18446744073709551616), U (A % 18446744073709551616)] 83), (2, .own [I Q, I q2] 80), (1, .own [I P, I p2] 80), (0, .own [U (sp / 18446744073709551616), U (sp % 18446744073709551616)] 83)]))
              · intro hj
                have hj := hj () trivial
                simp (disch := omega) only [allQuiet, quietOp, drawS, exec_succ, runR_next, runR_need, runR_stop, stepS, runOp, toSR, sop, rOf, rNew, sAlloc, sAlloc0, sLoad, sStoreIn, sStore, sIndexAddr, elemT, obind, ev, svs, Env.get, Heap.get, Heap.set, takeN, cut, over, paste, aggOf, cellsS, one, ones, Value.oneCell', OutOK_need, OutOK_stop, Option.isNone_none, undefS, undef, Bool.and_true, Bool.and_false, List.size_toArray, List.length_cons, List.length_nil, List.length_map, List.range, List.range.loop, List.getElem?_toArray, List.getElem?_cons_succ, List.getElem?_cons_zero, List.map_cons, List.map_nil, ↓reduceIte, Nat.reduceAdd, Nat.reduceLT, Nat.reduceEqDiff, Nat.zero_add, Int.toNat_natCast, true_and, and_self, forall_const, Try.underlying76, Try.sz80, Try.ag80, Try.ze80, Try.ar80, gk, eP]
                (repeat (refine ⟨by first | omega | (refine ⟨?_, ?_⟩ <;> omega) | trivial | (simp; done) | decide +kernel, fun _ => ?_⟩))
                refine hκ.draw (.q 0 (.q 1 (.q 2 (.q 3 (.q 4 (.q 5 (.q 6 (.q 7 (.q 9 (.q 10 (.q 11 (.q 12 (.q 13 (.q 14 (.q 15 (.q 16 (.or (.m 8 [3, 6, 12, 15] (.or (.m 17 [3, 6, 12, 15] (.or (.m 18 [3, 6, 12, 15] (.l 19 [3, 6, 12, 15] (.l 20 [12, 15] (.l 21 [] (.fin))))) (.m 19 [3, 6, 12, 15] (.l 18 [3, 6, 12, 15] (.l 20 [12, 15] (.l 21 [] (.fin))))))) (.or (.m 18 [3, 6, 12, 15] (.or (.m 17 [3, 6, 12, 15] (.l 19 [3, 6, 12, 15] (.l 20 [12, 15] (.l 21 [] (.fin))))) (.m 19 [3, 6, 12, 15] (.l 17 [3, 6, 12, 15] (.l 20 [12, 15] (.l 21 [] (.fin))))))) (.m 19 [3, 6, 12, 15] (.or (.m 17 [3, 6, 12, 15] (.l 18 [3, 6, 12, 15] (.l 20 [12, 15] (.l 21 [] (.fin))))) (.m 18 [3, 6, 12, 15] (.l 17 [3, 6, 12, 15] (.l 20 [12, 15] (.l 21 [] (.fin)))))))))) (.or (.m 18 [3, 6, 12, 15] (.or (.m 8 [3, 6, 12, 15] (.or (.m 17 [3, 6, 12, 15] (.l 19 [3, 6, 12, 15] (.l 20 [12, 15] (.l 21 [] (.fin))))) (.m 19 [3, 6, 12, 15] (.l 17 [3, 6, 12, 15] (.l 20 [12, 15] (.l 21 [] (.fin))))))) (.m 19 [3, 6, 12, 15] (.l 8 [3, 6, 12, 15] (.l 17 [3, 6, 12, 15] (.l 20 [12, 15] (.l 21 [] (.fin)))))))) (.m 19 [3, 6, 12, 15] (.or (.m 8 [3, 6, 12, 15] (.or (.m 17 [3, 6, 12, 15] (.l 18 [3, 6, 12, 15] (.l 20 [12, 15] (.l 21 [] (.fin))))) (.m 18 [3, 6, 12, 15] (.l 17 [3, 6, 12, 15] (.l 20 [12, 15] (.l 21 [] (.fin))))))) (.m 18 [3, 6, 12, 15] (.l 8 [3, 6, 12, 15] (.l 17 [3, 6, 12, 15] (.l 20 [12, 15] (.l 21 [] (.fin)))))))))))))))))))))))))) [0, 1, 2, 3, 4, 5, 6, 7, 9, 10, 11, 12, 13, 14, 15, 16] (by kernel_rfl) (by kernel_rfl) rfl ?_
                simp (disch := omega) only [sop, rOf, rNew, sAlloc, sAlloc0, sLoadIn, sLoad, sConv, sFieldAddr, sIndexAddr, elemT, obind, ev, evs, svs, Env.get, Heap.get, takeN, cut, aggOf, setO, drawP_q, drawP_l, dnext, dq, dqn, dl, slotR, ag, guardP, R1Q, dstOK, loudP, again, again1, slotIs, R1OK, drawP_m, drawP_or, List.length_map, List.getElem?_toArray, List.getElem?_cons_succ, List.getElem?_cons_zero, List.map_cons, List.map_nil, ↓reduceIte, Nat.reduceAdd, Nat.reduceLT, Nat.reduceEqDiff, Nat.add_zero, Nat.add_one_ne_zero, Int.toNat_natCast, true_and, and_self, reduceCtorEq, eI, wrap_u64, gl0, Try.underlying2, Try.sz2, Try.ag2, Try.underlying3, Try.sz3, Try.ag3, Try.underlying77, Try.fd80f0, Try.underlying81, Try.ze83, Try.ar83, ti, tk]
                (repeat (refine ⟨by first | omega | (refine ⟨?_, ?_⟩ <;> omega) | trivial | (simp; done) | decide +kernel, fun _ => ?_⟩))
                repeat' (refine And.intro ?_ ?_)
                all_goals
                  refine DCall.of (Does.ret hκ.hP hκ.hgl (ca) ⟨trivial, by simp [SV.bnd, SV.bndL], by first | (simp [SV.bnd, SV.bndL]; done) | assumption⟩ ?_)
                  simp (disch := omega) only [sop, rOf, rNew, sAlloc, sAlloc0, sLoadIn, sLoad, ev, evs, svs, Env.get, Heap.get, takeN, cut, aggOf, setO, drawP_l, dnext, dl, slotR, ag, guardP, dstOK, loudP, again, again1, slotIs, R1OK, drawP_m, drawP_or, List.getElem?_toArray, List.getElem?_cons_succ, List.getElem?_cons_zero, List.map_cons, List.map_nil, ↓reduceIte, Nat.reduceAdd, Nat.reduceLT, Nat.reduceEqDiff, true_and, and_self, Try.sz2, Try.ag2, Try.sz3, Try.ag3, Try.ze83, Try.ar83]
                repeat' (refine And.intro ?_ ?_)
                all_goals
                  refine DCall.of (Does.ret hκ.hP hκ.hgl (cb) ⟨trivial, by simp [SV.bnd, SV.bndL], by first | (simp [SV.bnd, SV.bndL]; done) | assumption⟩ ?_)
                  simp (disch := omega) only [sop, rOf, rNew, sAlloc, sAlloc0, sLoadIn, sLoad, sStoreIn, sStore, ev, svs, Env.get, Heap.get, Heap.set, takeN, cut, over, paste, aggOf, cellsS, one, ones, setO, Value.oneCell', drawP_fin, drawP_l, dnext, dl, slotR, ag, guardP, dstOK, loudP, again, again1, slotIs, R1OK, undefS, undef, drawP_m, drawP_or, List.length_cons, List.length_nil, List.getElem?_toArray, List.getElem?_cons_succ, List.getElem?_cons_zero, List.map_cons, List.map_nil, ↓reduceIte, Nat.reduceAdd, Nat.reduceLT, Nat.reduceEqDiff, Nat.zero_add, true_and, and_self, forall_const, Try.sz2, Try.ag2, Try.sz3, Try.ag3, Try.sz83, Try.ze83, Try.ar83]
                repeat' (refine And.intro ?_ ?_)
                all_goals first
                  | (refine hj.less ?_ ?_ <;> (repeat' (first | exact EnvSub.nil _ | exact HeapSub.nil _ | refine EnvSub.cons rfl ?_ | refine HeapSub.cons rfl ?_)) <;> done)
                  | refine Sat.via (fun i => if i = 3 then 4 else if i = 4 then 3 else i) (hj) (by intro i j; (repeat (first | omega | split))) (by repeat' (first | exact EnvVia.nil | refine EnvVia.cons (by first | trivial | decide | (simp [SV.bnd, SV.bndL]; done)) rfl ?_)) (by repeat' (first | exact HeapVia.nil | refine HeapVia.cons (by decide) (by first | trivial | (simp [Blk.bnd, SV.bnd, SV.bndL]; done) | exact bndL_mapV _ _ _ | exact LR.bnd (by rw [l2]; simp [bndE, SV.bnd, SV.bndL]) (by rw [l6]; decide)) (by first | rfl | (simp only [Blk.ren, renL_mapV]; rfl) | (rw [LR.ren (by rw [l2] <;> rfl) (by rw [l6] <;> rfl)]; rfl)) ?_)) ⟨by have := hκ.hm; (try dsimp only at this); (first | done | omega), fun i hi => by have := hκ.hm; (try dsimp only at this); (first | omega | (dsimp only; omega) | (rw [if_neg (by omega)]))⟩ ⟨by simp, rfl⟩
              intro _ _
              by_cases hAB : A < B
              · have hz2 := hz2 (decide_eq_false (by omega))
                refine hκ.runD 300 ?_
                simp (disch := omega) only [runR_next, runR_call, stepS, runOp, toSR, sop, rOf, sLoadIn, sLoad, ev, evs, Env.get, Heap.get, takeN, cut, aggOf, OutOK_call, halt, isDraw, drawC, execD_succ, List.size_toArray, List.length_cons, List.length_nil, List.range, List.range.loop, List.getElem?_toArray, List.getElem?_cons_succ, List.getElem?_cons_zero, ↓reduceIte, Nat.reduceAdd, Nat.reduceLT, Nat.reduceEqDiff, Nat.zero_add, gl0, Try.sz83, Try.ag83]
                refine Does.ret hκ.hP hκ.hgl (sn hAB) ⟨trivial, by simp [SV.bnd, SV.bndL], by first | (simp [SV.bnd, SV.bndL]; done) | assumption⟩ ?_
                refine hκ.run 300 ?_
                simp (disch := omega) only [exec_succ, runR_next, runR_need, runR_fork_true, runR_stop, stepS, runOp, condS, goS, toSR, sop, rOf, rNew, sAlloc, sAlloc0, sStoreIn, sStore, sInt, sBin, sExtract, ev, svs, Env.get, Heap.get, Heap.set, over, paste, cellsS, one, ones, setO, exitTo, Value.oneCell', OutOK_need, OutOK_stop, undefS, undef, List.size_toArray, List.length_cons, List.length_nil, List.range, List.range.loop, List.getElem?_toArray, List.getElem?_cons_succ, List.getElem?_cons_zero, List.map_cons, List.map_nil, ↓reduceIte, Nat.reduceAdd, Nat.reduceLT, Nat.reduceEqDiff, Nat.zero_add, Int.reduceEq, Bool.not_false, decide_false, beq_self_eq_true, true_and, and_self, forall_const, wrap_i64, gl0, Try.sz83, Try.ze83, Try.ar83]
                refine Sat.via (fun i => i) (hz2) (by intro i j; (repeat (first | omega | split))) (by repeat' (first | exact EnvVia.nil | refine EnvVia.cons (by first | trivial | decide | (simp [SV.bnd, SV.bndL]; done)) rfl ?_)) (by repeat' (first | exact HeapVia.nil | refine HeapVia.cons (by decide) (by first | trivial | (simp [Blk.bnd, SV.bnd, SV.bndL]; done) | exact bndL_mapV _ _ _ | exact LR.bnd (by rw [l2]; simp [bndE, SV.bnd, SV.bndL]) (by rw [l6]; decide)) (by first | rfl | (simp only [Blk.ren, renL_mapV]; rfl) | (rw [LR.ren (by rw [l2] <;> rfl) (by rw [l6] <;> rfl)]; rfl)) ?_)) ⟨by have := hκ.hm; (try dsimp only at this); (first | done | omega), fun i hi => by have := hκ.hm; (try dsimp only at this); (first | omega | (dsimp only; omega) | (rw [if_neg (by omega)]))⟩ ⟨by simp, rfl⟩
              · skip
                refine hκ.runD 300 ?_
                simp (disch := omega) only [runR_next, runR_call, stepS, runOp, toSR, sop, rOf, sLoadIn, sLoad, ev, evs, Env.get, Heap.get, takeN, cut, aggOf, OutOK_call, halt, isDraw, drawC, execD_succ, List.size_toArray, List.length_cons, List.length_nil, List.range, List.range.loop, List.getElem?_toArray, List.getElem?_cons_succ, List.getElem?_cons_zero, ↓reduceIte, Nat.reduceAdd, Nat.reduceLT, Nat.reduceEqDiff, Nat.zero_add, gl0, Try.sz83, Try.ag83]
                refine Does.ret hκ.hP hκ.hgl (sy (by omega)) ⟨trivial, by simp [SV.bnd, SV.bndL], by first | (simp [SV.bnd, SV.bndL]; done) | assumption⟩ ?_
                refine hκ.run 300 ?_
                simp (disch := omega) only [exec_succ, runR_next, runR_need, runR_fork_false, runR_call, stepS, runOp, condS, toSR, sop, rOf, rNew, sAlloc, sAlloc0, sLoadIn, sLoad, sStoreIn, sStore, sInt, sBin, sConv, sFieldAddr, sExtract, ev, evs, svs, Env.get, Heap.get, Heap.set, takeN, cut, over, paste, aggOf, cellsS, one, ones, setO, Value.oneCell', OutOK_need, OutOK_call, undefS, undef, List.size_toArray, List.length_cons, List.length_nil, List.range, List.range.loop, List.getElem?_toArray, List.getElem?_cons_succ, List.getElem?_cons_zero, List.map_cons, List.map_nil, ↓reduceIte, Nat.reduceAdd, Nat.reduceLT, Nat.reduceEqDiff, Nat.zero_add, Nat.add_zero, Nat.add_one_ne_zero, Bool.not_true, decide_true, true_and, and_self, forall_const, wrap_u64, gl0, Try.underlying3, Try.sz3, Try.ag3, Try.fd80f0, Try.underlying81, Try.sz83, Try.ag83, Try.ze83, Try.ar83, hPQj]
                (repeat (refine ⟨by first | omega | (refine ⟨?_, ?_⟩ <;> omega) | trivial | (simp; done) | decide +kernel, fun _ => ?_⟩))
                refine Does.ret hκ.hP hκ.hgl (cs) ⟨trivial, by simp [SV.bnd, SV.bndL], by first | (simp [SV.bnd, SV.bndL]; done) | assumption⟩ ?_
                by_cases hf : RM < 2 ^ 128
                · rw [if_pos hf, if_pos hf]
                  have e3 := cmpN_gt (A - B) RM
                  by_cases hc : B + RM < A
                  · rw [hy (decide_eq_true hc)] at hκ
                    rw [eq_true (show RM < A - B by omega)] at e3
                    refine hκ.run 300 ?_
                    simp (disch := omega) only [exec_succ, runR_next, runR_need, runR_guard_tt, runR_call, stepS, runOp, guardS, toSR, sop, rOf, rNew, sAlloc, sAlloc0, sLoadIn, sLoad, sStoreIn, sStore, sInt, sBin, sExtract, ev, evs, svs, Env.get, Heap.get, Heap.set, takeN, cut, over, paste, aggOf, cellsS, one, ones, setO, Value.oneCell', OutOK_need, OutOK_call, undefS, undef, List.size_toArray, List.length_cons, List.length_nil, List.range, List.range.loop, List.getElem?_toArray, List.getElem?_cons_succ, List.getElem?_cons_zero, List.map_cons, List.map_nil, Option.bind_some, ↓reduceIte, Nat.reduceAdd, Nat.reduceLT, Nat.reduceEqDiff, Nat.zero_add, Bool.not_true, decide_true, true_and, and_self, forall_const, gl0, Try.sz83, Try.ag83, Try.ze83, Try.ar83]
                    refine Does.ret hκ.hP hκ.hgl (wcmp_ok (A - B) RM) ⟨trivial, by simp [SV.bnd, SV.bndL], by first | (simp [SV.bnd, SV.bndL]; done) | assumption⟩ ?_
                    refine hκ.run 300 ?_
                    simp (disch := omega) only [exec_succ, runR_next, runR_fork_true, runR_guard_tt, runR_stop, stepS, runOp, guardS, condS, toSR, sop, rOf, sPick, sInt, sBin, ev, Env.get, setO, OutOK_stop, undefS, undef, List.size_toArray, List.length_cons, List.length_nil, List.range, List.range.loop, List.getElem?_toArray, List.getElem?_cons_succ, List.getElem?_cons_zero, Option.bind_some, ↓reduceIte, Nat.reduceAdd, Nat.reduceLT, Nat.reduceEqDiff, Nat.zero_add, Bool.not_true, decide_true, and_self, gl0, e3]
                    refine hκ.ret _ _ _ _ _ _ trivial rfl ?_
                    exact .ret (by simp [SV.bnd, SV.bndL])
                  · have hz2 := hz2 (decide_eq_false hc)
                    rw [eq_false (show ¬ RM < A - B by omega)] at e3
                    refine hκ.run 300 ?_
                    simp (disch := omega) only [exec_succ, runR_next, runR_need, runR_guard_tt, runR_call, stepS, runOp, guardS, toSR, sop, rOf, rNew, sAlloc, sAlloc0, sLoadIn, sLoad, sStoreIn, sStore, sInt, sBin, sExtract, ev, evs, svs, Env.get, Heap.get, Heap.set, takeN, cut, over, paste, aggOf, cellsS, one, ones, setO, Value.oneCell', OutOK_need, OutOK_call, undefS, undef, List.size_toArray, List.length_cons, List.length_nil, List.range, List.range.loop, List.getElem?_toArray, List.getElem?_cons_succ, List.getElem?_cons_zero, List.map_cons, List.map_nil, Option.bind_some, ↓reduceIte, Nat.reduceAdd, Nat.reduceLT, Nat.reduceEqDiff, Nat.zero_add, Bool.not_true, decide_true, true_and, and_self, forall_const, gl0, Try.sz83, Try.ag83, Try.ze83, Try.ar83]
                    refine Does.ret hκ.hP hκ.hgl (wcmp_ok (A - B) RM) ⟨trivial, by simp [SV.bnd, SV.bndL], by first | (simp [SV.bnd, SV.bndL]; done) | assumption⟩ ?_
                    refine hκ.run 300 ?_
                    simp (disch := omega) only [exec_succ, runR_next, runR_fork_false, runR_guard_tt, runR_stop, stepS, runOp, guardS, condS, toSR, sop, rOf, sPick, sInt, sBin, ev, Env.get, setO, OutOK_stop, undefS, undef, List.size_toArray, List.length_cons, List.length_nil, List.range, List.range.loop, List.getElem?_toArray, List.getElem?_cons_succ, List.getElem?_cons_zero, Option.bind_some, ↓reduceIte, Nat.reduceAdd, Nat.reduceLT, Nat.reduceEqDiff, Nat.zero_add, Bool.not_true, decide_false, and_self, wrap_i64, gl0, e3]
                    refine Sat.via (fun i => i) (hz2) (by intro i j; (repeat (first | omega | split))) (by repeat' (first | exact EnvVia.nil | refine EnvVia.cons (by first | trivial | decide | (simp [SV.bnd, SV.bndL]; done)) rfl ?_)) (by repeat' (first | exact HeapVia.nil | refine HeapVia.cons (by decide) (by first | trivial | (simp [Blk.bnd, SV.bnd, SV.bndL]; done) | exact bndL_mapV _ _ _ | exact LR.bnd (by rw [l2]; simp [bndE, SV.bnd, SV.bndL]) (by rw [l6]; decide)) (by first | rfl | (simp only [Blk.ren, renL_mapV]; rfl) | (rw [LR.ren (by rw [l2] <;> rfl) (by rw [l6] <;> rfl)]; rfl)) ?_)) ⟨by have := hκ.hm; (try dsimp only at this); (first | done | omega), fun i hi => by have := hκ.hm; (try dsimp only at this); (first | omega | (dsimp only; omega) | (rw [if_neg (by omega)]))⟩ ⟨by simp, rfl⟩
                · rw [if_neg hf, if_neg hf]
                  have hz2 := hz2 (decide_eq_false (by omega))
                  refine hκ.run 300 ?_
                  simp (disch := omega) only [exec_succ, runR_next, runR_need, runR_fork_false, runR_guard_ft, runR_stop, stepS, runOp, guardS, condS, toSR, sop, rOf, rNew, sPick, sAlloc, sAlloc0, sLoadIn, sLoad, sStoreIn, sStore, sInt, sBin, sExtract, ev, evs, svs, Env.get, Heap.get, Heap.set, takeN, cut, over, paste, aggOf, cellsS, one, ones, setO, Value.oneCell', OutOK_need, OutOK_stop, undefS, undef, List.size_toArray, List.length_cons, List.length_nil, List.range, List.range.loop, List.getElem?_toArray, List.getElem?_cons_succ, List.getElem?_cons_zero, List.map_cons, List.map_nil, Option.bind_some, ↓reduceIte, Nat.reduceAdd, Nat.reduceLT, Nat.reduceEqDiff, Nat.zero_add, Int.reduceEq, Bool.not_true, decide_false, true_and, and_self, forall_const, wrap_i64, gl0, Try.sz83, Try.ag83, Try.ze83, Try.ar83]
                  refine Sat.via (fun i => i) (hz2) (by intro i j; (repeat (first | omega | split))) (by repeat' (first | exact EnvVia.nil | refine EnvVia.cons (by first | trivial | decide | (simp [SV.bnd, SV.bndL]; done)) rfl ?_)) (by repeat' (first | exact HeapVia.nil | refine HeapVia.cons (by decide) (by first | trivial | (simp [Blk.bnd, SV.bnd, SV.bndL]; done) | exact bndL_mapV _ _ _ | exact LR.bnd (by rw [l2]; simp [bndE, SV.bnd, SV.bndL]) (by rw [l6]; decide)) (by first | rfl | (simp only [Blk.ren, renL_mapV]; rfl) | (rw [LR.ren (by rw [l2] <;> rfl) (by rw [l6] <;> rfl)]; rfl)) ?_)) ⟨by have := hκ.hm; (try dsimp only at this); (first | done | omega), fun i hi => by have := hκ.hm; (try dsimp only at this); (first | omega | (dsimp only; omega) | (rw [if_neg (by omega)]))⟩ ⟨by simp, rfl⟩
            · simp (disch := omega) only [exec_succ, runR_next, runR_stop, stepS, runOp, goS, toSR, sop, rOf, sInt, sBin, ev, Env.get, exitTo, OutOK_stop, List.size_toArray, List.length_cons, List.length_nil, List.range, List.range.loop, List.getElem?_toArray, List.getElem?_cons_succ, List.getElem?_cons_zero, ↓reduceIte, Nat.reduceAdd, Nat.reduceLT, Nat.reduceEqDiff, Nat.zero_add, beq_self_eq_true, wrap_i64]
              obtain rfl : k = l.length := by omega
              have hz := hz fun a ha b hb => by
                by_cases e : a = i
                · rw [e]; exact hnk b hb
                · exact hni a (by omega) b hb
              refine Sat.via (fun i => i) (hz) (by intro i j; (repeat (first | omega | split))) (by repeat' (first | exact EnvVia.nil | refine EnvVia.cons (by first | trivial | decide | (simp [SV.bnd, SV.bndL]; done)) rfl ?_)) (by repeat' (first | exact HeapVia.nil | refine HeapVia.cons (by decide) (by first | trivial | (simp [Blk.bnd, SV.bnd, SV.bndL]; done) | exact bndL_mapV _ _ _ | exact LR.bnd (by rw [l2]; simp [bndE, SV.bnd, SV.bndL]) (by rw [l6]; decide)) (by first | rfl | (simp only [Blk.ren, renL_mapV]; rfl) | (rw [LR.ren (by rw [l2] <;> rfl) (by rw [l6] <;> rfl)]; rfl)) ?_)) ⟨by have := hκ.hm; (try dsimp only at this); (first | done | omega), fun i hi => by have := hκ.hm; (try dsimp only at this); (first | omega | (dsimp only; omega) | (rw [if_neg (by omega)]))⟩ ⟨by simp, rfl⟩
        · simp (disch := omega) only [exec_succ, runR_next, runR_stop, stepS, runOp, goS, toSR, sop, rOf, ev, exitTo, OutOK_stop, List.size_toArray, List.length_cons, List.length_nil, List.range, List.range.loop, List.getElem?_toArray, List.getElem?_cons_succ, List.getElem?_cons_zero, ↓reduceIte, Nat.reduceAdd, Nat.reduceLT, Nat.zero_add, beq_self_eq_true]
          obtain rfl : i = l.length := by omega
          rw [hno hni] at hκ
          refine hκ.ret _ _ _ _ _ _ trivial rfl ?_
          exact .ret (by simp [SV.bnd, SV.bndL])
end Go.Proofs.Ytbjhphjpdeblnaa.Sh
