/- The walk of the law PlaceFair. No condition. -/
import Derived.Test.YtgnkhcnpjediaaaDoorLc
import Derived.Test.YtgnkhcnpjediaaaDoorHo
import Derived.Test.YtgnkhcnpjediaaaDoorR13d
namespace Go.Proofs.YtgnkhcnpjediaaaDoor
open Go Go.Sy
set_option maxRecDepth 100000
set_option linter.unusedSimpArgs false
set_option linter.unusedVariables false

/-- Is a wish one of who was put where it is? -/
def hitW (p : Int × Int) (w : Wi) : Bool := decide (w.v = p.1) && (decide (w.a = p.2) && decide (0 ≤ w.a))
def wantOf (l : List Wi) (p : Int × Int) : List Int := (l.filter (hitW p)).map fun _ => p.1
def wantN (l : List Wi) (ps : List (Int × Int)) : List Int := ps.flatMap (wantOf l)
theorem okWs_snoc {l : List Wi} {w : Wi} (h : okWs [] (l ++ [w]) = true) : okWs [] l = true ∧ ∀ u ∈ l, ¬ u.v = w.v := by
  rw [okWs_append, Bool.and_eq_true] at h
  refine ⟨h.1, fun u hu e => ?_⟩
  have h2 := h.2
  simp only [okWs, okB, List.nil_append, Bool.and_true, Bool.and_eq_true, Bool.not_eq_true', List.any_eq_false] at h2
  have := h2.1.2 u hu
  simp [e] at this
theorem wantOf_one : ∀ (n : Nat) (l : List Wi), l.length = n → okWs [] l = true → ∀ p, wantOf l p = if isHome l p = true then [p.1] else [] := by
  intro n
  induction n with
  | zero => intro l h _ p; rw [List.eq_nil_of_length_eq_zero h]; simp [wantOf, isHome, atM]
  | succ n ih =>
    intro l h hok p
    rcases List.eq_nil_or_concat l with rfl | ⟨l', w, rfl⟩
    · simp at h
    · rw [List.concat_eq_append] at h hok ⊢
      obtain ⟨h1, h2⟩ := okWs_snoc hok
      have ih := ih l' (by simpa using h) h1 p
      have e1 : wantOf (l' ++ [w]) p = wantOf l' p ++ wantOf [w] p := by simp [wantOf, List.filter_append]
      by_cases hv : w.v = p.1
      · have e2 : wantOf l' p = [] := by
          rw [wantOf, List.map_eq_nil_iff, List.filter_eq_nil_iff]
          intro u hu
          have := h2 u hu
          simp only [hitW, Bool.and_eq_true, decide_eq_true_eq, not_and]
          intro e; exact absurd (e.trans hv.symm) this
        have e3 : isHome (l' ++ [w]) p = (decide (w.a = p.2) && decide (-1 < w.a)) := by
          rw [isHome, atM_snoc, if_pos (by rw [hv])]
        have e4 : (decide ((-1 : Int) < w.a)) = decide (0 ≤ w.a) := decide_eq_decide.2 (by omega)
        rw [e1, e2, e3, e4, List.nil_append]
        simp only [wantOf, hitW, hv, decide_true, Bool.true_and, List.filter_cons, List.filter_nil]
        split <;> rfl
      · have e2 : isHome (l' ++ [w]) p = isHome l' p := by
          rw [isHome, atM_snoc, if_neg (by simpa using fun e => hv e.symm), isHome]
        have e3 : wantOf [w] p = [] := by simp [wantOf, hitW, hv]
        rw [e1, e2, e3, List.append_nil, ih]
theorem wantN_home {l : List Wi} (h : okWs [] l = true) (ps : List (Int × Int)) : wantN l ps = homeN l ps := by
  induction ps with
  | nil => rfl
  | cons p ps ih =>
    rw [wantN, List.flatMap_cons, wantOf_one _ l rfl h p]
    rw [wantN] at ih
    rw [ih, homeN, homeN, List.filter_cons]
    split <;> rfl

theorem fair_law (l : List Wi) (free : Nat) (puts : List (Int × Int)) (hl : ∀ w ∈ l, inW w) (hp : ∀ p ∈ puts, (-9223372036854775808 ≤ p.1 ∧ p.1 ≤ 9223372036854775807) ∧ (-9223372036854775808 ≤ p.2 ∧ p.2 ≤ 9223372036854775807)) (hn : l.length < 2 ^ 62) (hn2 : puts.length < 2 ^ 62) (hf : free < 4294967296) : Law Tryd.prog gl0 7 [Ws l, S free, Ps puts] := by
  refine Law.of (nt := 132) (res := [.tmp 6]) Tryd.mixed Tryd.func7 rfl rfl rfl rfl fun κ xc hκ => hκ.run 300 ?_
  simp (disch := omega) only [exec_succ, runR_next, runR_call, stepS, runOp, toSR, sop, rOf, ev, evs, envOf, OutOK_call, List.size_toArray, List.length_cons, List.length_nil, List.range, List.range.loop, List.getElem?_toArray, List.getElem?_cons_zero, ↓reduceIte, Nat.reduceAdd, Nat.reduceLT, Nat.zero_add, gl0]
  refine Does.ret hκ.hP hκ.hgl (wakes_ok) ⟨trivial, by simp [SV.bnd, SV.bndL], by first | (simp [SV.bnd, SV.bndL]; done) | assumption⟩ ?_
  refine hκ.run 300 ?_
  simp (disch := omega) only [sBuiltin, exec_succ, runR_next, runR_fork_false, stepS, runOp, guardS, condS, toSR, sop, rOf, sInt, sBin, sUn, sLen, ev, Env.get, setO, undefS, undef, List.size_toArray, List.length_cons, List.length_nil, List.length_map, List.range, List.range.loop, List.getElem?_toArray, List.getElem?_cons_succ, List.getElem?_cons_zero, Option.bind_some, ↓reduceIte, Nat.reduceAdd, Nat.reduceLT, Nat.reduceEqDiff, Nat.zero_add, Nat.add_one_ne_zero, Bool.not_true, Bool.not_false, and_self, reduceCtorEq, gl0, Tryd.underlying22]
  by_cases h1 : l.length ≤ 60
  case neg =>
    have e1 : ((60 : Int) < l.length) = True := by simp only [eq_iff_iff, iff_true]; omega
    simp (disch := omega) only [sBuiltin, exec_succ, runR_next, runR_fork_true, runR_guard_tf, runR_stop, stepS, runOp, guardS, condS, toSR, sop, rOf, sPick, sBin, sLen, ev, Env.get, OutOK_stop, undefS, undef, List.size_toArray, List.length_cons, List.length_nil, List.range, List.range.loop, List.getElem?_toArray, List.getElem?_cons_succ, List.getElem?_cons_zero, Option.bind_some, ↓reduceIte, Nat.reduceLT, Nat.reduceEqDiff, Nat.zero_add, Bool.not_false, decide_true, and_self, e1]
    refine hκ.ret _ _ _ _ _ _ trivial rfl ?_
    rfl
  by_cases h2 : puts.length ≤ 60
  case neg =>
    have e1 : ((60 : Int) < l.length) = False := by simp only [eq_iff_iff, iff_false]; omega
    have e2 : ((60 : Int) < puts.length) = True := by simp only [eq_iff_iff, iff_true]; omega
    simp (disch := omega) only [sBuiltin, exec_succ, runR_next, runR_fork_true, runR_guard_ff, runR_stop, stepS, runOp, guardS, condS, toSR, sop, rOf, sPick, sInt, sBin, sLen, ev, Env.get, OutOK_stop, undefS, undef, List.size_toArray, List.length_cons, List.length_nil, List.length_map, List.range, List.range.loop, List.getElem?_toArray, List.getElem?_cons_succ, List.getElem?_cons_zero, Option.bind_some, ↓reduceIte, Nat.reduceLT, Nat.reduceEqDiff, Nat.zero_add, Bool.not_false, decide_true, decide_false, and_self, Tryd.underlying26, e1, e2]
    refine hκ.ret _ _ _ _ _ _ trivial rfl ?_
    rfl
  have e1 : ((60 : Int) < l.length) = False := by simp only [eq_iff_iff, iff_false]; omega
  have e2 : ((60 : Int) < puts.length) = False := by simp only [eq_iff_iff, iff_false]; omega
  simp (disch := omega) only [sBuiltin, srcS, appArgS, sAppendTo, sAppend, exec_succ, runR_next, runR_need, runR_all, runR_fork_false, runR_guard_ff, runR_call, stepS, runOp, guardS, condS, toSR, sop, rOf, rNew, sPick, sInt, sBin, sLen, sliceT, obind, fillS, evps, repeatL, sBuildSlice, chunk, ev, evs, svs, Env.get, Heap.get, Heap.drop, ones, idFrees, OutOK_need, OutOK_all, OutOK_call, undefS, undef, List.take_nil, List.size_toArray, List.length_cons, List.length_nil, List.length_map, List.range, List.range.loop, List.getElem?_toArray, List.getElem?_cons_succ, List.getElem?_cons_zero, List.map_nil, List.nil_append, Option.bind_some, ↓reduceIte, Nat.reduceAdd, Nat.reduceLT, Nat.reduceLeDiff, Nat.reduceEqDiff, Nat.zero_add, Nat.zero_mul, Nat.add_one_ne_zero, Bool.not_false, decide_false, true_and, and_self, forall_const, reduceCtorEq, Tryd.underlying22, Tryd.underlying26, Tryd.sz31, Tryd.ze31, Tryd.by31, Tryd.sz36, Tryd.ze36, Tryd.by36, e1, e2]
  (repeat (refine ⟨by first | omega | (refine ⟨?_, ?_⟩ <;> omega) | trivial | (simp; done) | decide +kernel, fun _ => ?_⟩))
  intro c0
  (repeat (refine ⟨by first | omega | (refine ⟨?_, ?_⟩ <;> omega) | trivial | (simp; done) | decide +kernel, fun _ => ?_⟩))
  intro c1
  have et : List.take l.length (List.map eW l) = List.map eW l := List.take_of_length_le (by simp)
  have et2 : List.take puts.length (List.map eP puts) = List.map eP puts := List.take_of_length_le (by simp)
  have c1 := fair_ok l free puts hl hp (by omega) (by omega) hf
  have c2 := home_ok l puts hl hp (by omega) (by omega)
  have c3 := rwright_ok l hl (by omega)
  refine Does.frz [1, 3] ⟨trivial, rfl⟩ (by first | (simp [lendPL, lendP, lendSlP, Heap.get]; done) | (simp only [lendPL, lendP, lendSlP, Heap.get, List.mem_singleton, List.mem_cons, List.not_mem_nil, or_false, or_true, true_or, Nat.reduceEqDiff, Nat.one_ne_zero, Nat.zero_ne_one, ↓reduceIte, and_true, true_and, List.length_map, List.length_append, List.length_cons, List.length_nil, List.length_replicate]; omega)) ?_
  simp only [lendL, lendS, lendSl, Heap.get, without, List.mem_singleton, List.mem_cons, List.not_mem_nil, or_false, or_true, true_or, List.drop_zero, List.take_length, List.take_succ_cons, List.take_zero, Nat.reduceAdd, Nat.reduceEqDiff, Nat.one_ne_zero, Nat.zero_ne_one, ↓reduceIte]
  rw [et, et2]
  by_cases hk : okWs [] l = true
  case neg =>
    have ha : askE l free = 230 := by rw [askE, if_neg hk]
    rw [ha, show (decide ((230 : Int) = 0)) = false from rfl, Bool.false_and] at c1
    rw [if_neg hk] at c2
    rw [Bool.not_eq_true] at hk
    rw [hk] at c3
    refine Does.ret hκ.hP hκ.hgl (c1) ⟨trivial, by simp [SV.bnd, SV.bndL], by first | (simp [SV.bnd, SV.bndL]; done) | assumption⟩ ?_
    refine hκ.run 300 ?_
    simp (disch := omega) only [sBuiltin, srcS, appArgS, sAppendTo, sAppend, exec_succ, runR_next, runR_need, runR_all, runR_call, stepS, runOp, toSR, sop, rOf, rNew, sExtract, sliceT, obind, fillS, evps, repeatL, sBuildSlice, chunk, ev, evs, svs, Env.get, Heap.get, Heap.drop, ones, idFrees, setO, OutOK_need, OutOK_all, OutOK_call, List.take_nil, List.size_toArray, List.length_cons, List.length_nil, List.length_map, List.range, List.range.loop, List.getElem?_toArray, List.getElem?_cons_succ, List.getElem?_cons_zero, List.map_nil, List.nil_append, ↓reduceIte, Nat.reduceAdd, Nat.reduceLT, Nat.reduceLeDiff, Nat.reduceEqDiff, Nat.zero_add, Nat.zero_mul, Nat.add_one_ne_zero, true_and, and_self, forall_const, reduceCtorEq, gl0, Tryd.underlying22, Tryd.underlying26, Tryd.sz31, Tryd.ze31, Tryd.by31, Tryd.sz36, Tryd.ze36, Tryd.by36]
    (repeat (refine ⟨by first | omega | (refine ⟨?_, ?_⟩ <;> omega) | trivial | (simp; done) | decide +kernel, fun _ => ?_⟩))
    intro c0
    (repeat (refine ⟨by first | omega | (refine ⟨?_, ?_⟩ <;> omega) | trivial | (simp; done) | decide +kernel, fun _ => ?_⟩))
    intro c1
    refine Does.frz [5, 7] ⟨trivial, rfl⟩ (by first | (simp [lendPL, lendP, lendSlP, Heap.get]; done) | (simp only [lendPL, lendP, lendSlP, Heap.get, List.mem_singleton, List.mem_cons, List.not_mem_nil, or_false, or_true, true_or, Nat.reduceEqDiff, Nat.one_ne_zero, Nat.zero_ne_one, ↓reduceIte, and_true, true_and, List.length_map, List.length_append, List.length_cons, List.length_nil, List.length_replicate]; omega)) ?_
    simp only [lendL, lendS, lendSl, Heap.get, without, List.mem_singleton, List.mem_cons, List.not_mem_nil, or_false, or_true, true_or, List.drop_zero, List.take_length, List.take_succ_cons, List.take_zero, Nat.reduceAdd, Nat.reduceEqDiff, Nat.one_ne_zero, Nat.zero_ne_one, ↓reduceIte]
    rw [et, et2]
    refine Does.ret hκ.hP hκ.hgl (c2) ⟨trivial, by simp [SV.bnd, SV.bndL], by first | (simp [SV.bnd, SV.bndL]; done) | assumption⟩ ?_
    refine hκ.run 300 ?_
    simp (disch := omega) only [exec_succ, runR_next, runR_call, stepS, runOp, toSR, sop, rOf, sExtract, ev, evs, Env.get, setO, OutOK_call, List.size_toArray, List.length_cons, List.length_nil, List.range, List.range.loop, List.getElem?_toArray, List.getElem?_cons_succ, List.getElem?_cons_zero, ↓reduceIte, Nat.reduceAdd, Nat.reduceLT, Nat.reduceEqDiff, Nat.zero_add, Nat.add_one_ne_zero, gl0]
    refine Does.ret hκ.hP hκ.hgl (c3) ⟨trivial, by simp [SV.bnd, SV.bndL], by first | (simp [SV.bnd, SV.bndL]; done) | assumption⟩ ?_
    refine hκ.run 300 ?_
    simp (disch := omega) only [sBuiltin, exec_succ, runR_next, runR_fork_true, runR_guard_tt, runR_stop, stepS, runOp, guardS, condS, toSR, sop, rOf, sPick, sInt, sBin, sUn, sLen, ev, Env.get, setO, OutOK_stop, undefS, undef, Int.cast_ofNat_Int, List.size_toArray, List.length_cons, List.length_nil, List.range, List.range.loop, List.getElem?_toArray, List.getElem?_cons_succ, List.getElem?_cons_zero, Option.bind_some, ↓reduceIte, Nat.reduceAdd, Nat.reduceLT, Nat.reduceEqDiff, Nat.zero_add, Bool.not_true, Bool.not_false, decide_true, and_self, gl0, Tryd.underlying39]
    refine hκ.ret _ _ _ _ _ _ trivial rfl ?_
    rfl
  rw [if_pos hk] at c2
  rw [hk] at c3
  generalize hb : (decide (askE l free = 0) && fairG free 0 l puts) = fv at c1
  have c4 := why_ok l free hl (by omega)
  generalize ha : askE l free = er at c1 c4 hb
  refine Does.ret hκ.hP hκ.hgl (c1) ⟨trivial, by simp [SV.bnd, SV.bndL], by first | (simp [SV.bnd, SV.bndL]; done) | assumption⟩ ?_
  refine hκ.run 300 ?_
  simp (disch := omega) only [sBuiltin, srcS, appArgS, sAppendTo, sAppend, exec_succ, runR_next, runR_need, runR_all, runR_call, stepS, runOp, toSR, sop, rOf, rNew, sExtract, sliceT, obind, fillS, evps, repeatL, sBuildSlice, chunk, ev, evs, svs, Env.get, Heap.get, Heap.drop, ones, idFrees, setO, OutOK_need, OutOK_all, OutOK_call, List.take_nil, List.size_toArray, List.length_cons, List.length_nil, List.length_map, List.range, List.range.loop, List.getElem?_toArray, List.getElem?_cons_succ, List.getElem?_cons_zero, List.map_nil, List.nil_append, ↓reduceIte, Nat.reduceAdd, Nat.reduceLT, Nat.reduceLeDiff, Nat.reduceEqDiff, Nat.zero_add, Nat.zero_mul, Nat.add_one_ne_zero, true_and, and_self, forall_const, reduceCtorEq, gl0, Tryd.underlying22, Tryd.underlying26, Tryd.sz31, Tryd.ze31, Tryd.by31, Tryd.sz36, Tryd.ze36, Tryd.by36]
  (repeat (refine ⟨by first | omega | (refine ⟨?_, ?_⟩ <;> omega) | trivial | (simp; done) | decide +kernel, fun _ => ?_⟩))
  intro c0
  (repeat (refine ⟨by first | omega | (refine ⟨?_, ?_⟩ <;> omega) | trivial | (simp; done) | decide +kernel, fun _ => ?_⟩))
  intro c1
  refine Does.frz [5, 7] ⟨trivial, rfl⟩ (by first | (simp [lendPL, lendP, lendSlP, Heap.get]; done) | (simp only [lendPL, lendP, lendSlP, Heap.get, List.mem_singleton, List.mem_cons, List.not_mem_nil, or_false, or_true, true_or, Nat.reduceEqDiff, Nat.one_ne_zero, Nat.zero_ne_one, ↓reduceIte, and_true, true_and, List.length_map, List.length_append, List.length_cons, List.length_nil, List.length_replicate]; omega)) ?_
  simp only [lendL, lendS, lendSl, Heap.get, without, List.mem_singleton, List.mem_cons, List.not_mem_nil, or_false, or_true, true_or, List.drop_zero, List.take_length, List.take_succ_cons, List.take_zero, Nat.reduceAdd, Nat.reduceEqDiff, Nat.one_ne_zero, Nat.zero_ne_one, ↓reduceIte]
  rw [et, et2]
  refine Does.ret hκ.hP hκ.hgl (c2) ⟨trivial, by simp [SV.bnd, SV.bndL], by first | (simp [SV.bnd, SV.bndL]; done) | assumption⟩ ?_
  refine hκ.run 300 ?_
  simp (disch := omega) only [exec_succ, runR_next, runR_call, stepS, runOp, toSR, sop, rOf, sExtract, ev, evs, Env.get, setO, OutOK_call, List.size_toArray, List.length_cons, List.length_nil, List.range, List.range.loop, List.getElem?_toArray, List.getElem?_cons_succ, List.getElem?_cons_zero, ↓reduceIte, Nat.reduceAdd, Nat.reduceLT, Nat.reduceEqDiff, Nat.zero_add, Nat.add_one_ne_zero, gl0]
  refine Does.ret hκ.hP hκ.hgl (c3) ⟨trivial, by simp [SV.bnd, SV.bndL], by first | (simp [SV.bnd, SV.bndL]; done) | assumption⟩ ?_
  refine hκ.run 300 ?_
  simp (disch := omega) only [sBuiltin, exec_succ, runR_next, runR_fork_false, runR_stop, stepS, runOp, condS, toSR, sop, rOf, sUn, sLen, ev, Env.get, setO, OutOK_stop, List.size_toArray, List.length_cons, List.length_nil, List.length_map, List.range, List.range.loop, List.getElem?_toArray, List.getElem?_cons_succ, List.getElem?_cons_zero, ↓reduceIte, Nat.reduceAdd, Nat.reduceLT, Nat.reduceEqDiff, Nat.zero_add, Bool.not_true, reduceCtorEq, gl0, Tryd.underlying26]
  refine Sat.nilRow 11 1 3 rfl ?_
  have hw := wantN_home hk puts
  refine Sat.less (Sat.loop (γ := Nat × List Int × Nat) (fun g => ([(68, I g.1), (67, I puts.length), (66, Ps puts), (11, .sl 8 1 0 g.2.1.length g.2.2), (0, Ws l), (1, S free), (2, Ps puts), (7, Bo fv), (8, I er), (9, .rd 1 ((homeN l puts).map (eI .i64))), (10, I 0)], [(8, .row 1 g.2.2 3 (g.2.1.map (eI .i64)))], 9)) (fun g => puts.length - g.1)
    (fun g => g.1 ≤ puts.length ∧ g.2.1.length ≤ 60 * g.1 ∧ g.2.1 ++ wantN l (puts.drop g.1) = wantN l puts) ?round (0, [], 0) ⟨Nat.zero_le _, Nat.le_refl _, rfl⟩) (by repeat' (first | exact EnvSub.nil _ | exact HeapSub.nil _ | refine EnvSub.cons rfl ?_ | refine HeapSub.cons rfl ?_ | (refine EnvSub.cons (by simp [Env.get]; done) ?_) | (refine HeapSub.cons (by simp [Heap.get]; done) ?_))) (by repeat' (first | exact EnvSub.nil _ | exact HeapSub.nil _ | refine EnvSub.cons rfl ?_ | refine HeapSub.cons rfl ?_ | (refine EnvSub.cons (by simp [Env.get]; done) ?_) | (refine HeapSub.cons (by simp [Heap.get]; done) ?_)))
  case round =>
    rintro ⟨k, out, cap⟩ ⟨hk2, hol, ho⟩ ih
    dsimp only at hk2 hol ho ih ⊢
    refine Sat.room 8 rfl fun hroom => ?_
    rw [List.length_map] at hroom
    refine hκ.run 300 ?_
    simp (disch := omega) only [exec_succ, runR_next, stepS, runOp, condS, toSR, sop, sInt, sBin, ev, Env.get, List.size_toArray, List.length_cons, List.length_nil, List.range, List.range.loop, List.getElem?_toArray, List.getElem?_cons_zero, ↓reduceIte, Nat.reduceLT, Nat.reduceEqDiff, Nat.zero_add, gl0]
    refine OutOK_fork (fun h => ?_) (fun h => ?_) <;> try simp only [Bool.not_true, Bool.not_false, decide_eq_true_eq, decide_eq_false_iff_not, Bool.not_eq_true', Bool.not_eq_false', Bool.and_eq_true, Bool.or_eq_false_iff, Bool.or_eq_true, Bool.and_eq_false_iff] at h
    · have hd : puts.drop k = puts.getD k default :: puts.drop (k + 1) := by
        rw [List.drop_eq_getElem_cons (by omega), List.getD, List.getElem?_eq_getElem (by omega)]; rfl
      have hz := fun out cap h1 h2 => ih (k + 1, out, cap) ⟨by dsimp only; omega, h1, h2⟩ (by dsimp only; omega)
      dsimp only at hz
      rw [hd] at ho
      simp (disch := omega) only [sBuiltin, exec_succ, runR_next, runR_need, runR_stop, stepS, runOp, toSR, sop, rOf, rNew, sAlloc, sAlloc0, sLoad, sStoreIn, sStore, sIndexAddr, sLen, elemT, obind, ev, svs, Env.get, Heap.get, Heap.set, takeN, cut, over, paste, aggOf, cellsS, one, ones, Value.oneCell', OutOK_need, OutOK_stop, undefS, undef, List.size_toArray, List.length_cons, List.length_nil, List.length_map, List.range, List.range.loop, List.getElem?_toArray, List.getElem?_cons_succ, List.getElem?_cons_zero, List.map_cons, List.map_nil, ↓reduceIte, Nat.reduceAdd, Nat.reduceLT, Nat.reduceEqDiff, Nat.zero_add, Nat.add_one_ne_zero, Int.toNat_natCast, true_and, and_self, forall_const, getD_map, Tryd.underlying22, Tryd.underlying26, Tryd.sz31, Tryd.ag31, Tryd.ze31, Tryd.ar31, eP]
      (repeat (refine ⟨by first | omega | (refine ⟨?_, ?_⟩ <;> omega) | trivial | (simp; done) | decide +kernel, fun _ => ?_⟩))
      generalize puts.getD k default = p at ho ⊢
      refine Sat.less (Sat.loop (γ := Nat × List Int × Nat) (fun g => ([(74, I g.1), (73, I l.length), (72, Ws l), (13, .ptr 9 0 0 0), (68, I k), (67, I puts.length), (66, Ps puts), (11, .sl 8 1 0 g.2.1.length g.2.2), (0, Ws l), (1, S free), (2, Ps puts), (7, Bo fv), (8, I er), (9, .rd 1 ((homeN l puts).map (eI .i64))), (10, I 0)], [(8, .row 1 g.2.2 3 (g.2.1.map (eI .i64))), (9, .own [I p.1, I p.2] 31)], 10)) (fun g => l.length - g.1)
        (fun g => g.1 ≤ l.length ∧ g.2.1.length ≤ 60 * k + g.1 ∧ g.2.1 ++ (wantOf (l.drop g.1) p ++ wantN l (puts.drop (k + 1))) = wantN l puts) ?round2 (0, out, cap) ⟨Nat.zero_le _, hol, ho⟩) (by repeat' (first | exact EnvSub.nil _ | exact HeapSub.nil _ | refine EnvSub.cons rfl ?_ | refine HeapSub.cons rfl ?_ | (refine EnvSub.cons (by simp [Env.get]; done) ?_) | (refine HeapSub.cons (by simp [Heap.get]; done) ?_))) (by repeat' (first | exact EnvSub.nil _ | exact HeapSub.nil _ | refine EnvSub.cons rfl ?_ | refine HeapSub.cons rfl ?_ | (refine EnvSub.cons (by simp [Env.get]; done) ?_) | (refine HeapSub.cons (by simp [Heap.get]; done) ?_)))
      case round2 =>
        rintro ⟨j, out, cap⟩ ⟨hj, hol2, ho2⟩ ih2
        dsimp only at hj hol2 ho2 ih2 ⊢
        refine Sat.room 8 rfl fun hroom => ?_
        rw [List.length_map] at hroom
        refine hκ.run 300 ?_
        simp (disch := omega) only [exec_succ, runR_next, stepS, runOp, condS, toSR, sop, sInt, sBin, ev, Env.get, List.size_toArray, List.length_cons, List.length_nil, List.range, List.range.loop, List.getElem?_toArray, List.getElem?_cons_zero, ↓reduceIte, Nat.reduceLT, Nat.reduceEqDiff, Nat.zero_add, gl0]
        refine OutOK_fork (fun h => ?_) (fun h => ?_) <;> try simp only [Bool.not_true, Bool.not_false, decide_eq_true_eq, decide_eq_false_iff_not, Bool.not_eq_true', Bool.not_eq_false', Bool.and_eq_true, Bool.or_eq_false_iff, Bool.or_eq_true, Bool.and_eq_false_iff] at h
        · have hd2 : l.drop j = l.getD j default :: l.drop (j + 1) := by
            rw [List.drop_eq_getElem_cons (by omega), List.getD, List.getElem?_eq_getElem (by omega)]; rfl
          have hz2 := fun out cap h1 h2 => ih2 (j + 1, out, cap) ⟨by dsimp only; omega, h1, h2⟩ (by dsimp only; omega)
          dsimp only at hz2
          rw [hd2, wantOf, List.filter_cons] at ho2
          simp (disch := omega) only [exec_succ, runR_next, runR_need, stepS, runOp, guardS, toSR, sop, rOf, rNew, sAlloc, sAlloc0, sLoadIn, sLoad, sStoreIn, sStore, sInt, sBin, sFieldAddr, sIndexAddr, elemT, obind, ev, svs, Env.get, Heap.get, Heap.set, takeN, cut, over, paste, aggOf, cellsS, one, ones, Value.oneCell', OutOK_need, undefS, undef, List.size_toArray, List.length_cons, List.length_nil, List.length_map, List.range, List.range.loop, List.getElem?_toArray, List.getElem?_cons_succ, List.getElem?_cons_zero, List.map_cons, List.map_nil, Option.bind_some, ↓reduceIte, Nat.reduceAdd, Nat.reduceLT, Nat.reduceEqDiff, Nat.zero_add, Nat.add_zero, Nat.add_one_ne_zero, Int.toNat_natCast, Bool.not_true, true_and, and_self, forall_const, getD_map, Tryd.sz3, Tryd.ag3, Tryd.underlying22, Tryd.fd31f0, Tryd.sz36, Tryd.ag36, Tryd.ze36, Tryd.ar36, Tryd.fd36f0, Tryd.fd36f1, eW]
          (repeat (refine ⟨by first | omega | (refine ⟨?_, ?_⟩ <;> omega) | trivial | (simp; done) | decide +kernel, fun _ => ?_⟩))
          generalize l.getD j default = w at ho2 ⊢
          by_cases hh : hitW p w = true
          · rw [if_pos hh] at ho2
            simp only [hitW, Bool.and_eq_true, decide_eq_true_eq] at hh
            obtain ⟨g1, g2, g3⟩ := hh
            have g1 : (w.v = p.1) = True := by simp [g1]
            have g2 : (w.a = p.2) = True := by simp [g2]
            have g3 : ((0 : Int) ≤ w.a) = True := by simp [g3]
            simp (disch := omega) only [sBuiltin, srcS, appArgS, sAppendTo, sAppend, exec_succ, runR_next, runR_need, runR_all, runR_fork_true, runR_guard_tt, runR_stop, stepS, runOp, guardS, condS, toSR, sop, rOf, rNew, sPick, isArr, sLoadIn, sLoad, sInt, sBin, sFieldAddr, sliceT, obind, fillS, evps, repeatL, sBuildSlice, chunk, ev, svs, Env.get, Heap.get, Heap.drop, takeN, cut, over, paste, aggOf, cellsS, one, ones, idFree, idFrees, Value.cells, Value.oneCell', OutOK_need, OutOK_all, OutOK_stop, undefS, undef, Bool.and_true, List.drop_zero, List.take_succ_cons, List.take_nil, List.size_toArray, List.length_cons, List.length_nil, List.length_map, List.range, List.range.loop, List.getElem?_toArray, List.getElem?_cons_succ, List.getElem?_cons_zero, List.map_cons, List.map_nil, List.append_nil, Option.bind_some, List.toList_toArray, ↓reduceIte, Nat.reduceAdd, Nat.reduceLT, Nat.reduceLeDiff, Nat.reduceEqDiff, Nat.zero_add, Nat.add_zero, Nat.mul_one, Nat.add_one_ne_zero, Bool.not_true, decide_true, ne_eq, not_false_eq_true, true_and, and_self, forall_const, wrap_i64, Tryd.sz3, Tryd.ag3, Tryd.ze3, Tryd.by3, Tryd.fd31f0, Tryd.fd31f1, Tryd.fd36f1, Tryd.underlying39, g1, g2, g3]
            (repeat (refine ⟨by first | omega | (refine ⟨?_, ?_⟩ <;> omega) | trivial | (simp; done) | decide +kernel, fun _ => ?_⟩))
            intro cap2
            have hy := hz2 (out ++ [p.1]) (out.length + 1 + cap2) (by simp; omega) (by rw [← ho2, List.map_cons, List.append_assoc]; rfl)
            have et3 : List.take out.length (List.map (eI .i64) out) = List.map (eI .i64) out := List.take_of_length_le (by simp)
            simp only [List.length_append, List.length_cons, List.length_nil, List.length_singleton, List.length_map, List.length_set, List.length_replicate, Nat.zero_add, Nat.add_zero, Int.natCast_add, Int.natCast_one, Int.ofNat_eq_natCast, List.map_append, List.map_cons, List.map_nil, List.take_length, eI, eB] at hy ⊢
            rw [et3]
            refine Sat.via (fun i => if i = 8 then 12 else i) (hy) (by intro i j; (repeat (first | omega | split))) (by repeat' (first | exact EnvVia.nil | refine EnvVia.cons (by first | trivial | decide | (simp [SV.bnd, SV.bndL]; done)) rfl ?_)) (by repeat' (first | exact HeapVia.nil | refine HeapVia.cons (by decide) (by first | trivial | (simp [Blk.bnd, SV.bnd, SV.bndL]; done) | exact bndL_mapV _ _ _ | exact LR.bnd (by rw [l2]; simp [bndE, SV.bnd, SV.bndL]) (by rw [l6]; decide)) (by first | rfl | (simp only [Blk.ren, renL_mapV]; rfl) | (rw [LR.ren (by rw [l2] <;> rfl) (by rw [l6] <;> rfl)]; rfl)) ?_)) ⟨by have := hκ.hm; (try dsimp only at this); (first | done | omega), fun i hi => by have := hκ.hm; (try dsimp only at this); (first | omega | (dsimp only; omega) | (rw [if_neg (by omega)]))⟩ ⟨by simp, rfl⟩
          · rw [if_neg hh] at ho2
            have hy := hz2 out cap (by omega) ho2
            by_cases g1 : w.v = p.1
            · by_cases g2 : w.a = p.2
              · have g3 : ((0 : Int) ≤ w.a) = False := by
                  simp only [hitW, g1, g2, decide_true, Bool.true_and, decide_eq_true_eq] at hh
                  simp only [eq_iff_iff, iff_false]; omega
                have g1 : (w.v = p.1) = True := by simp [g1]
                have g2 : (w.a = p.2) = True := by simp [g2]
                simp (disch := omega) only [exec_succ, runR_next, runR_fork_false, runR_guard_tt, runR_stop, stepS, runOp, guardS, condS, toSR, sop, rOf, sPick, sLoadIn, sLoad, sInt, sBin, sFieldAddr, ev, Env.get, Heap.get, takeN, cut, aggOf, OutOK_stop, undefS, undef, List.size_toArray, List.length_cons, List.length_nil, List.range, List.range.loop, List.getElem?_toArray, List.getElem?_cons_succ, List.getElem?_cons_zero, Option.bind_some, ↓reduceIte, Nat.reduceAdd, Nat.reduceLT, Nat.reduceEqDiff, Nat.zero_add, Nat.add_one_ne_zero, Bool.not_true, decide_true, decide_false, and_self, wrap_i64, Tryd.sz3, Tryd.ag3, Tryd.fd31f1, Tryd.fd36f1, g1, g2, g3]
                refine Sat.via (fun i => i) (hy) (by intro i j; (repeat (first | omega | split))) (by repeat' (first | exact EnvVia.nil | refine EnvVia.cons (by first | trivial | decide | (simp [SV.bnd, SV.bndL]; done)) rfl ?_)) (by repeat' (first | exact HeapVia.nil | refine HeapVia.cons (by decide) (by first | trivial | (simp [Blk.bnd, SV.bnd, SV.bndL]; done) | exact bndL_mapV _ _ _ | exact LR.bnd (by rw [l2]; simp [bndE, SV.bnd, SV.bndL]) (by rw [l6]; decide)) (by first | rfl | (simp only [Blk.ren, renL_mapV]; rfl) | (rw [LR.ren (by rw [l2] <;> rfl) (by rw [l6] <;> rfl)]; rfl)) ?_)) ⟨by have := hκ.hm; (try dsimp only at this); (first | done | omega), fun i hi => by have := hκ.hm; (try dsimp only at this); (first | omega | (dsimp only; omega) | (rw [if_neg (by omega)]))⟩ ⟨by simp, rfl⟩
              · have g1 : (w.v = p.1) = True := by simp [g1]
                have g2 : (w.a = p.2) = False := by simp [g2]
                simp (disch := omega) only [exec_succ, runR_next, runR_fork_false, runR_guard_tt, runR_guard_ft, runR_stop, stepS, runOp, guardS, condS, toSR, sop, rOf, sPick, sLoadIn, sLoad, sInt, sBin, sFieldAddr, ev, Env.get, Heap.get, takeN, cut, aggOf, OutOK_stop, undefS, undef, List.size_toArray, List.length_cons, List.length_nil, List.range, List.range.loop, List.getElem?_toArray, List.getElem?_cons_succ, List.getElem?_cons_zero, Option.bind_some, ↓reduceIte, Nat.reduceAdd, Nat.reduceLT, Nat.reduceEqDiff, Nat.zero_add, Nat.add_one_ne_zero, Bool.not_true, decide_true, decide_false, and_self, wrap_i64, Tryd.sz3, Tryd.ag3, Tryd.fd31f1, Tryd.fd36f1, g1, g2]
                refine Sat.via (fun i => i) (hy) (by intro i j; (repeat (first | omega | split))) (by repeat' (first | exact EnvVia.nil | refine EnvVia.cons (by first | trivial | decide | (simp [SV.bnd, SV.bndL]; done)) rfl ?_)) (by repeat' (first | exact HeapVia.nil | refine HeapVia.cons (by decide) (by first | trivial | (simp [Blk.bnd, SV.bnd, SV.bndL]; done) | exact bndL_mapV _ _ _ | exact LR.bnd (by rw [l2]; simp [bndE, SV.bnd, SV.bndL]) (by rw [l6]; decide)) (by first | rfl | (simp only [Blk.ren, renL_mapV]; rfl) | (rw [LR.ren (by rw [l2] <;> rfl) (by rw [l6] <;> rfl)]; rfl)) ?_)) ⟨by have := hκ.hm; (try dsimp only at this); (first | done | omega), fun i hi => by have := hκ.hm; (try dsimp only at this); (first | omega | (dsimp only; omega) | (rw [if_neg (by omega)]))⟩ ⟨by simp, rfl⟩
            · have g1 : (w.v = p.1) = False := by simp [g1]
              simp (disch := omega) only [exec_succ, runR_next, runR_fork_false, runR_guard_ft, runR_stop, stepS, runOp, guardS, condS, toSR, sop, rOf, sPick, sLoad, sInt, sEq, sEqR, sBin, sFieldAddr, ev, Env.get, OutOK_stop, undefS, undef, List.size_toArray, List.length_cons, List.length_nil, List.range, List.range.loop, List.getElem?_toArray, List.getElem?_cons_succ, List.getElem?_cons_zero, Option.bind_some, ↓reduceIte, Nat.reduceAdd, Nat.reduceLT, Nat.reduceEqDiff, Nat.zero_add, Nat.add_one_ne_zero, Bool.not_true, decide_false, and_self, wrap_i64, Tryd.fd31f1, Tryd.fd36f1, g1]
              refine Sat.via (fun i => i) (hy) (by intro i j; (repeat (first | omega | split))) (by repeat' (first | exact EnvVia.nil | refine EnvVia.cons (by first | trivial | decide | (simp [SV.bnd, SV.bndL]; done)) rfl ?_)) (by repeat' (first | exact HeapVia.nil | refine HeapVia.cons (by decide) (by first | trivial | (simp [Blk.bnd, SV.bnd, SV.bndL]; done) | exact bndL_mapV _ _ _ | exact LR.bnd (by rw [l2]; simp [bndE, SV.bnd, SV.bndL]) (by rw [l6]; decide)) (by first | rfl | (simp only [Blk.ren, renL_mapV]; rfl) | (rw [LR.ren (by rw [l2] <;> rfl) (by rw [l6] <;> rfl)]; rfl)) ?_)) ⟨by have := hκ.hm; (try dsimp only at this); (first | done | omega), fun i hi => by have := hκ.hm; (try dsimp only at this); (first | omega | (dsimp only; omega) | (rw [if_neg (by omega)]))⟩ ⟨by simp, rfl⟩
        · obtain rfl : j = l.length := by omega
          rw [List.drop_length, wantOf, List.filter_nil, List.map_nil, List.nil_append] at ho2
          have hy := hz out cap (by omega) ho2
          simp (disch := omega) only [exec_succ, runR_next, runR_stop, stepS, runOp, goS, toSR, sop, rOf, sInt, sBin, ev, Env.get, exitTo, OutOK_stop, List.size_toArray, List.length_cons, List.length_nil, List.range, List.range.loop, List.getElem?_toArray, List.getElem?_cons_succ, List.getElem?_cons_zero, ↓reduceIte, Nat.reduceAdd, Nat.reduceLT, Nat.reduceEqDiff, Nat.zero_add, beq_self_eq_true, wrap_i64]
          refine Sat.via (fun i => i) (hy) (by intro i j; (repeat (first | omega | split))) (by repeat' (first | exact EnvVia.nil | refine EnvVia.cons (by first | trivial | decide | (simp [SV.bnd, SV.bndL]; done)) rfl ?_)) (by repeat' (first | exact HeapVia.nil | refine HeapVia.cons (by decide) (by first | trivial | (simp [Blk.bnd, SV.bnd, SV.bndL]; done) | exact bndL_mapV _ _ _ | exact LR.bnd (by rw [l2]; simp [bndE, SV.bnd, SV.bndL]) (by rw [l6]; decide)) (by first | rfl | (simp only [Blk.ren, renL_mapV]; rfl) | (rw [LR.ren (by rw [l2] <;> rfl) (by rw [l6] <;> rfl)]; rfl)) ?_)) ⟨by have := hκ.hm; (try dsimp only at this); (first | done | omega), fun i hi => by have := hκ.hm; (try dsimp only at this); (first | omega | (dsimp only; omega) | (rw [if_neg (by omega)]))⟩ ⟨by simp, rfl⟩
    · obtain rfl : k = puts.length := by omega
      rw [List.drop_length, wantN, List.flatMap_nil, List.append_nil, hw] at ho
      subst ho
      simp (disch := omega) only [exec_succ, runR_next, runR_guard_ff, runR_call, stepS, runOp, guardS, goS, toSR, sop, rOf, sInt, sBin, ev, evs, Env.get, exitTo, OutOK_call, undefS, undef, List.size_toArray, List.length_cons, List.length_nil, List.range, List.range.loop, List.getElem?_toArray, List.getElem?_cons_succ, List.getElem?_cons_zero, Option.bind_some, ↓reduceIte, Nat.reduceAdd, Nat.reduceLT, Nat.reduceEqDiff, Nat.zero_add, Bool.not_true, Bool.not_false, decide_true, beq_self_eq_true, and_self, reduceCtorEq]
      have et3 : List.take (homeN l puts).length (List.map (eI .i64) (homeN l puts)) = List.map (eI .i64) (homeN l puts) := List.take_of_length_le (by simp)
      refine Does.frz [8] ⟨trivial, rfl⟩ (by first | (simp [lendPL, lendP, lendSlP, Heap.get]; done) | (simp only [lendPL, lendP, lendSlP, Heap.get, List.mem_singleton, List.mem_cons, List.not_mem_nil, or_false, or_true, true_or, Nat.reduceEqDiff, Nat.one_ne_zero, Nat.zero_ne_one, ↓reduceIte, and_true, true_and, List.length_map, List.length_append, List.length_cons, List.length_nil, List.length_replicate]; omega)) ?_
      simp only [lendL, lendS, lendSl, Heap.get, without, List.mem_singleton, List.mem_cons, List.not_mem_nil, or_false, or_true, true_or, List.drop_zero, List.take_length, List.take_succ_cons, List.take_zero, Nat.reduceAdd, Nat.reduceEqDiff, Nat.one_ne_zero, Nat.zero_ne_one, ↓reduceIte]
      rw [et3]
      refine Does.ret hκ.hP hκ.hgl (sameInts_ok (homeN l puts) (homeN l puts) (by omega)) ⟨trivial, by simp [SV.bnd, SV.bndL], by first | (simp [SV.bnd, SV.bndL]; done) | assumption⟩ ?_
      simp only [decide_true]
      refine hκ.run 300 ?_
      simp (disch := omega) only [exec_succ, runR_next, runR_fork_false, runR_guard_ff, runR_call, stepS, runOp, guardS, condS, toSR, sop, rOf, sPick, sUn, ev, evs, Env.get, setO, OutOK_call, undefS, undef, List.size_toArray, List.length_cons, List.length_nil, List.range, List.range.loop, List.getElem?_toArray, List.getElem?_cons_succ, List.getElem?_cons_zero, Option.bind_some, ↓reduceIte, Nat.reduceAdd, Nat.reduceLT, Nat.reduceEqDiff, Nat.zero_add, Nat.add_one_ne_zero, Bool.not_true, Bool.not_false, and_self, reduceCtorEq, gl0]
      refine Does.ret hκ.hP hκ.hgl (c4) ⟨trivial, by simp [SV.bnd, SV.bndL], by first | (simp [SV.bnd, SV.bndL]; done) | assumption⟩ ?_
      by_cases he : er = 0
      · obtain ⟨-, hf2⟩ := askE_zero.1 (ha.trans he)
        rw [he, show (decide ((0 : Int) = 0)) = true from rfl, Bool.true_and] at hb
        subst hb
        rw [he]
        refine hκ.run 300 ?_
        simp (disch := omega) only [exec_succ, runR_next, runR_fork_false, runR_guard_tt, runR_call, stepS, runOp, guardS, condS, toSR, sop, rOf, sInt, sBin, ev, evs, Env.get, setO, OutOK_call, undefS, undef, List.size_toArray, List.length_cons, List.length_nil, List.range, List.range.loop, List.getElem?_toArray, List.getElem?_cons_succ, List.getElem?_cons_zero, Option.bind_some, ↓reduceIte, Nat.reduceAdd, Nat.reduceLT, Nat.reduceEqDiff, Nat.zero_add, Nat.add_one_ne_zero, Bool.not_true, decide_true, and_self, reduceCtorEq, gl0]
        refine Does.ret hκ.hP hκ.hgl (rfair_ok l free puts hl hk (by omega) (by omega) hf2) ⟨trivial, by simp [SV.bnd, SV.bndL], by first | (simp [SV.bnd, SV.bndL]; done) | assumption⟩ ?_
        refine hκ.run 300 ?_
        simp (disch := omega) only [exec_succ, runR_next, runR_need, runR_guard_tt, runR_stop, stepS, runOp, guardS, toSR, sop, rOf, sPick, sEq, sEqR, sBin, ev, Env.get, setO, OutOK_need, OutOK_stop, undefS, undef, Bool.false_eq_true, List.getElem?_toArray, List.getElem?_cons_succ, List.getElem?_cons_zero, Option.bind_some, ↓reduceIte, Nat.reduceLT, Nat.reduceEqDiff, Bool.not_true, beq_self_eq_true, true_and, and_self, forall_const, gl0, Tryd.underlying4]
        refine hκ.ret _ _ _ _ _ _ trivial rfl ?_
        rfl
      · rw [decide_eq_false he, Bool.false_and] at hb
        subst hb
        have he' : (er = 0) = False := by simp [he]
        refine hκ.run 300 ?_
        simp (disch := omega) only [exec_succ, runR_next, runR_fork_true, runR_guard_tt, runR_stop, stepS, runOp, guardS, condS, toSR, sop, rOf, sPick, sInt, sBin, sUn, ev, Env.get, setO, OutOK_stop, undefS, undef, List.size_toArray, List.length_cons, List.length_nil, List.range, List.range.loop, List.getElem?_toArray, List.getElem?_cons_succ, List.getElem?_cons_zero, Option.bind_some, ↓reduceIte, Nat.reduceAdd, Nat.reduceLT, Nat.reduceEqDiff, Nat.zero_add, Bool.not_true, Bool.not_false, decide_true, decide_false, and_self, reduceCtorEq, gl0, he']
        refine hκ.ret _ _ _ _ _ _ trivial rfl ?_
        rfl
end Go.Proofs.YtgnkhcnpjediaaaDoor
