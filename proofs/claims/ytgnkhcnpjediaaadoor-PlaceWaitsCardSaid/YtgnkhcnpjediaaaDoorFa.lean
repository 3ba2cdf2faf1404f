/- place.Fair: are placements fair? No condition. -/
import Derived.Test.YtgnkhcnpjediaaaDoorPx
import Derived.Test.YtgnkhcnpjediaaaDoorCl
namespace Go.Proofs.YtgnkhcnpjediaaaDoor
open Go Go.Sy
set_option maxRecDepth 100000
set_option linter.unusedSimpArgs false
set_option linter.unusedVariables false

/-- Are placements fair to a row, behind such that have taken these? -/
def fairG (free : Nat) : Nat → List Wi → List (Int × Int) → Bool
  | _, [], left => left.isEmpty
  | ahead, w :: l, [] => decide (dif (alw w.m free) ahead = 0) && fairG free ahead l []
  | ahead, w :: l, p :: left => if p.1 = w.v then (hasB (alw w.m free) p.2 && !ahead.testBit p.2.toNat) && fairG free (ahead ||| 2 ^ p.2.toNat) l left
      else decide (dif (alw w.m free) ahead = 0) && fairG free ahead l (p :: left)
theorem or_bit (a c i : Nat) : (a ||| 2 ^ c).testBit i = (a.testBit i || decide (c = i)) := by rw [Nat.testBit_or, Nat.testBit_two_pow]
theorem sub_bits {a b : Nat} (ha : a < 256) : dif a b = 0 ↔ ∀ c ∈ bits a, b.testBit c.toNat = true := by
  rw [dif_zero]
  constructor
  · intro h c hc
    have := mem_bits.1 hc
    simp only [hasB, Bool.and_eq_true] at this
    exact h _ this.2
  · intro h i hi
    by_cases hi8 : i < 8
    · have := h (i : Int) (mem_bits.2 (by rw [hasB_nat hi8]; exact hi))
      simpa using this
    · rw [Nat.testBit_lt_two_pow (Nat.lt_of_lt_of_le ha (show 2 ^ 8 ≤ 2 ^ i from Nat.pow_le_pow_right (by decide) (by omega)))] at hi
      cases hi
/-- Marks that say what is in a set. -/
def marksS (s : Nat) (t : List Bool) : Prop := t.length = 8 ∧ ∀ i : Nat, i < 8 → t.getD i false = s.testBit i
theorem marksS_none : marksS 0 (List.replicate 8 false) := ⟨rfl, fun i hi => by rw [List.getD, List.getElem?_replicate, if_pos hi, Nat.zero_testBit]; rfl⟩
theorem marksS_set {s : Nat} {t : List Bool} {c : Nat} (h : marksS s t) : marksS (s ||| 2 ^ c) (t.set c true) := by
  refine ⟨by simp [h.1], fun k hk => ?_⟩
  have := h.2 k hk
  rw [or_bit]
  simp only [List.getD] at this ⊢
  rw [List.getElem?_set]
  by_cases e : c = k
  · subst e
    rw [if_pos rfl, if_pos (by rw [h.1]; exact hk)]; simp
  · rw [if_neg e, this]; simp [e]

theorem fair_ok (l : List Wi) (free : Nat) (puts : List (Int × Int)) (hl : ∀ w ∈ l, inW w) (hp : ∀ p ∈ puts, (-9223372036854775808 ≤ p.1 ∧ p.1 ≤ 9223372036854775807) ∧ (-9223372036854775808 ≤ p.2 ∧ p.2 ≤ 9223372036854775807)) (hn : l.length < 2 ^ 40) (hn2 : puts.length < 2 ^ 40) (hf : free < 4294967296) :
    Con Tryd.prog gl0 (fnv 23) [Ws l, S free, Ps puts] 0 [] (Ret (.tup [Bo (decide (askE l free = 0) && fairG free 0 l puts), I (askE l free)])) := by
  refine Con.of Tryd.ok23 (nt := 68) (res := [.tmp 6, .tmp 7]) Tryd.mixed Tryd.func23 rfl rfl rfl rfl fun κ xc hκ => hκ.run 300 ?_
  simp (disch := omega) only [exec_succ, runR_next, runR_call, stepS, runOp, toSR, sop, rOf, rNew, sBox, isArr, sLoadIn, sLoad, ev, evs, svs, Env.get, Heap.get, takeN, cut, aggOf, cellsS, envOf, Value.cells, OutOK_call, Bool.false_eq_true, List.size_toArray, List.length_cons, List.length_nil, List.range, List.range.loop, List.getElem?_toArray, List.getElem?_cons_succ, List.getElem?_cons_zero, List.map_cons, List.map_nil, List.toList_toArray, ↓reduceIte, Nat.reduceAdd, Nat.reduceLT, Nat.reduceEqDiff, Nat.zero_add, Nat.add_one_ne_zero, reduceCtorEq, gl0, Tryd.sz24, Tryd.ag24]
  refine Does.ret hκ.hP hκ.hgl (asked_ok l free hl hn hf) ⟨trivial, by simp [SV.bnd, SV.bndL], by first | (simp [SV.bnd, SV.bndL]; done) | assumption⟩ ?_
  refine hκ.run 300 ?_
  simp (disch := omega) only [exec_succ, runR_next, stepS, runOp, condS, toSR, sop, rOf, sInt, sBin, ev, Env.get, setO, List.size_toArray, List.length_cons, List.length_nil, List.range, List.range.loop, List.getElem?_toArray, List.getElem?_cons_succ, List.getElem?_cons_zero, ↓reduceIte, Nat.reduceAdd, Nat.reduceLT, Nat.zero_add, gl0]
  refine OutOK_fork (fun h => ?_) (fun h => ?_) <;> try simp only [Bool.not_true, Bool.not_false, decide_eq_true_eq, decide_eq_false_iff_not, Bool.not_eq_true', Bool.not_eq_false', Bool.and_eq_true, Bool.or_eq_false_iff, Bool.or_eq_true, Bool.and_eq_false_iff] at h
  · simp (disch := omega) only [exec_succ, runR_next, runR_stop, stepS, runOp, toSR, sop, rOf, ev, Env.get, OutOK_stop, List.size_toArray, List.length_cons, List.length_nil, List.range, List.range.loop, List.getElem?_toArray, List.getElem?_cons_succ, List.getElem?_cons_zero, ↓reduceIte, Nat.reduceAdd, Nat.reduceLT, Nat.reduceEqDiff, Nat.zero_add]
    refine hκ.ret _ _ _ _ _ _ trivial rfl ?_
    rw [decide_eq_false h, Bool.false_and]
    exact .ret (by simp [SV.bnd, SV.bndL])
  simp (disch := omega) only [sBuiltin, exec_succ, runR_next, runR_stop, stepS, runOp, toSR, sop, rOf, rNew, sAlloc, sAlloc0, sMakeFunc, sLen, ev, evs, svs, Env.get, OutOK_stop, List.size_toArray, List.length_cons, List.length_nil, List.length_map, List.range, List.range.loop, List.getElem?_toArray, List.getElem?_cons_succ, List.getElem?_cons_zero, List.map_cons, List.map_nil, ↓reduceIte, Nat.reduceAdd, Nat.reduceLT, Nat.reduceEqDiff, Nat.zero_add, Nat.add_one_ne_zero, reduceCtorEq, Tryd.underlying22, Tryd.ze66, Tryd.ar66]
  have hfree := (askE_zero.1 h).2
  rw [h] at hκ
  simp only [decide_true, Bool.true_and] at hκ
  refine Sat.less (Sat.loop (γ := Nat × List (Int × Int) × Nat × List Bool) (fun g => ([(25, I g.1), (24, I l.length), (23, Ws l), (10, Ps g.2.1), (11, .fn (.func 37) [] [.ptr 0 0 0 0, .ptr 1 0 0 0]), (9, .ptr 1 0 0 0), (4, .ptr 0 0 0 0)], [(0, .own [S free] 24), (1, .own (g.2.2.2.map fun b => .v (.bool b)) 66)], 2)) (fun g => l.length - g.1)
    (fun g => g.1 ≤ l.length ∧ fairG free g.2.2.1 (l.drop g.1) g.2.1 = fairG free 0 l puts ∧ (∀ p ∈ g.2.1, p ∈ puts) ∧ g.2.1.length ≤ puts.length ∧ marksS g.2.2.1 g.2.2.2) ?round (0, puts, 0, List.replicate 8 false) ⟨Nat.zero_le _, rfl, fun p h => h, Nat.le_refl _, marksS_none⟩) (by repeat' (first | exact EnvSub.nil _ | exact HeapSub.nil _ | refine EnvSub.cons rfl ?_ | refine HeapSub.cons rfl ?_ | (refine EnvSub.cons (by simp [Env.get]; done) ?_) | (refine HeapSub.cons (by simp [Heap.get]; done) ?_))) (by repeat' (first | exact EnvSub.nil _ | exact HeapSub.nil _ | refine EnvSub.cons rfl ?_ | refine HeapSub.cons rfl ?_ | (refine EnvSub.cons (by simp [Env.get]; done) ?_) | (refine HeapSub.cons (by simp [Heap.get]; done) ?_)))
  case round =>
    rintro ⟨k, left, ahead, tk⟩ ⟨hk, hfair, hsub, hll, hmk⟩ ih
    dsimp only at hk hfair hsub hll hmk ih ⊢
    refine hκ.run 300 ?_
    simp (disch := omega) only [exec_succ, runR_next, stepS, runOp, condS, toSR, sop, sInt, sBin, ev, Env.get, List.size_toArray, List.length_cons, List.length_nil, List.range, List.range.loop, List.getElem?_toArray, List.getElem?_cons_zero, ↓reduceIte, Nat.reduceLT, Nat.reduceEqDiff, Nat.zero_add, gl0]
    refine OutOK_fork (fun h => ?_) (fun h => ?_) <;> try simp only [Bool.not_true, Bool.not_false, decide_eq_true_eq, decide_eq_false_iff_not, Bool.not_eq_true', Bool.not_eq_false', Bool.and_eq_true, Bool.or_eq_false_iff, Bool.or_eq_true, Bool.and_eq_false_iff] at h
    · have hm : l.getD k default ∈ l := by
        rw [List.getD, List.getElem?_eq_getElem (by omega)]; exact List.getElem_mem _
      have hd : l.drop k = l.getD k default :: l.drop (k + 1) := by
        rw [List.drop_eq_getElem_cons (by omega), List.getD, List.getElem?_eq_getElem (by omega)]; rfl
      obtain ⟨⟨v1, v2⟩, ⟨a1, a2⟩, m1⟩ := hl _ hm
      have hz := fun left ahead tk h1 h2 h3 h4 => ih (k + 1, left, ahead, tk) ⟨by dsimp only; omega, h1, h2, h3, h4⟩ (by dsimp only; omega)
      dsimp only at hz
      rw [hd] at hfair
      have l8 := hmk.1
      have halw := alw_lt (l.getD k default).m free
      simp (disch := omega) only [allQuiet, quietOp, drawS, exec_succ, runR_next, runR_need, runR_stop, stepS, runOp, toSR, sop, rOf, rNew, sAlloc, sAlloc0, sLoad, sStoreIn, sStore, sIndexAddr, elemT, obind, ev, svs, Env.get, Heap.get, Heap.set, takeN, cut, over, paste, aggOf, cellsS, one, ones, Value.oneCell', OutOK_need, OutOK_stop, Option.isNone_none, Option.isNone_some, undefS, undef, Bool.and_true, Bool.and_false, List.size_toArray, List.length_cons, List.length_nil, List.length_map, List.range, List.range.loop, List.getElem?_toArray, List.getElem?_cons_succ, List.getElem?_cons_zero, List.map_cons, List.map_nil, ↓reduceIte, Nat.reduceAdd, Nat.reduceLT, Nat.reduceEqDiff, Nat.zero_add, Int.toNat_natCast, true_and, and_self, forall_const, getD_map, Tryd.underlying22, Tryd.sz36, Tryd.ag36, Tryd.ze36, Tryd.ar36, eW]
      (repeat (refine ⟨by first | omega | (refine ⟨?_, ?_⟩ <;> omega) | trivial | (simp; done) | decide +kernel, fun _ => ?_⟩))
      generalize l.getD k default = w at v1 v2 a1 a2 m1 hfair hz halw ⊢
      rcases left with _ | ⟨p, left⟩
      · rw [fairG] at hfair
        refine hκ.draw (.q 0 (.q 1 (.q 2 (.q 3 (.q 4 (.q 5 (.q 6 (.q 7 (.q 8 (.q 9 (.q 10 (.q 11 (.fin))))))))))))) [0, 1, 2, 3, 4, 5, 6, 7, 8, 9, 10, 11] (by kernel_rfl) (by kernel_rfl) rfl ?_
        simp (disch := omega) only [sBuiltin, sop, rOf, sPick, sInt, sBin, sLen, ev, Env.get, setO, drawP_fin, drawP_q, dq, dqn, GF.tf, guardP, R1Q, dstOK, undefS, undef, Int.cast_ofNat_Int, List.length_nil, List.getElem?_toArray, List.getElem?_cons_succ, List.getElem?_cons_zero, List.map_nil, Option.bind_some, ↓reduceIte, Nat.reduceLT, Nat.reduceEqDiff, decide_true, true_and, gl0, Tryd.underlying26]
        refine hκ.run 300 ?_
        simp (disch := omega) only [exec_succ, runR_next, runR_fork_true, runR_call, stepS, runOp, condS, toSR, sop, rOf, sLoadIn, sLoad, ev, evs, Env.get, Heap.get, takeN, cut, aggOf, OutOK_call, List.size_toArray, List.length_cons, List.length_nil, List.range, List.range.loop, List.getElem?_toArray, List.getElem?_cons_succ, List.getElem?_cons_zero, ↓reduceIte, Nat.reduceAdd, Nat.reduceLT, Nat.reduceEqDiff, Nat.zero_add, gl0, Tryd.sz36, Tryd.ag36]
        refine Does.inlc hκ.hP hκ.hgl Tryd.ok37 (nt := 22) (res := [.tmp 4]) Tryd.mixed Tryd.func37 rfl rfl rfl rfl fun κ_h5 x_h5 h5 => h5.run 300 ?_
        simp (disch := omega) only [exec_succ, runR_next, runR_call, stepS, runOp, toSR, sop, rOf, rNew, sBox, isArr, sLoadIn, sLoad, sFieldAddr, ev, evs, Env.get, Heap.get, takeN, cut, aggOf, cellsS, envOf, OutOK_call, Bool.false_eq_true, List.size_toArray, List.length_cons, List.length_nil, List.range, List.range.loop, List.getElem?_toArray, List.getElem?_cons_succ, List.getElem?_cons_zero, List.cons_append, List.nil_append, ↓reduceIte, Nat.reduceAdd, Nat.reduceLT, Nat.reduceEqDiff, Nat.zero_add, Nat.add_one_ne_zero, reduceCtorEq, gl0, Tryd.sz24, Tryd.ag24, Tryd.sz34, Tryd.ag34, Tryd.fd36f2]
        refine Does.ret h5.hP h5.hgl (allows_ok w.m free m1 hf) ⟨trivial, by simp [SV.bnd, SV.bndL], by first | (simp [SV.bnd, SV.bndL]; done) | assumption⟩ ?_
        refine h5.run 300 ?_
        simp (disch := omega) only [exec_succ, runR_call, stepS, runOp, ev, evs, Env.get, setO, OutOK_call, List.getElem?_toArray, List.getElem?_cons_succ, List.getElem?_cons_zero, ↓reduceIte, Nat.reduceLT, gl0]
        refine Does.ret h5.hP h5.hgl ((list_ok (alw w.m free) (by omega)).toRd) ⟨trivial, by simp [SV.bnd, SV.bndL], by first | (simp [SV.bnd, SV.bndL]; done) | assumption⟩ ?_
        refine h5.run 300 ?_
        simp (disch := omega) only [sBuiltin, exec_succ, runR_next, runR_stop, stepS, runOp, toSR, sop, rOf, sLen, ev, Env.get, setO, OutOK_stop, List.length_map, List.getElem?_toArray, List.getElem?_cons_succ, List.getElem?_cons_zero, ↓reduceIte, Nat.reduceLT, gl0, Tryd.underlying39]
        have hsb := sub_bits (b := ahead) halw
        have hbb := fun c hc => bits_bd (s := alw w.m free) (c := c) hc
        have hbl := bits_len (alw w.m free)
        generalize bits (alw w.m free) = cs at hsb hbb hbl ⊢
        refine Sat.less (Sat.loop (γ := Nat) (fun j => ([(13, I j), (12, I cs.length), (11, .rd 1 (cs.map (eI .i64))), (1, .ptr 0 0 0 0), (2, .ptr 1 0 0 0)], [(0, .own [S free] 24), (1, .own (tk.map fun b => .v (.bool b)) 66)], 4)) (fun j => cs.length - j) (fun j => j ≤ cs.length ∧ ∀ i, i < j → ahead.testBit (cs.getD i default).toNat = true) ?rl1 0 ⟨Nat.zero_le _, fun i hi => by omega⟩) (by repeat' (first | exact EnvSub.nil _ | exact HeapSub.nil _ | refine EnvSub.cons rfl ?_ | refine HeapSub.cons rfl ?_ | (refine EnvSub.cons (by simp [Env.get]; done) ?_) | (refine HeapSub.cons (by simp [Heap.get]; done) ?_))) (by repeat' (first | exact EnvSub.nil _ | exact HeapSub.nil _ | refine EnvSub.cons rfl ?_ | refine HeapSub.cons rfl ?_ | (refine EnvSub.cons (by simp [Env.get]; done) ?_) | (refine HeapSub.cons (by simp [Heap.get]; done) ?_)))
        case rl1 =>
          rintro j ⟨hj, hall⟩ ih5
          dsimp only at hj hall ih5 ⊢
          refine h5.run 300 ?_
          simp (disch := omega) only [exec_succ, runR_next, stepS, runOp, condS, toSR, sop, sInt, sBin, ev, Env.get, List.size_toArray, List.length_cons, List.length_nil, List.range, List.range.loop, List.getElem?_toArray, List.getElem?_cons_zero, ↓reduceIte, Nat.reduceLT, Nat.reduceEqDiff, Nat.zero_add, gl0]
          refine OutOK_fork (fun h => ?_) (fun h => ?_) <;> try simp only [Bool.not_true, Bool.not_false, decide_eq_true_eq, decide_eq_false_iff_not, Bool.not_eq_true', Bool.not_eq_false', Bool.and_eq_true, Bool.or_eq_false_iff, Bool.or_eq_true, Bool.and_eq_false_iff] at h
          · have hjc : cs.getD j default ∈ cs := by
              rw [List.getD, List.getElem?_eq_getElem (by omega)]; exact List.getElem_mem _
            obtain ⟨c1, c2⟩ := hbb _ hjc
            have hz5 := fun h => ih5 (j + 1) ⟨by omega, h⟩ (by omega)
            simp (disch := omega) only [exec_succ, runR_next, runR_need, stepS, runOp, condS, toSR, sop, rOf, sLoadIn, sLoad, sUn, sIndexAddr, elemT, obind, ev, Env.get, Heap.get, takeN, cut, aggOf, OutOK_need, Int.cast_ofNat_Int, List.size_toArray, List.length_cons, List.length_nil, List.length_map, List.range, List.range.loop, List.getElem?_toArray, List.getElem?_cons_succ, List.getElem?_cons_zero, ↓reduceIte, Nat.reduceAdd, Nat.reduceLT, Nat.reduceEqDiff, Nat.zero_add, Nat.add_zero, Nat.mul_one, Int.toNat_natCast, reduceCtorEq, getD_map, eI, Tryd.sz3, Tryd.ag3, Tryd.sz4, Tryd.ag4, Tryd.underlying39, Tryd.underlying66, cutB]
            (repeat (refine ⟨by first | omega | (refine ⟨?_, ?_⟩ <;> omega) | trivial | (simp; done) | decide +kernel, fun _ => ?_⟩))
            generalize hcj : cs.getD j default = c at c1 c2 hjc ⊢
            have hmb := hmk.2 c.toNat (by omega)
            rw [hmb]
            cases hb : ahead.testBit c.toNat
            · have hne : ¬ dif (alw w.m free) ahead = 0 := fun h => by have := hsb.1 h c hjc; rw [hb] at this; cases this
              rw [decide_eq_false hne, Bool.false_and] at hfair
              simp (disch := omega) only [exec_succ, runR_next, runR_fork_true, runR_stop, stepS, runOp, toSR, sop, rOf, ev, OutOK_stop, List.size_toArray, List.length_cons, List.length_nil, List.range, List.range.loop, List.getElem?_toArray, List.getElem?_cons_zero, ↓reduceIte, Nat.reduceLT, Nat.zero_add, Bool.not_false]
              refine h5.ret _ _ _ _ _ _ trivial rfl ?_
              refine hκ.run 300 ?_
              simp (disch := omega) only [exec_succ, runR_next, runR_fork_true, runR_stop, stepS, runOp, condS, toSR, sop, rOf, ev, Env.get, setO, OutOK_stop, dropL, resV, List.size_toArray, List.length_cons, List.length_nil, List.range, List.range.loop, List.getElem?_toArray, List.getElem?_cons_succ, List.getElem?_cons_zero, ↓reduceIte, Nat.reduceAdd, Nat.reduceLT, Nat.zero_add, gl0]
              refine hκ.run 300 ?_
              simp (disch := omega) only [exec_succ, runR_stop, stepS, OutOK_stop, gl0]
              refine hκ.ret _ _ _ _ _ _ trivial rfl ?_
              rw [← hfair]
              exact .ret (by simp [SV.bnd, SV.bndL])
            · simp (disch := omega) only [exec_succ, runR_next, runR_fork_false, runR_stop, stepS, runOp, toSR, sop, rOf, sInt, sBin, ev, Env.get, OutOK_stop, List.size_toArray, List.length_cons, List.length_nil, List.range, List.range.loop, List.getElem?_toArray, List.getElem?_cons_succ, List.getElem?_cons_zero, ↓reduceIte, Nat.reduceAdd, Nat.reduceLT, Nat.reduceEqDiff, Nat.zero_add, Bool.not_true, wrap_i64]
              refine Sat.less (hz5 fun i hi => ?_) (by repeat' (first | exact EnvSub.nil _ | exact HeapSub.nil _ | refine EnvSub.cons rfl ?_ | refine HeapSub.cons rfl ?_ | (refine EnvSub.cons (by simp [Env.get]; done) ?_) | (refine HeapSub.cons (by simp [Heap.get]; done) ?_))) (by repeat' (first | exact EnvSub.nil _ | exact HeapSub.nil _ | refine EnvSub.cons rfl ?_ | refine HeapSub.cons rfl ?_ | (refine EnvSub.cons (by simp [Env.get]; done) ?_) | (refine HeapSub.cons (by simp [Heap.get]; done) ?_)))
              by_cases e : i = j
              · rw [e, hcj]; exact hb
              · exact hall i (by omega)
          · obtain rfl : j = cs.length := by omega
            have he : dif (alw w.m free) ahead = 0 := hsb.2 fun c hc => by
              obtain ⟨i, hi, e⟩ := List.mem_iff_getElem.1 hc
              have := hall i hi
              rwa [List.getD, List.getElem?_eq_getElem hi, Option.getD_some, e] at this
            rw [decide_eq_true he, Bool.true_and] at hfair
            have hz6 := hz [] ahead tk hfair hsub (by simp) hmk
            simp (disch := omega) only [exec_succ, runR_next, runR_stop, stepS, runOp, goS, toSR, sop, rOf, ev, exitTo, OutOK_stop, List.size_toArray, List.length_cons, List.length_nil, List.range, List.range.loop, List.getElem?_toArray, List.getElem?_cons_zero, ↓reduceIte, Nat.reduceLT, Nat.zero_add, beq_self_eq_true]
            refine h5.ret _ _ _ _ _ _ trivial rfl ?_
            refine hκ.run 300 ?_
            simp (disch := omega) only [exec_succ, runR_next, runR_fork_false, runR_stop, stepS, runOp, condS, goS, toSR, sop, rOf, sInt, sBin, ev, Env.get, setO, exitTo, OutOK_stop, dropL, resV, List.size_toArray, List.length_cons, List.length_nil, List.range, List.range.loop, List.getElem?_toArray, List.getElem?_cons_succ, List.getElem?_cons_zero, ↓reduceIte, Nat.reduceAdd, Nat.reduceLT, Nat.reduceEqDiff, Nat.zero_add, beq_self_eq_true, wrap_i64, gl0]
            refine hκ.run 300 ?_
            simp (disch := omega) only [exec_succ, runR_stop, stepS, OutOK_stop, gl0]
            refine Sat.via (fun i => i) (hz6) (by intro i j; (repeat (first | omega | split))) (by repeat' (first | exact EnvVia.nil | refine EnvVia.cons (by first | trivial | decide | (simp [SV.bnd, SV.bndL]; done)) rfl ?_)) (by repeat' (first | exact HeapVia.nil | refine HeapVia.cons (by decide) (by first | trivial | (simp [Blk.bnd, SV.bnd, SV.bndL]; done) | exact bndL_mapV _ _ _ | exact LR.bnd (by rw [l2]; simp [bndE, SV.bnd, SV.bndL]) (by rw [l6]; decide)) (by first | rfl | (simp only [Blk.ren, renL_mapV]; rfl) | (rw [LR.ren (by rw [l2] <;> rfl) (by rw [l6] <;> rfl)]; rfl)) ?_)) ⟨by have := hκ.hm; (try dsimp only at this); (first | done | omega), fun i hi => by have := hκ.hm; (try dsimp only at this); (first | omega | (dsimp only; omega) | (rw [if_neg (by omega)]))⟩ ⟨by simp, rfl⟩
      · rw [fairG] at hfair
        by_cases hpv : p.1 = w.v
        · rw [if_pos hpv] at hfair
          have ep : (p.1 = w.v) = True := by simp [hpv]
          have e1 : ((left.length : Int) + 1 = 0) = False := by simp only [eq_iff_iff, iff_false]; omega
          refine hκ.draw (.q 0 (.q 1 (.q 2 (.q 3 (.q 4 (.q 5 (.q 6 (.q 7 (.q 8 (.q 9 (.q 10 (.q 11 (.fin))))))))))))) [0, 1, 2, 3, 4, 5, 6, 7, 8, 9, 10, 11] (by kernel_rfl) (by kernel_rfl) rfl ?_
          simp (disch := omega) only [sBuiltin, sop, rOf, sPick, sLoadIn, sLoad, sInt, sBin, sFieldAddr, sIndexAddr, sLen, elemT, obind, ev, Env.get, Heap.get, takeN, cut, aggOf, setO, drawP_fin, drawP_q, dq, dqn, GF.ff, guardP, R1Q, dstOK, Int.cast_ofNat_Int, Int.natCast_add, List.length_cons, List.length_map, List.getElem?_toArray, List.getElem?_cons_succ, List.getElem?_cons_zero, List.getD_cons_zero, List.map_cons, Option.bind_some, ↓reduceIte, Nat.reduceLT, Nat.reduceEqDiff, Nat.add_zero, Nat.add_one_ne_zero, Int.reduceToNat, Int.reduceLE, Bool.not_true, decide_true, decide_false, true_and, gl0, Tryd.sz3, Tryd.ag3, Tryd.underlying26, Tryd.sz31, Tryd.fd31f0, Tryd.fd36f0, ep, e1, eP]
          (repeat (refine ⟨by first | omega | (refine ⟨?_, ?_⟩ <;> omega) | trivial | (simp; done) | decide +kernel, fun _ => ?_⟩))
          obtain ⟨hq1, hq2, hq3⟩ := hp p (hsub p (by simp))
          refine hκ.run 300 ?_
          simp (disch := omega) only [exec_succ, runR_next, runR_need, runR_fork_false, runR_call, stepS, runOp, condS, toSR, sop, rOf, sLoadIn, sLoad, sFieldAddr, sIndexAddr, elemT, obind, ev, evs, Env.get, Heap.get, takeN, cut, aggOf, OutOK_need, OutOK_call, Int.cast_ofNat_Int, Int.natCast_add, List.size_toArray, List.length_cons, List.length_nil, List.length_map, List.range, List.range.loop, List.getElem?_toArray, List.getElem?_cons_succ, List.getElem?_cons_zero, List.getD_cons_zero, List.map_cons, ↓reduceIte, Nat.reduceAdd, Nat.reduceLT, Nat.reduceEqDiff, Nat.zero_add, Nat.add_one_ne_zero, Int.reduceToNat, Int.reduceLE, true_and, gl0, Tryd.sz3, Tryd.ag3, Tryd.sz24, Tryd.ag24, Tryd.underlying26, Tryd.sz31, Tryd.fd31f1, Tryd.sz34, Tryd.ag34, Tryd.fd36f2, eP]
          (repeat (refine ⟨by first | omega | (refine ⟨?_, ?_⟩ <;> omega) | trivial | (simp; done) | decide +kernel, fun _ => ?_⟩))
          refine Does.ret hκ.hP hκ.hgl (allows_ok w.m free m1 hf) ⟨trivial, by simp [SV.bnd, SV.bndL], by first | (simp [SV.bnd, SV.bndL]; done) | assumption⟩ ?_
          refine hκ.run 300 ?_
          simp (disch := omega) only [exec_succ, runR_next, runR_call, stepS, runOp, toSR, sop, rOf, ev, evs, Env.get, setO, OutOK_call, List.getElem?_toArray, List.getElem?_cons_succ, List.getElem?_cons_zero, ↓reduceIte, Nat.reduceLT, Nat.reduceEqDiff, gl0]
          refine Does.ret hκ.hP hκ.hgl (has_ok (alw w.m free) p.2 (by omega) ⟨hq2, hq3⟩) ⟨trivial, by simp [SV.bnd, SV.bndL], by first | (simp [SV.bnd, SV.bndL]; done) | assumption⟩ ?_
          cases hb : hasB (alw w.m free) p.2
          · rw [hb, Bool.false_and, Bool.false_and] at hfair
            refine hκ.run 300 ?_
            simp (disch := omega) only [exec_succ, runR_next, runR_fork_true, runR_guard_tf, runR_stop, stepS, runOp, guardS, condS, toSR, sop, rOf, sPick, sLoad, sUn, sIndexAddr, elemT, obind, ev, Env.get, setO, OutOK_stop, undefS, undef, Int.cast_ofNat_Int, List.size_toArray, List.length_cons, List.length_nil, List.range, List.range.loop, List.getElem?_toArray, List.getElem?_cons_succ, List.getElem?_cons_zero, Option.bind_some, ↓reduceIte, Nat.reduceAdd, Nat.reduceLT, Nat.reduceEqDiff, Nat.zero_add, Bool.not_false, and_self, gl0, Tryd.sz4, Tryd.underlying66]
            refine hκ.ret _ _ _ _ _ _ trivial rfl ?_
            rw [← hfair]
            exact .ret (by simp [SV.bnd, SV.bndL])
          · rw [hb, Bool.true_and] at hfair
            have hb0 := bits_bd (mem_bits.2 hb)
            have hmb := hmk.2 p.2.toNat (by omega)
            refine hκ.run 300 ?_
            simp (disch := omega) only [exec_succ, runR_next, runR_need, runR_guard_ff, stepS, runOp, guardS, condS, toSR, sop, rOf, sPick, sLoadIn, sLoad, sUn, sIndexAddr, elemT, obind, ev, Env.get, Heap.get, aggOf, setO, OutOK_need, undefS, undef, Int.cast_ofNat_Int, List.getElem?_toArray, List.getElem?_cons_succ, List.getElem?_cons_zero, Option.bind_some, ↓reduceIte, Nat.reduceLT, Nat.reduceEqDiff, Nat.add_zero, Nat.mul_one, Bool.not_true, Bool.not_false, and_self, reduceCtorEq, gl0, Tryd.sz4, Tryd.ag4, Tryd.underlying66, cutB]
            (repeat (refine ⟨by first | omega | (refine ⟨?_, ?_⟩ <;> omega) | trivial | (simp; done) | decide +kernel, fun _ => ?_⟩))
            rw [hmb]
            cases ht : ahead.testBit p.2.toNat
            · rw [ht, Bool.not_false, Bool.true_and] at hfair
              have hz6 := hz left (ahead ||| 2 ^ p.2.toNat) (tk.set p.2.toNat true) hfair (fun q hq => hsub q (by simp [hq])) (by simp only [List.length_cons] at hll; omega) (marksS_set hmk)
              simp (disch := omega) only [allQuiet, quietOp, drawS, exec_succ, runR_next, runR_fork_false, runR_stop, stepS, OutOK_stop, Option.isNone_none, Bool.and_true, Bool.and_false]
              refine hκ.draw (.q 0 (.q 1 (.q 2 (.q 3 (.l 4 [] (.l 5 [] (.fin))))))) [0, 1, 2, 3] (by kernel_rfl) (by kernel_rfl) rfl ?_
              simp (disch := omega) only [sop, rOf, sStoreIn, sStore, sIndexAddr, optI, sSlice, cutL, elemT, obind, ev, svs, Env.get, Heap.get, Heap.set, cellsS, one, ones, setO, Value.cells, Value.oneCell', drawP_fin, drawP_q, drawP_l, dnext, dq, dqn, dl, guardP, R1Q, dstOK, loudP, again, R1OK, undefS, undef, Int.cast_ofNat_Int, Int.natCast_add, List.drop_zero, List.drop_succ_cons, List.length_cons, List.length_nil, List.length_map, List.getElem?_toArray, List.getElem?_cons_succ, List.getElem?_cons_zero, List.map_cons, List.map_nil, Option.map_some, Option.map_none, Option.getD_some, Option.getD_none, List.toList_toArray, ↓reduceIte, Nat.reduceLT, Nat.reduceEqDiff, Nat.zero_add, Nat.add_zero, Nat.mul_one, Int.reduceToNat, Int.reduceLE, true_and, and_self, forall_const, reduceCtorEq, gl0, Tryd.sz4, Tryd.underlying26, Tryd.sz31, Tryd.underlying66, eP, pasteB]
              (repeat (refine ⟨by first | omega | (refine ⟨?_, ?_⟩ <;> omega) | trivial | (simp; done) | decide +kernel, fun _ => ?_⟩))
              refine hκ.run 300 ?_
              simp (disch := omega) only [exec_succ, runR_next, runR_stop, stepS, runOp, toSR, sop, rOf, sInt, sBin, ev, Env.get, OutOK_stop, List.size_toArray, List.length_cons, List.length_nil, List.range, List.range.loop, List.getElem?_toArray, List.getElem?_cons_succ, List.getElem?_cons_zero, ↓reduceIte, Nat.reduceAdd, Nat.reduceLT, Nat.reduceEqDiff, Nat.zero_add, wrap_i64, gl0]
              refine Sat.via (fun i => i) (hz6) (by intro i j; (repeat (first | omega | split))) (by repeat' (first | exact EnvVia.nil | refine EnvVia.cons (by first | trivial | decide | (simp [SV.bnd, SV.bndL]; done)) rfl ?_)) (by repeat' (first | exact HeapVia.nil | refine HeapVia.cons (by decide) (by first | trivial | (simp [Blk.bnd, SV.bnd, SV.bndL]; done) | exact bndL_mapV _ _ _ | exact LR.bnd (by rw [l2]; simp [bndE, SV.bnd, SV.bndL]) (by rw [l6]; decide)) (by first | rfl | (simp only [Blk.ren, renL_mapV]; rfl) | (rw [LR.ren (by rw [l2] <;> rfl) (by rw [l6] <;> rfl)]; rfl)) ?_)) ⟨by have := hκ.hm; (try dsimp only at this); (first | done | omega), fun i hi => by have := hκ.hm; (try dsimp only at this); (first | omega | (dsimp only; omega) | (rw [if_neg (by omega)]))⟩ ⟨by simp, rfl⟩
            · rw [ht, Bool.not_true, Bool.false_and] at hfair
              simp (disch := omega) only [exec_succ, runR_next, runR_fork_true, runR_stop, stepS, runOp, toSR, sop, rOf, ev, OutOK_stop, List.size_toArray, List.length_cons, List.length_nil, List.range, List.range.loop, List.getElem?_toArray, List.getElem?_cons_succ, List.getElem?_cons_zero, ↓reduceIte, Nat.reduceAdd, Nat.reduceLT, Nat.zero_add]
              refine hκ.ret _ _ _ _ _ _ trivial rfl ?_
              rw [← hfair]
              exact .ret (by simp [SV.bnd, SV.bndL])
        · rw [if_neg hpv] at hfair
          have ep : (p.1 = w.v) = False := by simp [hpv]
          have e1 : ((left.length : Int) + 1 = 0) = False := by simp only [eq_iff_iff, iff_false]; omega
          refine hκ.draw (.q 0 (.q 1 (.q 2 (.q 3 (.q 4 (.q 5 (.q 6 (.q 7 (.q 8 (.q 9 (.q 10 (.q 11 (.fin))))))))))))) [0, 1, 2, 3, 4, 5, 6, 7, 8, 9, 10, 11] (by kernel_rfl) (by kernel_rfl) rfl ?_
          simp (disch := omega) only [sBuiltin, sop, rOf, sPick, sLoadIn, sLoad, sInt, sBin, sFieldAddr, sIndexAddr, sLen, elemT, obind, ev, Env.get, Heap.get, takeN, cut, aggOf, setO, drawP_fin, drawP_q, dq, dqn, GF.ff, guardP, R1Q, dstOK, Int.cast_ofNat_Int, Int.natCast_add, List.length_cons, List.length_map, List.getElem?_toArray, List.getElem?_cons_succ, List.getElem?_cons_zero, List.getD_cons_zero, List.map_cons, Option.bind_some, ↓reduceIte, Nat.reduceLT, Nat.reduceEqDiff, Nat.add_zero, Nat.add_one_ne_zero, Int.reduceToNat, Int.reduceLE, Bool.not_false, decide_false, true_and, gl0, Tryd.sz3, Tryd.ag3, Tryd.underlying26, Tryd.sz31, Tryd.fd31f0, Tryd.fd36f0, ep, e1, eP]
          (repeat (refine ⟨by first | omega | (refine ⟨?_, ?_⟩ <;> omega) | trivial | (simp; done) | decide +kernel, fun _ => ?_⟩))
          refine hκ.run 300 ?_
          simp (disch := omega) only [exec_succ, runR_next, runR_fork_true, runR_call, stepS, runOp, condS, toSR, sop, rOf, sLoadIn, sLoad, ev, evs, Env.get, Heap.get, takeN, cut, aggOf, OutOK_call, List.size_toArray, List.length_cons, List.length_nil, List.range, List.range.loop, List.getElem?_toArray, List.getElem?_cons_succ, List.getElem?_cons_zero, ↓reduceIte, Nat.reduceAdd, Nat.reduceLT, Nat.reduceEqDiff, Nat.zero_add, gl0, Tryd.sz36, Tryd.ag36]
          refine Does.inlc hκ.hP hκ.hgl Tryd.ok37 (nt := 22) (res := [.tmp 4]) Tryd.mixed Tryd.func37 rfl rfl rfl rfl fun κ_h5 x_h5 h5 => h5.run 300 ?_
          simp (disch := omega) only [exec_succ, runR_next, runR_call, stepS, runOp, toSR, sop, rOf, rNew, sBox, isArr, sLoadIn, sLoad, sFieldAddr, ev, evs, Env.get, Heap.get, takeN, cut, aggOf, cellsS, envOf, OutOK_call, Bool.false_eq_true, List.size_toArray, List.length_cons, List.length_nil, List.range, List.range.loop, List.getElem?_toArray, List.getElem?_cons_succ, List.getElem?_cons_zero, List.cons_append, List.nil_append, ↓reduceIte, Nat.reduceAdd, Nat.reduceLT, Nat.reduceEqDiff, Nat.zero_add, Nat.add_one_ne_zero, reduceCtorEq, gl0, Tryd.sz24, Tryd.ag24, Tryd.sz34, Tryd.ag34, Tryd.fd36f2]
          refine Does.ret h5.hP h5.hgl (allows_ok w.m free m1 hf) ⟨trivial, by simp [SV.bnd, SV.bndL], by first | (simp [SV.bnd, SV.bndL]; done) | assumption⟩ ?_
          refine h5.run 300 ?_
          simp (disch := omega) only [exec_succ, runR_call, stepS, runOp, ev, evs, Env.get, setO, OutOK_call, List.getElem?_toArray, List.getElem?_cons_succ, List.getElem?_cons_zero, ↓reduceIte, Nat.reduceLT, gl0]
          refine Does.ret h5.hP h5.hgl ((list_ok (alw w.m free) (by omega)).toRd) ⟨trivial, by simp [SV.bnd, SV.bndL], by first | (simp [SV.bnd, SV.bndL]; done) | assumption⟩ ?_
          refine h5.run 300 ?_
          simp (disch := omega) only [sBuiltin, exec_succ, runR_next, runR_stop, stepS, runOp, toSR, sop, rOf, sLen, ev, Env.get, setO, OutOK_stop, List.length_map, List.getElem?_toArray, List.getElem?_cons_succ, List.getElem?_cons_zero, ↓reduceIte, Nat.reduceLT, gl0, Tryd.underlying39]
          have hsb := sub_bits (b := ahead) halw
          have hbb := fun c hc => bits_bd (s := alw w.m free) (c := c) hc
          have hbl := bits_len (alw w.m free)
          generalize bits (alw w.m free) = cs at hsb hbb hbl ⊢
          refine Sat.less (Sat.loop (γ := Nat) (fun j => ([(13, I j), (12, I cs.length), (11, .rd 1 (cs.map (eI .i64))), (1, .ptr 0 0 0 0), (2, .ptr 1 0 0 0)], [(0, .own [S free] 24), (1, .own (tk.map fun b => .v (.bool b)) 66)], 4)) (fun j => cs.length - j) (fun j => j ≤ cs.length ∧ ∀ i, i < j → ahead.testBit (cs.getD i default).toNat = true) ?rl2 0 ⟨Nat.zero_le _, fun i hi => by omega⟩) (by repeat' (first | exact EnvSub.nil _ | exact HeapSub.nil _ | refine EnvSub.cons rfl ?_ | refine HeapSub.cons rfl ?_ | (refine EnvSub.cons (by simp [Env.get]; done) ?_) | (refine HeapSub.cons (by simp [Heap.get]; done) ?_))) (by repeat' (first | exact EnvSub.nil _ | exact HeapSub.nil _ | refine EnvSub.cons rfl ?_ | refine HeapSub.cons rfl ?_ | (refine EnvSub.cons (by simp [Env.get]; done) ?_) | (refine HeapSub.cons (by simp [Heap.get]; done) ?_)))
          case rl2 =>
            rintro j ⟨hj, hall⟩ ih5
            dsimp only at hj hall ih5 ⊢
            refine h5.run 300 ?_
            simp (disch := omega) only [exec_succ, runR_next, stepS, runOp, condS, toSR, sop, sInt, sBin, ev, Env.get, List.size_toArray, List.length_cons, List.length_nil, List.range, List.range.loop, List.getElem?_toArray, List.getElem?_cons_zero, ↓reduceIte, Nat.reduceLT, Nat.reduceEqDiff, Nat.zero_add, gl0]
            refine OutOK_fork (fun h => ?_) (fun h => ?_) <;> try simp only [Bool.not_true, Bool.not_false, decide_eq_true_eq, decide_eq_false_iff_not, Bool.not_eq_true', Bool.not_eq_false', Bool.and_eq_true, Bool.or_eq_false_iff, Bool.or_eq_true, Bool.and_eq_false_iff] at h
            · have hjc : cs.getD j default ∈ cs := by
                rw [List.getD, List.getElem?_eq_getElem (by omega)]; exact List.getElem_mem _
              obtain ⟨c1, c2⟩ := hbb _ hjc
              have hz5 := fun h => ih5 (j + 1) ⟨by omega, h⟩ (by omega)
              simp (disch := omega) only [exec_succ, runR_next, runR_need, stepS, runOp, condS, toSR, sop, rOf, sLoadIn, sLoad, sUn, sIndexAddr, elemT, obind, ev, Env.get, Heap.get, takeN, cut, aggOf, OutOK_need, Int.cast_ofNat_Int, List.size_toArray, List.length_cons, List.length_nil, List.length_map, List.range, List.range.loop, List.getElem?_toArray, List.getElem?_cons_succ, List.getElem?_cons_zero, ↓reduceIte, Nat.reduceAdd, Nat.reduceLT, Nat.reduceEqDiff, Nat.zero_add, Nat.add_zero, Nat.mul_one, Int.toNat_natCast, reduceCtorEq, getD_map, eI, Tryd.sz3, Tryd.ag3, Tryd.sz4, Tryd.ag4, Tryd.underlying39, Tryd.underlying66, cutB]
              (repeat (refine ⟨by first | omega | (refine ⟨?_, ?_⟩ <;> omega) | trivial | (simp; done) | decide +kernel, fun _ => ?_⟩))
              generalize hcj : cs.getD j default = c at c1 c2 hjc ⊢
              have hmb := hmk.2 c.toNat (by omega)
              rw [hmb]
              cases hb : ahead.testBit c.toNat
              · have hne : ¬ dif (alw w.m free) ahead = 0 := fun h => by have := hsb.1 h c hjc; rw [hb] at this; cases this
                rw [decide_eq_false hne, Bool.false_and] at hfair
                simp (disch := omega) only [exec_succ, runR_next, runR_fork_true, runR_stop, stepS, runOp, toSR, sop, rOf, ev, OutOK_stop, List.size_toArray, List.length_cons, List.length_nil, List.range, List.range.loop, List.getElem?_toArray, List.getElem?_cons_zero, ↓reduceIte, Nat.reduceLT, Nat.zero_add, Bool.not_false]
                refine h5.ret _ _ _ _ _ _ trivial rfl ?_
                refine hκ.run 300 ?_
                simp (disch := omega) only [exec_succ, runR_next, runR_fork_true, runR_stop, stepS, runOp, condS, toSR, sop, rOf, ev, Env.get, setO, OutOK_stop, dropL, resV, List.size_toArray, List.length_cons, List.length_nil, List.range, List.range.loop, List.getElem?_toArray, List.getElem?_cons_succ, List.getElem?_cons_zero, ↓reduceIte, Nat.reduceAdd, Nat.reduceLT, Nat.zero_add, gl0]
                refine hκ.run 300 ?_
                simp (disch := omega) only [exec_succ, runR_stop, stepS, OutOK_stop, gl0]
                refine hκ.ret _ _ _ _ _ _ trivial rfl ?_
                rw [← hfair]
                exact .ret (by simp [SV.bnd, SV.bndL])
              · simp (disch := omega) only [exec_succ, runR_next, runR_fork_false, runR_stop, stepS, runOp, toSR, sop, rOf, sInt, sBin, ev, Env.get, OutOK_stop, List.size_toArray, List.length_cons, List.length_nil, List.range, List.range.loop, List.getElem?_toArray, List.getElem?_cons_succ, List.getElem?_cons_zero, ↓reduceIte, Nat.reduceAdd, Nat.reduceLT, Nat.reduceEqDiff, Nat.zero_add, Bool.not_true, wrap_i64]
                refine Sat.less (hz5 fun i hi => ?_) (by repeat' (first | exact EnvSub.nil _ | exact HeapSub.nil _ | refine EnvSub.cons rfl ?_ | refine HeapSub.cons rfl ?_ | (refine EnvSub.cons (by simp [Env.get]; done) ?_) | (refine HeapSub.cons (by simp [Heap.get]; done) ?_))) (by repeat' (first | exact EnvSub.nil _ | exact HeapSub.nil _ | refine EnvSub.cons rfl ?_ | refine HeapSub.cons rfl ?_ | (refine EnvSub.cons (by simp [Env.get]; done) ?_) | (refine HeapSub.cons (by simp [Heap.get]; done) ?_)))
                by_cases e : i = j
                · rw [e, hcj]; exact hb
                · exact hall i (by omega)
            · obtain rfl : j = cs.length := by omega
              have he : dif (alw w.m free) ahead = 0 := hsb.2 fun c hc => by
                obtain ⟨i, hi, e⟩ := List.mem_iff_getElem.1 hc
                have := hall i hi
                rwa [List.getD, List.getElem?_eq_getElem hi, Option.getD_some, e] at this
              rw [decide_eq_true he, Bool.true_and] at hfair
              have hz6 := hz (p :: left) ahead tk hfair hsub hll hmk
              simp (disch := omega) only [exec_succ, runR_next, runR_stop, stepS, runOp, goS, toSR, sop, rOf, ev, exitTo, OutOK_stop, List.size_toArray, List.length_cons, List.length_nil, List.range, List.range.loop, List.getElem?_toArray, List.getElem?_cons_zero, ↓reduceIte, Nat.reduceLT, Nat.zero_add, beq_self_eq_true]
              refine h5.ret _ _ _ _ _ _ trivial rfl ?_
              refine hκ.run 300 ?_
              simp (disch := omega) only [exec_succ, runR_next, runR_fork_false, runR_stop, stepS, runOp, condS, goS, toSR, sop, rOf, sInt, sBin, ev, Env.get, setO, exitTo, OutOK_stop, dropL, resV, List.size_toArray, List.length_cons, List.length_nil, List.range, List.range.loop, List.getElem?_toArray, List.getElem?_cons_succ, List.getElem?_cons_zero, ↓reduceIte, Nat.reduceAdd, Nat.reduceLT, Nat.reduceEqDiff, Nat.zero_add, beq_self_eq_true, wrap_i64, gl0]
              refine hκ.run 300 ?_
              simp (disch := omega) only [exec_succ, runR_stop, stepS, OutOK_stop, gl0]
              refine Sat.via (fun i => i) (hz6) (by intro i j; (repeat (first | omega | split))) (by repeat' (first | exact EnvVia.nil | refine EnvVia.cons (by first | trivial | decide | (simp [SV.bnd, SV.bndL]; done)) rfl ?_)) (by repeat' (first | exact HeapVia.nil | refine HeapVia.cons (by decide) (by first | trivial | (simp [Blk.bnd, SV.bnd, SV.bndL]; done) | exact bndL_mapV _ _ _ | exact LR.bnd (by rw [l2]; simp [bndE, SV.bnd, SV.bndL]) (by rw [l6]; decide)) (by first | rfl | (simp only [Blk.ren, renL_mapV]; rfl) | (rw [LR.ren (by rw [l2] <;> rfl) (by rw [l6] <;> rfl)]; rfl)) ?_)) ⟨by have := hκ.hm; (try dsimp only at this); (first | done | omega), fun i hi => by have := hκ.hm; (try dsimp only at this); (first | omega | (dsimp only; omega) | (rw [if_neg (by omega)]))⟩ ⟨by simp, rfl⟩
    · simp (disch := omega) only [sBuiltin, exec_succ, runR_next, runR_stop, stepS, runOp, goS, toSR, sop, rOf, sInt, sBin, sLen, ev, Env.get, exitTo, OutOK_stop, List.size_toArray, List.length_cons, List.length_nil, List.length_map, List.range, List.range.loop, List.getElem?_toArray, List.getElem?_cons_succ, List.getElem?_cons_zero, ↓reduceIte, Nat.reduceAdd, Nat.reduceLT, Nat.reduceEqDiff, Nat.zero_add, beq_self_eq_true, Tryd.underlying26]
      obtain rfl : k = l.length := by omega
      refine hκ.ret _ _ _ _ _ _ trivial rfl ?_
      rw [List.drop_length, fairG] at hfair
      rw [← hfair]
      have e9 : left.isEmpty = decide ((left.length : Int) = 0) := by cases left <;> simp; omega
      rw [e9]
      exact .ret (by simp [SV.bnd, SV.bndL])
end Go.Proofs.YtgnkhcnpjediaaaDoor
