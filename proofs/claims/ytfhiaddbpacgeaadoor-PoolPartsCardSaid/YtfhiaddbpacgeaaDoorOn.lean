/- Each pCPU is in one pool: plain facts, and the walk of the law's own look. No condition. -/
import Derived.Test.YtfhiaddbpacgeaaDoorRu
import Derived.Test.YtfhiaddbpacgeaaDoorWa
namespace Go.Proofs.YtfhiaddbpacgeaaDoor
open Go Go.Sy
set_option maxRecDepth 100000
set_option linter.unusedSimpArgs false
set_option linter.unusedVariables false

theorem fold_or_bit (c : Nat) (xs : List Nat) : (xs.foldl (fun a s => a ||| s) 0).testBit c = decide (0 < nP c xs) := by
  refine snoc_ind (p := fun xs => (xs.foldl (fun a s => a ||| s) 0).testBit c = decide (0 < nP c xs)) (by simp [nP]) (fun l s ih => ?_) xs
  rw [List.foldl_append, List.foldl_cons, List.foldl_nil, or_bits, ih, nP_snoc]
  cases s.testBit c <;> simp
theorem allV_bit {xs : List Nat} (h : okP xs = true) (c : Nat) : (allV xs).testBit c = decide (0 < nP c xs) := by
  rw [allV, if_pos h, fold_or_bit]
theorem allV_lt {xs : List Nat} (h : okP xs = true) : allV xs < 256 := by
  obtain ⟨-, -, m, hm, hm2⟩ := (okP_iff xs).1 h
  have : allV xs = 2 ^ m - 1 := by
    apply Nat.eq_of_testBit_eq; intro c
    rw [allV_bit h, Nat.testBit_two_pow_sub_one, hm2]
    split <;> simp_all
  rw [this]
  have := Nat.pow_le_pow_right (show 0 < 2 by decide) hm
  omega
theorem cnt_allV {xs : List Nat} (h : okP xs = true) : cnt (allV xs) = totP xs := by
  rw [cnt, bits_sum, tot_sum]
  have k : ∀ c, ((allV xs).testBit c).toNat = nP c xs := fun c => by
    rw [allV_bit h]
    have := okP_one h c
    by_cases e : 0 < nP c xs
    · rw [decide_eq_true e]; simp; omega
    · rw [decide_eq_false e]; simp; omega
  simp only [k]
theorem allV_same {xs ys : List Nat} (h : okP xs = true) (h2 : okP ys = true) (hn : ∀ c, nP c ys = nP c xs) : allV ys = allV xs := by
  apply Nat.eq_of_testBit_eq; intro c
  rw [allV_bit h, allV_bit h2, hn]
theorem nP_drop {c k : Nat} {l : List Nat} (h : k < l.length) : nP c (l.take k ++ l.drop (k + 1)) + ((l.getD k default).testBit c).toNat = nP c l := by
  have e : nP c l = nP c (l.take k) + (((l.getD k default).testBit c).toNat + nP c (l.drop (k + 1))) := by
    conv => lhs; rw [split_at h]
    rw [nP_app, nP_cons]
  rw [nP_app, e]
  omega
theorem join_facts {xs : List Nat} {p q : Int} (h : joinE xs p q = 0) : okP xs = true ∧ (0 ≤ p ∧ p.toNat < xs.length) ∧ (0 ≤ q ∧ q.toNat < xs.length) ∧ p.toNat ≠ q.toNat := by
  unfold joinE at h
  split at h
  · cases h
  rename_i h1
  split at h
  · cases h
  rename_i h2
  split at h
  · cases h
  rename_i h3
  rw [Bool.not_eq_false, Bool.and_eq_true] at h2
  have h4 : 0 ≤ p ∧ p < xs.length := by simpa [inR] using h2.1
  have h5 : 0 ≤ q ∧ q < xs.length := by simpa [inR] using h2.2
  exact ⟨by simpa using h1, ⟨h4.1, by omega⟩, ⟨h5.1, by omega⟩, by omega⟩
theorem joinX_nP {xs : List Nat} {p q : Int} (h : joinE xs p q = 0) (c : Nat) : nP c (joinX xs p q) = nP c xs := by
  obtain ⟨h1, h2, h3, h4⟩ := join_facts h
  rw [joinX]
  have e1 := nP_set (c := c) (v := xs.getD q.toNat default ||| xs.getD p.toNat default) h3.2
  have e2 := nP_drop (c := c) (k := p.toNat) (l := xs.set q.toNat (xs.getD q.toNat default ||| xs.getD p.toNat default)) (by simpa using h2.2)
  rw [getD_set_other (Ne.symm h4)] at e2
  rw [or_bits] at e1
  have hd := okP_disj (c := c) h1 h2.2 h3.2 h4
  generalize nP c ((xs.set q.toNat (xs.getD q.toNat default ||| xs.getD p.toNat default)).take p.toNat ++ (xs.set q.toNat (xs.getD q.toNat default ||| xs.getD p.toNat default)).drop (p.toNat + 1)) = A at e2 ⊢
  generalize nP c (xs.set q.toNat (xs.getD q.toNat default ||| xs.getD p.toNat default)) = B at e1 e2
  generalize nP c xs = C at e1 ⊢
  revert hd e1 e2
  cases (xs.getD p.toNat default).testBit c <;> cases (xs.getD q.toNat default).testBit c <;> simp <;> intros <;> omega
theorem joinX_ok {xs : List Nat} {p q : Int} (h : joinE xs p q = 0) : okP (joinX xs p q) = true := by
  obtain ⟨h1, h2, h3, h4⟩ := join_facts h
  obtain ⟨l1, l2, -⟩ := (okP_iff xs).1 h1
  have hq := l2 _ (getD_mem h3.2)
  have hp := l2 _ (getD_mem h2.2)
  refine okP_same h1 ?_ (fun u hu => ?_) (joinX_nP h)
  · rw [joinX, List.length_append, List.length_take, List.length_drop, List.length_set]
    omega
  · have hu : u ∈ xs.set q.toNat (xs.getD q.toNat default ||| xs.getD p.toNat default) := by
      rw [joinX, List.mem_append] at hu
      rcases hu with hu | hu
      · exact List.mem_of_mem_take hu
      · exact List.mem_of_mem_drop hu
    rcases mem_set hu with hu | rfl
    · exact l2 u hu
    · refine ⟨fun e => hq.1 ?_, Nat.or_lt_two_pow (n := 8) hq.2 hp.2⟩
      apply Nat.eq_of_testBit_eq; intro i
      have := congrArg (fun n => n.testBit i) e
      simp only [or_bits, Nat.zero_testBit, Bool.or_eq_false_iff] at this
      rw [this.1, Nat.zero_testBit]
theorem doX_facts {p : List Nat} {o : Od} (h : doE p o = 0) : okP p = true ∧ okP (doX p o) = true ∧ ∀ c, nP c (doX p o) = nP c p := by
  unfold doE at h
  unfold doX
  split at h
  · rename_i k
    rw [if_pos k]
    exact ⟨(split_facts h).1, splitX_ok h, splitX_nP h⟩
  · rename_i k
    rw [if_neg k]
    split at h
    · rename_i k2
      rw [if_pos k2]
      exact ⟨(join_facts h).1, joinX_ok h, joinX_nP h⟩
    · rename_i k2
      rw [if_neg k2]
      exact ⟨(move_facts h).1, moveX_ok h, moveX_nP h⟩
theorem okP_small {xs : List Nat} (h : okP xs = true) : u32s xs ∧ xs.length ≤ 4 := by
  obtain ⟨l1, l2, -⟩ := (okP_iff xs).1 h
  exact ⟨fun s hs => by have := (l2 s hs).2; omega, l1.2⟩
theorem ofI_own {xs : List Nat} (h : okP xs = true) {i : Nat} {c : Int} (hi : i < xs.length) (hb : hasB (xs.getD i default) c = true) : ofI xs c = some i := by
  refine ofI_some hi hb fun j hj => ?_
  simp only [hasB, Bool.and_eq_true, decide_eq_true_eq] at hb
  rw [← getD_def, hasB, okP_disj h hi (by omega) (by omega) hb.2, Bool.and_false]
theorem totP_tl (xs : List Nat) : totP xs ≤ 8 * xs.length := by
  refine snoc_ind (p := fun xs => totP xs ≤ 8 * xs.length) (by simp [totP]) (fun l s ih => ?_) xs
  have := bits_len s
  rw [totP_snoc, List.length_append, List.length_singleton]
  omega
theorem parted_ok (p : List Nat) (hk : okP p = true) : Con Tryd.prog gl0 (fnv 8) [Po p] 0 [] (Ret (Bo true)) := by
  obtain ⟨hx, hl⟩ := okP_small hk
  obtain ⟨l1, l2, -⟩ := (okP_iff p).1 hk
  have c1 := pchk_ok p hx (by omega)
  rw [if_pos hk] at c1
  refine Con.of Tryd.ok8 (nt := 57) (res := [.tmp 2]) Tryd.mixed Tryd.func8 rfl rfl rfl rfl fun κ xc hκ => hκ.run 300 ?_
  simp (disch := omega) only [sBuiltin, exec_succ, runR_next, runR_stop, stepS, runOp, toSR, sop, rOf, rNew, sBox, isArr, sLoadIn, sLoad, sFieldAddr, sLen, ev, Env.get, Heap.get, takeN, cut, aggOf, cellsS, envOf, OutOK_stop, Bool.false_eq_true, List.size_toArray, List.length_cons, List.length_nil, List.length_map, List.range, List.range.loop, List.getElem?_toArray, List.getElem?_cons_succ, List.getElem?_cons_zero, ↓reduceIte, Nat.reduceAdd, Nat.reduceLT, Nat.reduceEqDiff, Nat.zero_add, Nat.add_zero, Nat.add_one_ne_zero, gl0, Tryd.underlying24, Tryd.sz24, Tryd.ag24, Tryd.fd26f0]
  refine Sat.less (Sat.loop (γ := Nat) (fun i => ([(13, I i), (12, I p.length), (11, .rd 1 (p.map eS)), (1, .ptr 0 0 0 0), (3, I (totP (p.take i)))], [(0, .own [.rd 1 (p.map eS)] 26)], 1)) (fun i => p.length - i) (fun i => i ≤ p.length) ?round 0 (Nat.zero_le _)) (by repeat' (first | exact EnvSub.nil _ | exact HeapSub.nil _ | refine EnvSub.cons rfl ?_ | refine HeapSub.cons rfl ?_ | (refine EnvSub.cons (by simp [Env.get]; done) ?_) | (refine HeapSub.cons (by simp [Heap.get]; done) ?_))) (by repeat' (first | exact EnvSub.nil _ | exact HeapSub.nil _ | refine EnvSub.cons rfl ?_ | refine HeapSub.cons rfl ?_ | (refine EnvSub.cons (by simp [Env.get]; done) ?_) | (refine HeapSub.cons (by simp [Heap.get]; done) ?_)))
  case round =>
    intro i hi ih
    dsimp only at hi ih ⊢
    have ht0 := totP_tl (p.take i)
    have hl0 : (p.take i).length ≤ 4 := by simp; omega
    by_cases hil : i < p.length
    · have e0 : ((i : Int) < p.length) = True := by simp only [eq_iff_iff, iff_true]; omega
      have hs := l2 _ (getD_mem hil)
      have hz := ih (i + 1) (by omega) (by omega)
      rw [take_getD hil, totP_snoc] at hz
      have c2 := set_ok p i hx (by omega)
      rw [show setV p i = p.getD i default by rw [setV, if_pos ⟨hk, decide_eq_true (by omega)⟩, Int.toNat_natCast]] at c2
      have hown := fun c h => ofI_own (c := c) hk hil h
      have hbl := bits_len (p.getD i default)
      have hmb := fun c (h : c ∈ bits (p.getD i default)) => mem_bits.1 h
      have hbd := fun c (h : c ∈ bits (p.getD i default)) => bits_bd h
      generalize p.getD i default = s at hs hz c2 hown hbl hmb hbd
      refine hκ.run 300 ?_
      simp (disch := omega) only [exec_succ, runR_next, runR_fork_true, runR_call, stepS, runOp, condS, toSR, sop, rOf, sLoadIn, sLoad, sInt, sBin, ev, evs, Env.get, Heap.get, takeN, cut, aggOf, OutOK_call, List.size_toArray, List.length_cons, List.length_nil, List.range, List.range.loop, List.getElem?_toArray, List.getElem?_cons_succ, List.getElem?_cons_zero, ↓reduceIte, Nat.reduceAdd, Nat.reduceLT, Nat.reduceEqDiff, Nat.zero_add, decide_true, gl0, Tryd.sz26, Tryd.ag26, e0]
      refine Does.ret hκ.hP hκ.hgl (c2) ⟨trivial, by simp [SV.bnd, SV.bndL], by first | (simp [SV.bnd, SV.bndL]; done) | assumption⟩ ?_
      refine hκ.run 300 ?_
      simp (disch := omega) only [exec_succ, runR_next, runR_call, stepS, runOp, toSR, sop, rOf, ev, evs, Env.get, setO, OutOK_call, List.size_toArray, List.length_cons, List.length_nil, List.range, List.range.loop, List.getElem?_toArray, List.getElem?_cons_succ, List.getElem?_cons_zero, ↓reduceIte, Nat.reduceAdd, Nat.reduceLT, Nat.zero_add, gl0]
      refine Does.ret hκ.hP hκ.hgl ((list_ok s (by omega)).toRd) ⟨trivial, by simp [SV.bnd, SV.bndL], by first | (simp [SV.bnd, SV.bndL]; done) | assumption⟩ ?_
      refine hκ.run 300 ?_
      simp (disch := omega) only [sBuiltin, exec_succ, runR_next, runR_stop, stepS, runOp, toSR, sop, rOf, sLen, ev, Env.get, setO, OutOK_stop, List.length_map, List.getElem?_toArray, List.getElem?_cons_succ, List.getElem?_cons_zero, ↓reduceIte, Nat.reduceLT, gl0, Tryd.underlying47]
      refine Sat.less (Sat.loop (γ := Nat) (fun j => ([(22, I j), (21, I (bits s).length), (20, .rd 1 ((bits s).map (eI .i64))), (4, I i), (5, S s), (13, I i), (12, I p.length), (11, .rd 1 (p.map eS)), (1, .ptr 0 0 0 0), (3, I (totP (p.take i)))], [(0, .own [.rd 1 (p.map eS)] 26)], 1)) (fun j => (bits s).length - j) (fun j => j ≤ (bits s).length) ?round2 0 (Nat.zero_le _)) (by repeat' (first | exact EnvSub.nil _ | exact HeapSub.nil _ | refine EnvSub.cons rfl ?_ | refine HeapSub.cons rfl ?_ | (refine EnvSub.cons (by simp [Env.get]; done) ?_) | (refine HeapSub.cons (by simp [Heap.get]; done) ?_))) (by repeat' (first | exact EnvSub.nil _ | exact HeapSub.nil _ | refine EnvSub.cons rfl ?_ | refine HeapSub.cons rfl ?_ | (refine EnvSub.cons (by simp [Env.get]; done) ?_) | (refine HeapSub.cons (by simp [Heap.get]; done) ?_)))
      case round2 =>
        intro j hj ih2
        dsimp only at hj ih2 ⊢
        by_cases hjl : j < (bits s).length
        · have e1 : ((j : Int) < (bits s).length) = True := by simp only [eq_iff_iff, iff_true]; omega
          have hz2 := ih2 (j + 1) (by omega) (by omega)
          have hm := getD_mem (l := bits s) hjl
          have hb := hbd _ hm
          have hof := hown _ (hmb _ hm)
          have c3 := of_ok p ((bits s).getD j default) hx ⟨by omega, by omega⟩ (by omega)
          rw [show ofV p ((bits s).getD j default) = ((i : Int), true) by rw [ofV, if_pos hk, hof]] at c3
          refine hκ.run 300 ?_
          simp (disch := omega) only [exec_succ, runR_next, runR_need, runR_fork_true, runR_call, stepS, runOp, condS, toSR, sop, rOf, sLoadIn, sLoad, sInt, sBin, sIndexAddr, elemT, obind, ev, evs, Env.get, Heap.get, takeN, cut, aggOf, OutOK_need, OutOK_call, List.size_toArray, List.length_cons, List.length_nil, List.length_map, List.range, List.range.loop, List.getElem?_toArray, List.getElem?_cons_succ, List.getElem?_cons_zero, ↓reduceIte, Nat.reduceAdd, Nat.reduceLT, Nat.reduceEqDiff, Nat.zero_add, Int.toNat_natCast, decide_true, and_true, getD_map, eI, gl0, Tryd.sz3, Tryd.ag3, Tryd.sz26, Tryd.ag26, Tryd.underlying47, e1]
          (repeat (refine ⟨by first | omega | (refine ⟨?_, ?_⟩ <;> omega) | trivial | (simp; done) | decide +kernel, fun _ => ?_⟩))
          refine Does.ret hκ.hP hκ.hgl (c3) ⟨trivial, by simp [SV.bnd, SV.bndL], by first | (simp [SV.bnd, SV.bndL]; done) | assumption⟩ ?_
          refine hκ.run 300 ?_
          simp (disch := omega) only [exec_succ, runR_next, runR_fork_false, runR_guard_ff, runR_stop, stepS, runOp, guardS, condS, toSR, sop, rOf, sPick, sInt, sBin, sUn, sExtract, ev, Env.get, setO, OutOK_stop, undefS, undef, List.size_toArray, List.length_cons, List.length_nil, List.range, List.range.loop, List.getElem?_toArray, List.getElem?_cons_succ, List.getElem?_cons_zero, Option.bind_some, ↓reduceIte, Nat.reduceAdd, Nat.reduceLT, Nat.reduceEqDiff, Nat.zero_add, Bool.not_true, Bool.not_false, decide_true, and_self, wrap_i64, gl0]
          exact hz2.less (by repeat' (first | exact EnvSub.nil _ | exact HeapSub.nil _ | refine EnvSub.cons rfl ?_ | refine HeapSub.cons rfl ?_ | (refine EnvSub.cons (by simp [Env.get]; done) ?_) | (refine HeapSub.cons (by simp [Heap.get]; done) ?_))) (by repeat' (first | exact EnvSub.nil _ | exact HeapSub.nil _ | refine EnvSub.cons rfl ?_ | refine HeapSub.cons rfl ?_ | (refine EnvSub.cons (by simp [Env.get]; done) ?_) | (refine HeapSub.cons (by simp [Heap.get]; done) ?_)))
        · have e1 : ((j : Int) < (bits s).length) = False := by simp only [eq_iff_iff, iff_false]; omega
          have e2 : ((s : Int) = 0) = False := by simp only [eq_iff_iff, iff_false]; omega
          refine hκ.run 300 ?_
          simp (disch := omega) only [exec_succ, runR_next, runR_fork_false, runR_call, stepS, runOp, condS, goS, toSR, sop, rOf, sInt, sBin, ev, evs, Env.get, exitTo, OutOK_call, List.size_toArray, List.length_cons, List.length_nil, List.range, List.range.loop, List.getElem?_toArray, List.getElem?_cons_succ, List.getElem?_cons_zero, ↓reduceIte, Nat.reduceAdd, Nat.reduceLT, Nat.reduceEqDiff, Nat.zero_add, decide_false, beq_self_eq_true, gl0, e1, e2]
          refine Does.ret hκ.hP hκ.hgl (count_ok s (by omega)) ⟨trivial, by simp [SV.bnd, SV.bndL], by first | (simp [SV.bnd, SV.bndL]; done) | assumption⟩ ?_
          rw [show cnt s = (bits s).length from rfl]
          refine hκ.run 300 ?_
          simp (disch := omega) only [exec_succ, runR_next, runR_stop, stepS, runOp, toSR, sop, rOf, sInt, sBin, ev, Env.get, setO, OutOK_stop, List.size_toArray, List.length_cons, List.length_nil, List.range, List.range.loop, List.getElem?_toArray, List.getElem?_cons_succ, List.getElem?_cons_zero, ↓reduceIte, Nat.reduceAdd, Nat.reduceLT, Nat.reduceEqDiff, Nat.zero_add, wrap_i64, gl0]
          exact hz.less (by repeat' (first | exact EnvSub.nil _ | exact HeapSub.nil _ | refine EnvSub.cons rfl ?_ | refine HeapSub.cons rfl ?_ | (refine EnvSub.cons (by simp [Env.get]; done) ?_) | (refine HeapSub.cons (by simp [Heap.get]; done) ?_))) (by repeat' (first | exact EnvSub.nil _ | exact HeapSub.nil _ | refine EnvSub.cons rfl ?_ | refine HeapSub.cons rfl ?_ | (refine EnvSub.cons (by simp [Env.get]; done) ?_) | (refine HeapSub.cons (by simp [Heap.get]; done) ?_)))
    · obtain rfl : i = p.length := by omega
      have e0 : ((p.length : Int) < p.length) = False := by simp
      have ha := allV_lt hk
      rw [List.take_length]
      refine hκ.run 300 ?_
      simp (disch := omega) only [exec_succ, runR_next, runR_fork_false, runR_call, stepS, runOp, condS, goS, toSR, sop, rOf, sLoadIn, sLoad, sInt, sBin, ev, evs, Env.get, Heap.get, takeN, cut, aggOf, exitTo, OutOK_call, List.size_toArray, List.length_cons, List.length_nil, List.range, List.range.loop, List.getElem?_toArray, List.getElem?_cons_succ, List.getElem?_cons_zero, ↓reduceIte, Nat.reduceAdd, Nat.reduceLT, Nat.reduceEqDiff, Nat.zero_add, decide_false, beq_self_eq_true, gl0, Tryd.sz26, Tryd.ag26, e0]
      refine Does.ret hκ.hP hκ.hgl (cpus_ok p hx (by omega)) ⟨trivial, by simp [SV.bnd, SV.bndL], by first | (simp [SV.bnd, SV.bndL]; done) | assumption⟩ ?_
      refine hκ.run 300 ?_
      simp (disch := omega) only [exec_succ, runR_call, stepS, runOp, ev, evs, Env.get, setO, OutOK_call, List.getElem?_toArray, List.getElem?_cons_succ, List.getElem?_cons_zero, ↓reduceIte, Nat.reduceLT, gl0]
      refine Does.ret hκ.hP hκ.hgl (count_ok (allV p) (by omega)) ⟨trivial, by simp [SV.bnd, SV.bndL], by first | (simp [SV.bnd, SV.bndL]; done) | assumption⟩ ?_
      rw [cnt_allV hk]
      refine hκ.run 300 ?_
      simp (disch := omega) only [exec_succ, runR_next, runR_guard_tt, runR_call, stepS, runOp, guardS, toSR, sop, rOf, sLoadIn, sLoad, sInt, sBin, ev, evs, Env.get, Heap.get, takeN, cut, aggOf, setO, OutOK_call, undefS, undef, List.getElem?_toArray, List.getElem?_cons_succ, List.getElem?_cons_zero, Option.bind_some, ↓reduceIte, Nat.reduceLT, Nat.reduceEqDiff, Bool.not_true, decide_true, and_self, gl0, Tryd.sz26, Tryd.ag26]
      refine Does.ret hκ.hP hκ.hgl (c1) ⟨trivial, by simp [SV.bnd, SV.bndL], by first | (simp [SV.bnd, SV.bndL]; done) | assumption⟩ ?_
      refine hκ.run 300 ?_
      simp (disch := omega) only [exec_succ, runR_next, runR_guard_tt, runR_stop, stepS, runOp, guardS, toSR, sop, rOf, sPick, sInt, sBin, ev, Env.get, setO, OutOK_stop, undefS, undef, List.getElem?_toArray, List.getElem?_cons_succ, List.getElem?_cons_zero, Option.bind_some, ↓reduceIte, Nat.reduceLT, Nat.reduceEqDiff, Bool.not_true, decide_true, and_self, gl0]
      refine hκ.ret _ _ _ _ _ _ trivial rfl ?_
      exact .ret trivial
end Go.Proofs.YtfhiaddbpacgeaaDoor
