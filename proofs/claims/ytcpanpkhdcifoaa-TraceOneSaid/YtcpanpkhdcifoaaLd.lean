/- The walk of the law TraceSums. No condition. -/
import Derived.Test.YtcpanpkhdcifoaaLc
namespace Go.Proofs.Ytcpanpkhdcifoaa
open Go Go.Sy
set_option maxRecDepth 100000
set_option linter.unusedSimpArgs false
set_option linter.unusedVariables false

theorem pushS_all {p : Spn → Prop} {S : List Spn} {c a u : Int} (h : ∀ s ∈ S, p s) (h1 : p (c, a, u)) (h2 : ∀ s ∈ S, p (s.1, s.2.1, u)) : ∀ s ∈ pushS S c a u, p s := by
  intro s hs
  rcases List.eq_nil_or_concat S with rfl | ⟨S', s', rfl⟩
  · rw [pushS_nil] at hs
    obtain rfl := List.mem_singleton.1 hs
    exact h1
  · rw [List.concat_eq_append] at hs h h2
    rw [pushS_snoc] at hs
    split at hs
    · rcases List.mem_append.1 hs with hs | hs
      · exact h s (List.mem_append_left _ hs)
      · obtain rfl := List.mem_singleton.1 hs
        exact h2 s' (by simp)
    · rcases List.mem_append.1 hs with hs | hs
      · exact h s hs
      · obtain rfl := List.mem_singleton.1 hs
        exact h1
/-- Spans are times. -/
theorem spansK_bd {fs : List Fr} {en : Int} (h : RT fs en) (v : Int) : ∀ k, k ≤ fs.length → ∀ s ∈ spansK fs en v k, 0 ≤ s.2.1 ∧ s.2.2 ≤ 1125899906842624
  | 0, _, s, hs => by cases hs
  | k + 1, hk, s, hs => by
    have ih := spansK_bd h v k (by omega)
    have hu := h.until (k := k) (by omega)
    have ha := h.at0 k (by omega)
    have hM := h.en1
    rw [spansK] at hs
    split at hs
    · exact ih s hs
    · exact pushS_all (p := fun s => 0 ≤ s.2.1 ∧ s.2.2 ≤ 1125899906842624) ih ⟨ha, by dsimp only; omega⟩ (fun s hs => ⟨(ih s hs).1, by dsimp only; omega⟩) s hs
/-- Sums of the first ones. -/
def preS (S : List Spn) (j : Nat) : Int := sumI ((S.take j).map fun s => s.2.2 - s.2.1)
theorem preS_suc {S : List Spn} {j : Nat} (hj : j < S.length) : preS S (j + 1) = preS S j + ((S.getD j default).2.2 - (S.getD j default).2.1) := by
  rw [preS, take_getD hj, List.map_append, List.map_cons, List.map_nil, sumI_snoc]; rfl
theorem preS_mono {S : List Spn} (h : ∀ s ∈ S, s.2.1 < s.2.2) : ∀ d j, j + d ≤ S.length → preS S j ≤ preS S (j + d)
  | 0, _, _ => Int.le_refl _
  | d + 1, j, hd => by
    have ih := preS_mono h d j (by omega)
    have := h _ (getD_mem (show j + d < S.length by omega))
    rw [show j + (d + 1) = (j + d) + 1 by omega, preS_suc (by omega)]
    omega
theorem preS_all (S : List Spn) : preS S S.length = sumI (S.map fun s => s.2.2 - s.2.1) := by rw [preS, List.take_length]
theorem preS_bd {S : List Spn} (h : ∀ s ∈ S, s.2.1 < s.2.2) (j : Nat) (hj : j ≤ S.length) : 0 ≤ preS S j ∧ preS S j ≤ sumI (S.map fun s => s.2.2 - s.2.1) := by
  constructor
  · have := preS_mono h j 0 (by omega)
    rw [Nat.zero_add] at this
    exact this
  · have := preS_mono h (S.length - j) j (by omega)
    rw [show j + (S.length - j) = S.length by omega, preS_all] at this
    exact this
/-- So many of them added. -/
def sumN (f : Int → Int) (b : Int) : Nat → Int
  | 0 => 0
  | k + 1 => sumN f b k + f (k + b)
theorem sumN_bd {f : Int → Int} {b m : Int} (h : ∀ x, 0 ≤ f x ∧ f x ≤ m) : ∀ k : Nat, 0 ≤ sumN f b k ∧ sumN f b k ≤ k * m
  | 0 => by simp [sumN]
  | k + 1 => by
    have ih := sumN_bd h k (b := b)
    have := h (k + b)
    rw [sumN, Int.natCast_add, Int.add_mul]
    omega
theorem sumN_16 (f : Int → Int) : sumN f 1 16 = sumI ([(1 : Int), 2, 3, 4, 5, 6, 7, 8, 9, 10, 11, 12, 13, 14, 15, 16].map f) := by
  simp only [sumN, List.map_cons, List.map_nil, sumI]
  simp only [show (((0 : Nat) : Int) + 1) = 1 from rfl, show (((1 : Nat) : Int) + 1) = 2 from rfl, show (((2 : Nat) : Int) + 1) = 3 from rfl, show (((3 : Nat) : Int) + 1) = 4 from rfl, show (((4 : Nat) : Int) + 1) = 5 from rfl, show (((5 : Nat) : Int) + 1) = 6 from rfl, show (((6 : Nat) : Int) + 1) = 7 from rfl, show (((7 : Nat) : Int) + 1) = 8 from rfl, show (((8 : Nat) : Int) + 1) = 9 from rfl, show (((9 : Nat) : Int) + 1) = 10 from rfl, show (((10 : Nat) : Int) + 1) = 11 from rfl, show (((11 : Nat) : Int) + 1) = 12 from rfl, show (((12 : Nat) : Int) + 1) = 13 from rfl, show (((13 : Nat) : Int) + 1) = 14 from rfl, show (((14 : Nat) : Int) + 1) = 15 from rfl, show (((15 : Nat) : Int) + 1) = 16 from rfl]
  omega
theorem sumN_8 (f : Int → Int) : sumN f 0 8 = sumI ([(0 : Int), 1, 2, 3, 4, 5, 6, 7].map f) := by
  simp only [sumN, List.map_cons, List.map_nil, sumI]
  simp only [show (((0 : Nat) : Int) + 0) = 0 from rfl, show (((1 : Nat) : Int) + 0) = 1 from rfl, show (((2 : Nat) : Int) + 0) = 2 from rfl, show (((3 : Nat) : Int) + 0) = 3 from rfl, show (((4 : Nat) : Int) + 0) = 4 from rfl, show (((5 : Nat) : Int) + 0) = 5 from rfl, show (((6 : Nat) : Int) + 0) = 6 from rfl, show (((7 : Nat) : Int) + 0) = 7 from rfl]
  omega
theorem sums_law (fs : List Fr) (en now : Int) (hf : ∀ f ∈ fs, inFr f) (he : i64 en) (hw : i64 now) (hn : fs.length < 2 ^ 46) : Law Try.prog gl0 4 [Tr fs en, I now] := by
  refine Law.of (nt := 142) (res := [.tmp 4]) Try.mixed Try.func4 rfl rfl rfl rfl fun κ xc hκ => hκ.run 300 ?_
  simp (disch := omega) only [exec_succ, runR_next, runR_call, stepS, runOp, toSR, sop, rOf, rNew, sBox, isArr, ev, evs, Env.get, cellsS, envOf, OutOK_call, Bool.false_eq_true, List.size_toArray, List.length_cons, List.length_nil, List.range, List.range.loop, List.getElem?_toArray, List.getElem?_cons_succ, List.getElem?_cons_zero, ↓reduceIte, Nat.reduceAdd, Nat.reduceLT, Nat.zero_add, gl0]
  refine Does.ret hκ.hP hκ.hgl (wakes_ok) ⟨trivial, by simp [SV.bnd, SV.bndL], by first | (simp [SV.bnd, SV.bndL]; done) | assumption⟩ ?_
  refine hκ.run 300 ?_
  simp (disch := omega) only [exec_succ, runR_next, runR_fork_false, runR_call, stepS, runOp, condS, toSR, sop, rOf, sLoadIn, sLoad, sUn, ev, evs, Env.get, Heap.get, takeN, cut, aggOf, setO, OutOK_call, List.size_toArray, List.length_cons, List.length_nil, List.range, List.range.loop, List.getElem?_toArray, List.getElem?_cons_succ, List.getElem?_cons_zero, ↓reduceIte, Nat.reduceAdd, Nat.reduceLT, Nat.reduceEqDiff, Nat.zero_add, Bool.not_true, gl0, Try.sz24, Try.ag24]
  refine Does.ret hκ.hP hκ.hgl (over_ok fs en hf hn) ⟨trivial, by simp [SV.bnd, SV.bndL], by first | (simp [SV.bnd, SV.bndL]; done) | assumption⟩ ?_
  cases ho : overT fs
  case true =>
    refine hκ.run 300 ?_
    simp (disch := omega) only [exec_succ, runR_next, runR_fork_true, runR_guard_tf, runR_stop, stepS, runOp, guardS, condS, toSR, sop, rOf, sPick, sLoadIn, sLoad, sEq, sEqR, sBin, ev, evs, Env.get, Heap.get, takeN, cut, aggOf, setO, OutOK_stop, undefS, undef, List.size_toArray, List.length_cons, List.length_nil, List.range, List.range.loop, List.getElem?_toArray, List.getElem?_cons_succ, List.getElem?_cons_zero, Option.bind_some, ↓reduceIte, Nat.reduceLT, Nat.reduceEqDiff, Nat.zero_add, Bool.not_false, and_self, gl0, Try.sz24, Try.ag24]
    refine hκ.ret _ _ _ _ _ _ trivial rfl ?_
    rfl
  obtain ⟨hn3, hs3⟩ := overT_no ho
  have hs : ∀ f ∈ fs, f.2.length < 2 ^ 40 := fun f hf => by have := hs3 f hf; omega
  have c0 := check_ok fs en hf he hn
  refine hκ.run 300 ?_
  simp (disch := omega) only [exec_succ, runR_next, runR_guard_ff, runR_call, stepS, runOp, guardS, toSR, sop, rOf, sLoadIn, sLoad, ev, evs, Env.get, Heap.get, takeN, cut, aggOf, setO, OutOK_call, undefS, undef, List.getElem?_toArray, List.getElem?_cons_succ, List.getElem?_cons_zero, Option.bind_some, ↓reduceIte, Nat.reduceLT, Nat.reduceEqDiff, Bool.not_false, and_self, gl0, Try.sz24, Try.ag24]
  by_cases hr : rightT fs en = true
  case neg =>
    rw [if_neg hr] at c0
    refine Does.ret hκ.hP hκ.hgl (c0) ⟨trivial, by simp [SV.bnd, SV.bndL], by first | (simp [SV.bnd, SV.bndL]; done) | assumption⟩ ?_
    refine hκ.run 300 ?_
    simp (disch := omega) only [exec_succ, runR_next, runR_fork_true, runR_guard_ff, runR_stop, stepS, runOp, guardS, condS, toSR, sop, rOf, sPick, sInt, sBin, ev, Env.get, setO, OutOK_stop, undefS, undef, List.size_toArray, List.length_cons, List.length_nil, List.range, List.range.loop, List.getElem?_toArray, List.getElem?_cons_succ, List.getElem?_cons_zero, Option.bind_some, ↓reduceIte, Nat.reduceLT, Nat.reduceEqDiff, Nat.zero_add, Int.reduceEq, Bool.not_false, decide_false, and_self, gl0]
    refine hκ.ret _ _ _ _ _ _ trivial rfl ?_
    rfl
  rw [if_pos hr] at c0
  have hrt := (RT.iff fs en).1 hr
  refine Does.ret hκ.hP hκ.hgl (c0) ⟨trivial, by simp [SV.bnd, SV.bndL], by first | (simp [SV.bnd, SV.bndL]; done) | assumption⟩ ?_
  refine hκ.run 300 ?_
  simp (disch := omega) only [sBuiltin, sMinMax, exec_succ, runR_next, runR_fork_false, runR_guard_ff, runR_stop, stepS, runOp, guardS, condS, toSR, sop, rOf, sPick, sInt, sBin, ev, Env.get, setO, OutOK_stop, undefS, undef, Bool.false_eq_true, List.size_toArray, List.length_cons, List.length_nil, List.range, List.range.loop, List.getElem?_toArray, List.getElem?_cons_succ, List.getElem?_cons_zero, List.map_cons, List.map_nil, Option.bind_some, ↓reduceIte, Nat.reduceAdd, Nat.reduceLT, Nat.reduceEqDiff, Nat.zero_add, Bool.not_true, Bool.not_false, decide_true, and_self, reduceCtorEq, gl0]
  obtain ⟨N, hN⟩ : ∃ N, max (min now 1125899906842624) 0 = N := ⟨_, rfl⟩
  have hN0 : 0 ≤ N ∧ N ≤ 1125899906842624 := by omega
  rw [hN]
  have q0 : longE fs en 0 1125899906842624 = 0 := by rw [longE, if_pos hr, if_pos ⟨rfl, rfl, by decide⟩]
  have q1 : longE fs en 0 N = 0 := by rw [longE, if_pos hr, if_pos ⟨rfl, (timeB_iff N).2 hN0, hN0.1⟩]
  have q2 : longE fs en N 1125899906842624 = 0 := by rw [longE, if_pos hr, if_pos ⟨(timeB_iff N).2 hN0, rfl, hN0.2⟩]
  have hbd : ∀ q : Pt → Bool, ∀ f t, 0 ≤ longT fs en f t q ∧ longT fs en f t q ≤ 337769972052787200 := fun q f t => by
    have := longK_bd hrt f t q fs.length (Nat.le_refl _)
    unfold longT
    omega
  have hV := sumN_bd (b := 1) fun v : Int => hbd (fun p => decide (p.1 = v)) 0 1125899906842624
  have hC := sumN_bd (b := 0) fun v : Int => hbd (fun p => decide (p.2 = v)) 0 1125899906842624
  refine Sat.less (Sat.loop (γ := Nat) (fun k => ([(7, I (k + 1 : Nat)), (5, I (sumN (fun v => longT fs en 0 1125899906842624 fun p => decide (p.1 = v)) 1 k)), (6, I 0), (1, I N), (2, .ptr 0 0 0 0)], [(0, .own [Fs fs, I en] 24)], 1)) (fun k => 16 - k) (fun k => k ≤ 16) ?round 0 (Nat.zero_le _)) (by repeat' (first | exact EnvSub.nil _ | exact HeapSub.nil _ | refine EnvSub.cons rfl ?_ | refine HeapSub.cons rfl ?_ | (refine EnvSub.cons (by simp [Env.get]; done) ?_) | (refine HeapSub.cons (by simp [Heap.get]; done) ?_))) (by repeat' (first | exact EnvSub.nil _ | exact HeapSub.nil _ | refine EnvSub.cons rfl ?_ | refine HeapSub.cons rfl ?_ | (refine EnvSub.cons (by simp [Env.get]; done) ?_) | (refine HeapSub.cons (by simp [Heap.get]; done) ?_)))
  case round =>
    intro k hk ih
    dsimp only at ih ⊢
    refine hκ.run 300 ?_
    simp (disch := omega) only [exec_succ, runR_next, stepS, runOp, condS, toSR, sop, rOf, sInt, sBin, ev, Env.get, Int.cast_ofNat_Int, Int.natCast_add, List.size_toArray, List.length_cons, List.length_nil, List.range, List.range.loop, List.getElem?_toArray, List.getElem?_cons_succ, List.getElem?_cons_zero, ↓reduceIte, Nat.reduceAdd, Nat.reduceLT, Nat.zero_add, gl0]
    refine OutOK_fork (fun h => ?_) (fun h => ?_) <;> try simp only [Bool.not_true, Bool.not_false, decide_eq_true_eq, decide_eq_false_iff_not, Bool.not_eq_true', Bool.not_eq_false', Bool.and_eq_true, Bool.or_eq_false_iff, Bool.or_eq_true, Bool.and_eq_false_iff] at h
    · have hz := ih (k + 1) (by omega) (by omega)
      have hvk := hV k
      have c1 := ran_ok fs en (k + 1 : Nat) 0 1125899906842624 hf he (by omega) (by decide) (by decide) hn
      have c2 := ran_ok fs en (k + 1 : Nat) 0 N hf he (by omega) (by decide) (by omega) hn
      have c3 := ran_ok fs en (k + 1 : Nat) N 1125899906842624 hf he (by omega) (by omega) (by decide) hn
      have c4 := tspans_ok fs en (k + 1 : Nat) hf hs he (by omega) hn
      have c5 := moves_ok fs en (k + 1 : Nat) hf hs he (by omega) hn
      rw [q0, if_pos rfl] at c1
      rw [q1, if_pos rfl] at c2
      rw [q2, if_pos rfl] at c3
      have hsp := longK_split hrt (fun p => decide (p.1 = ((k + 1 : Nat) : Int))) hN0.1 hN0.2 fs.length (Nat.le_refl _)
      have hb1 := hbd (fun p => decide (p.1 = ((k + 1 : Nat) : Int))) 0 1125899906842624
      have hb2 := hbd (fun p => decide (p.1 = ((k + 1 : Nat) : Int))) 0 N
      have hb3 := hbd (fun p => decide (p.1 = ((k + 1 : Nat) : Int))) N 1125899906842624
      have hSI := SI.of hrt (k + 1 : Nat) fs.length (Nat.le_refl _)
      have hSb := spansK_bd hrt (k + 1 : Nat) fs.length (Nat.le_refl _)
      have hSl := spansK_len fs en (k + 1 : Nat) fs.length
      rw [show spansT fs en (k + 1 : Nat) = spansK fs en (k + 1 : Nat) fs.length by rw [spansT, if_pos hr]] at c4 c5
      generalize spansK fs en (k + 1 : Nat) fs.length = S at c4 c5 hSI hSb hSl
      rw [sumN, show ((k : Int) + 1) = ((k + 1 : Nat) : Int) by omega] at hz
      change longT fs en 0 N _ + longT fs en N 1125899906842624 _ = longT fs en 0 1125899906842624 _ at hsp
      have hSlen : sumI (S.map fun s => s.2.2 - s.2.1) = longT fs en 0 1125899906842624 (fun p => decide (p.1 = ((k + 1 : Nat) : Int))) := hSI.len
      generalize sumN _ 1 k = R at hz hvk ⊢
      generalize longT fs en 0 1125899906842624 (fun p => decide (p.1 = ((k + 1 : Nat) : Int))) = L0 at hz c1 hsp hb1 hSlen
      generalize longT fs en 0 N (fun p => decide (p.1 = ((k + 1 : Nat) : Int))) = L1 at c2 hsp hb2
      generalize longT fs en N 1125899906842624 (fun p => decide (p.1 = ((k + 1 : Nat) : Int))) = L2 at c3 hsp hb3
      simp (disch := omega) only [exec_succ, runR_next, runR_call, stepS, runOp, toSR, sop, rOf, sLoadIn, sLoad, ev, evs, Env.get, Heap.get, takeN, cut, aggOf, OutOK_call, List.size_toArray, List.length_cons, List.length_nil, List.range, List.range.loop, List.getElem?_toArray, List.getElem?_cons_succ, List.getElem?_cons_zero, ↓reduceIte, Nat.reduceAdd, Nat.reduceLT, Nat.reduceEqDiff, Nat.zero_add, Try.sz24, Try.ag24]
      refine Does.ret hκ.hP hκ.hgl (c1) ⟨trivial, by simp [SV.bnd, SV.bndL], by first | (simp [SV.bnd, SV.bndL]; done) | assumption⟩ ?_
      refine hκ.run 300 ?_
      simp (disch := omega) only [exec_succ, runR_next, runR_call, stepS, runOp, toSR, sop, rOf, sLoadIn, sLoad, sExtract, ev, evs, Env.get, Heap.get, takeN, cut, aggOf, setO, OutOK_call, List.size_toArray, List.length_cons, List.length_nil, List.range, List.range.loop, List.getElem?_toArray, List.getElem?_cons_succ, List.getElem?_cons_zero, ↓reduceIte, Nat.reduceAdd, Nat.reduceLT, Nat.reduceEqDiff, Nat.zero_add, gl0, Try.sz24, Try.ag24]
      refine Does.ret hκ.hP hκ.hgl (c2) ⟨trivial, by simp [SV.bnd, SV.bndL], by first | (simp [SV.bnd, SV.bndL]; done) | assumption⟩ ?_
      refine hκ.run 300 ?_
      simp (disch := omega) only [exec_succ, runR_next, runR_call, stepS, runOp, toSR, sop, rOf, sLoadIn, sLoad, sExtract, ev, evs, Env.get, Heap.get, takeN, cut, aggOf, setO, OutOK_call, List.size_toArray, List.length_cons, List.length_nil, List.range, List.range.loop, List.getElem?_toArray, List.getElem?_cons_succ, List.getElem?_cons_zero, ↓reduceIte, Nat.reduceAdd, Nat.reduceLT, Nat.reduceEqDiff, Nat.zero_add, gl0, Try.sz24, Try.ag24]
      refine Does.ret hκ.hP hκ.hgl (c3) ⟨trivial, by simp [SV.bnd, SV.bndL], by first | (simp [SV.bnd, SV.bndL]; done) | assumption⟩ ?_
      have e12 : L1 + L2 = L0 := hsp
      have e0 : ((movK S S.length : Int) < 0) = False := by first | (simp only [eq_iff_iff, iff_false]; first | assumption | omega) | (simp; omega)
      refine hκ.run 300 ?_
      simp (disch := omega) only [exec_succ, runR_next, runR_fork_false, runR_guard_ff, runR_call, stepS, runOp, guardS, condS, toSR, sop, rOf, sPick, sLoadIn, sLoad, sInt, sBin, sExtract, ev, evs, Env.get, Heap.get, takeN, cut, aggOf, setO, OutOK_call, undefS, undef, List.size_toArray, List.length_cons, List.length_nil, List.range, List.range.loop, List.getElem?_toArray, List.getElem?_cons_succ, List.getElem?_cons_zero, Option.bind_some, ↓reduceIte, Nat.reduceAdd, Nat.reduceLT, Nat.reduceEqDiff, Nat.zero_add, Bool.not_true, Bool.not_false, decide_true, and_self, wrap_i64, gl0, Try.sz24, Try.ag24, e12]
      refine Does.ret hκ.hP hκ.hgl (c4) ⟨trivial, by simp [SV.bnd, SV.bndL], by first | (simp [SV.bnd, SV.bndL]; done) | assumption⟩ ?_
      refine hκ.run 300 ?_
      simp (disch := omega) only [sBuiltin, exec_succ, runR_next, runR_stop, stepS, runOp, toSR, sop, rOf, sLen, ev, Env.get, setO, OutOK_stop, List.length_map, List.getElem?_toArray, List.getElem?_cons_succ, List.getElem?_cons_zero, ↓reduceIte, Nat.reduceLT, gl0, Try.underlying39]
      refine Sat.less (Sat.loop (γ := Nat) (fun j => ([(80, I j), (79, I S.length), (78, .rd 3 (S.map eN)), (14, I (preS S j)), (8, I L0), (7, I (k + 1 : Nat)), (5, I (R + L0)), (6, I 0), (1, I N), (2, .ptr 0 0 0 0)], [(0, .own [Fs fs, I en] 24)], 1)) (fun j => S.length - j) (fun j => j ≤ S.length) ?round2 0 (Nat.zero_le _)) (by repeat' (first | exact EnvSub.nil _ | exact HeapSub.nil _ | refine EnvSub.cons rfl ?_ | refine HeapSub.cons rfl ?_ | (refine EnvSub.cons (by simp [Env.get]; done) ?_) | (refine HeapSub.cons (by simp [Heap.get]; done) ?_))) (by repeat' (first | exact EnvSub.nil _ | exact HeapSub.nil _ | refine EnvSub.cons rfl ?_ | refine HeapSub.cons rfl ?_ | (refine EnvSub.cons (by simp [Env.get]; done) ?_) | (refine HeapSub.cons (by simp [Heap.get]; done) ?_)))
      case round2 =>
        intro j hj ih2
        dsimp only at ih2 ⊢
        refine hκ.run 300 ?_
        simp (disch := omega) only [exec_succ, runR_next, stepS, runOp, condS, toSR, sop, sInt, sBin, ev, Env.get, Int.cast_ofNat_Int, Int.natCast_add, List.size_toArray, List.length_cons, List.length_nil, List.range, List.range.loop, List.getElem?_toArray, List.getElem?_cons_zero, ↓reduceIte, Nat.reduceLT, Nat.reduceEqDiff, Nat.zero_add, gl0]
        refine OutOK_fork (fun h => ?_) (fun h => ?_) <;> try simp only [Bool.not_true, Bool.not_false, decide_eq_true_eq, decide_eq_false_iff_not, Bool.not_eq_true', Bool.not_eq_false', Bool.and_eq_true, Bool.or_eq_false_iff, Bool.or_eq_true, Bool.and_eq_false_iff] at h
        · have hz2 := ih2 (j + 1) (by omega) (by omega)
          have hsm := getD_mem (show j < S.length by omega)
          have s1 := hSI.lt _ hsm
          obtain ⟨s2, s3⟩ := hSb _ hsm
          have hp0 := preS_bd hSI.lt j hj
          have hp1 := preS_bd hSI.lt (j + 1) (by omega)
          rw [preS_suc (by omega)] at hz2 hp1
          have gk : (List.map eN S).getD j [] = eN (S.getD j default) := getD_map _ _ _ (by omega)
          have f1 : ((S.getD j default).2.2 ≤ (S.getD j default).2.1) = False := by first | (simp only [eq_iff_iff, iff_false]; first | assumption | omega) | (simp; omega)
          simp (disch := omega) only [allQuiet, quietOp, drawS, exec_succ, runR_next, runR_need, runR_stop, stepS, runOp, toSR, sop, rOf, rNew, sAlloc, sAlloc0, sLoad, sStoreIn, sStore, sIndexAddr, elemT, obind, ev, svs, Env.get, Heap.get, Heap.set, takeN, cut, over, paste, aggOf, cellsS, one, ones, Value.oneCell', OutOK_need, OutOK_stop, Option.isNone_none, Option.isNone_some, undefS, undef, Bool.and_true, Bool.and_false, List.size_toArray, List.length_cons, List.length_nil, List.length_map, List.range, List.range.loop, List.getElem?_toArray, List.getElem?_cons_succ, List.getElem?_cons_zero, List.map_cons, List.map_nil, ↓reduceIte, Nat.reduceAdd, Nat.reduceLT, Nat.reduceEqDiff, Nat.zero_add, Int.toNat_natCast, true_and, and_self, forall_const, getD_map, Try.underlying39, Try.sz42, Try.ag42, Try.ze42, Try.ar42, eN]
          (repeat (refine ⟨by first | omega | (refine ⟨?_, ?_⟩ <;> omega) | trivial | (simp; done) | decide +kernel, fun _ => ?_⟩))
          by_cases h0 : j = 0
          · have g0 : ((0 : Int) < (j : Int)) = False := by first | (simp only [eq_iff_iff, iff_false]; first | assumption | omega) | (simp; omega)
            refine hκ.draw (.q 0 (.q 1 (.q 2 (.q 3 (.q 4 (.q 5 (.q 6 (.q 7 (.q 8 (.q 9 (.q 10 (.q 12 (.q 13 (.q 17 (.q 18 (.l 11 [1, 3, 18] (.q 14 (.q 15 (.q 16 (.q 19 (.q 20 (.q 21 (.fin))))))))))))))))))))))) [0, 1, 2, 3, 4, 5, 6, 7, 8, 9, 10, 12, 13, 14, 15, 16, 17, 18, 19, 20, 21] (by kernel_rfl) (by kernel_rfl) rfl ?_
            simp (disch := omega) only [sop, rOf, sPick, sLoadIn, sLoad, sInt, sBin, sFieldAddr, ev, Env.get, Heap.get, takeN, cut, aggOf, setO, drawP_fin, drawP_q, drawP_l, dq, dqn, dl, slotR, ag, GF.ff, GF.ft, guardP, R1Q, dstOK, again, again1, slotIs, R1OK, undefS, undef, List.getElem?_toArray, List.getElem?_cons_succ, List.getElem?_cons_zero, Option.bind_some, ↓reduceIte, Nat.reduceLT, Nat.reduceEqDiff, Nat.zero_add, Nat.add_one_ne_zero, decide_false, true_and, and_self, gl0, Try.sz2, Try.ag2, Try.fd42f1, Try.fd42f2, f1, g0]
            refine hκ.run 300 ?_
            simp (disch := omega) only [exec_succ, runR_next, runR_fork_false, runR_stop, stepS, runOp, condS, toSR, sop, rOf, sLoadIn, sLoad, sInt, sBin, sFieldAddr, ev, Env.get, Heap.get, takeN, cut, aggOf, OutOK_stop, List.size_toArray, List.length_cons, List.length_nil, List.range, List.range.loop, List.getElem?_toArray, List.getElem?_cons_succ, List.getElem?_cons_zero, ↓reduceIte, Nat.reduceAdd, Nat.reduceLT, Nat.reduceEqDiff, Nat.zero_add, Nat.add_one_ne_zero, wrap_i64, gl0, Try.sz2, Try.ag2, Try.fd42f1, Try.fd42f2]
            refine Sat.via (fun i => i) (hz2) (by intro i j; (repeat (first | omega | split))) (by repeat' (first | exact EnvVia.nil | refine EnvVia.cons (by first | trivial | decide | (simp [SV.bnd, SV.bndL]; done)) rfl ?_)) (by repeat' (first | exact HeapVia.nil | refine HeapVia.cons (by decide) (by first | trivial | (simp [Blk.bnd, SV.bnd, SV.bndL]; done) | exact bndL_mapV _ _ _ | exact LR.bnd (by rw [l2]; simp [bndE, SV.bnd, SV.bndL]) (by rw [l6]; decide)) (by first | rfl | (simp only [Blk.ren, renL_mapV]; rfl) | (rw [LR.ren (by rw [l2] <;> rfl) (by rw [l6] <;> rfl)]; rfl)) ?_)) ⟨by have := hκ.hm; (try dsimp only at this); (first | done | omega), fun i hi => by have := hκ.hm; (try dsimp only at this); (first | omega | (dsimp only; omega) | (rw [if_neg (by omega)]))⟩ ⟨by simp, rfl⟩
          · have g0 : ((0 : Int) < (j : Int)) = True := by first | (simp only [eq_iff_iff, iff_true]; first | assumption | omega) | (simp; omega)
            have hj1 : (j : Int) - 1 = ((j - 1 : Nat) : Int) := by omega
            have hord := List.pairwise_iff_getElem.1 hSI.ord (j - 1) j (by omega) (by omega) (by omega)
            rw [← getD_get, ← getD_get] at hord
            have g1 : ((S.getD j default).2.1 < (S.getD (j - 1) default).2.2) = False := by first | (simp only [eq_iff_iff, iff_false]; first | assumption | omega) | (simp; omega)
            refine hκ.draw (.q 0 (.q 1 (.q 2 (.q 3 (.q 4 (.q 5 (.q 6 (.q 7 (.q 8 (.q 9 (.q 10 (.q 12 (.q 13 (.q 17 (.q 18 (.l 11 [1, 3, 18] (.q 14 (.q 15 (.q 16 (.q 19 (.q 20 (.q 21 (.fin))))))))))))))))))))))) [0, 1, 2, 3, 4, 5, 6, 7, 8, 9, 10, 12, 13, 14, 15, 16, 17, 18, 19, 20, 21] (by kernel_rfl) (by kernel_rfl) rfl ?_
            simp (disch := omega) only [sop, rOf, sLoadIn, sLoad, sInt, sBin, sFieldAddr, ev, evs, Env.get, Heap.get, takeN, cut, aggOf, setO, drawP_q, drawP_l, dq, dqn, dl, GF.tt, GF.ff, guardP, R1Q, dstOK, loudP, List.getElem?_toArray, List.getElem?_cons_succ, List.getElem?_cons_zero, Option.bind_some, ↓reduceIte, Nat.reduceLT, Nat.reduceEqDiff, Nat.zero_add, Nat.add_one_ne_zero, decide_true, decide_false, true_and, wrap_i64, gl0, Try.sz2, Try.ag2, Try.sz24, Try.ag24, Try.fd42f1, Try.fd42f2, f1, g0, hj1]
            refine DCall.of (Does.ret hκ.hP hκ.hgl (c4) ⟨trivial, by simp [SV.bnd, SV.bndL], by first | (simp [SV.bnd, SV.bndL]; done) | assumption⟩ ?_)
            simp (disch := omega) only [sop, rOf, sLoadIn, sLoad, sFieldAddr, sIndexAddr, elemT, obind, ev, Env.get, Heap.get, takeN, cut, aggOf, setO, drawP_q, dnext, dq, dqn, slotR, ag, GF.tt, guardP, R1Q, dstOK, again, again1, slotIs, R1OK, List.length_map, List.getElem?_toArray, List.getElem?_cons_succ, List.getElem?_cons_zero, Option.bind_some, ↓reduceIte, Nat.reduceLT, Nat.reduceEqDiff, Nat.zero_add, Nat.add_one_ne_zero, Int.toNat_natCast, true_and, and_self, getD_map, Try.sz2, Try.ag2, Try.underlying39, Try.sz42, Try.fd42f2]
            simp (disch := omega) only [sop, rOf, sPick, sInt, sBin, ev, Env.get, takeN, cut, setO, drawP_fin, drawP_q, dq, dqn, GF.tt, GF.ff, guardP, R1Q, dstOK, List.getElem?_toArray, List.getElem?_cons_succ, List.getElem?_cons_zero, Option.bind_some, ↓reduceIte, Nat.reduceLT, Nat.reduceEqDiff, decide_false, true_and, eN, g1]
            (repeat (refine ⟨by first | omega | (refine ⟨?_, ?_⟩ <;> omega) | trivial | (simp; done) | decide +kernel, fun _ => ?_⟩))
            refine hκ.run 300 ?_
            simp (disch := omega) only [exec_succ, runR_next, runR_fork_false, runR_stop, stepS, runOp, condS, toSR, sop, rOf, sLoadIn, sLoad, sInt, sBin, sFieldAddr, ev, Env.get, Heap.get, takeN, cut, aggOf, OutOK_stop, List.size_toArray, List.length_cons, List.length_nil, List.range, List.range.loop, List.getElem?_toArray, List.getElem?_cons_succ, List.getElem?_cons_zero, ↓reduceIte, Nat.reduceAdd, Nat.reduceLT, Nat.reduceEqDiff, Nat.zero_add, Nat.add_one_ne_zero, wrap_i64, gl0, Try.sz2, Try.ag2, Try.fd42f1, Try.fd42f2]
            refine Sat.via (fun i => i) (hz2) (by intro i j; (repeat (first | omega | split))) (by repeat' (first | exact EnvVia.nil | refine EnvVia.cons (by first | trivial | decide | (simp [SV.bnd, SV.bndL]; done)) rfl ?_)) (by repeat' (first | exact HeapVia.nil | refine HeapVia.cons (by decide) (by first | trivial | (simp [Blk.bnd, SV.bnd, SV.bndL]; done) | exact bndL_mapV _ _ _ | exact LR.bnd (by rw [l2]; simp [bndE, SV.bnd, SV.bndL]) (by rw [l6]; decide)) (by first | rfl | (simp only [Blk.ren, renL_mapV]; rfl) | (rw [LR.ren (by rw [l2] <;> rfl) (by rw [l6] <;> rfl)]; rfl)) ?_)) ⟨by have := hκ.hm; (try dsimp only at this); (first | done | omega), fun i hi => by have := hκ.hm; (try dsimp only at this); (first | omega | (dsimp only; omega) | (rw [if_neg (by omega)]))⟩ ⟨by simp, rfl⟩
        · simp (disch := omega) only [exec_succ, runR_next, stepS, runOp, guardS, goS, toSR, sop, rOf, sLoadIn, sLoad, sInt, sBin, ev, Env.get, Heap.get, takeN, cut, aggOf, exitTo, undefS, undef, List.size_toArray, List.length_cons, List.length_nil, List.range, List.range.loop, List.getElem?_toArray, List.getElem?_cons_succ, List.getElem?_cons_zero, Option.bind_some, ↓reduceIte, Nat.reduceAdd, Nat.reduceLT, Nat.reduceEqDiff, Nat.zero_add, Bool.not_false, beq_self_eq_true, and_self, Try.sz24, Try.ag24]
          obtain rfl : j = S.length := by omega
          rw [preS_all, hSlen]
          simp (disch := omega) only [exec_succ, runR_next, runR_guard_ff, runR_call, stepS, runOp, guardS, toSR, sop, rOf, ev, evs, Env.get, OutOK_call, undefS, undef, List.getElem?_toArray, List.getElem?_cons_succ, List.getElem?_cons_zero, Option.bind_some, ↓reduceIte, Nat.reduceLT, Nat.reduceEqDiff, Bool.not_true, Bool.not_false, decide_true, and_self]
          refine Does.ret hκ.hP hκ.hgl (c5) ⟨trivial, by simp [SV.bnd, SV.bndL], by first | (simp [SV.bnd, SV.bndL]; done) | assumption⟩ ?_
          refine hκ.run 300 ?_
          simp (disch := omega) only [exec_succ, runR_next, runR_fork_false, runR_guard_ff, runR_stop, stepS, runOp, guardS, condS, toSR, sop, rOf, sPick, sInt, sBin, ev, Env.get, setO, OutOK_stop, undefS, undef, List.size_toArray, List.length_cons, List.length_nil, List.range, List.range.loop, List.getElem?_toArray, List.getElem?_cons_succ, List.getElem?_cons_zero, Option.bind_some, ↓reduceIte, Nat.reduceAdd, Nat.reduceLT, Nat.reduceEqDiff, Nat.zero_add, Bool.not_false, decide_false, and_self, wrap_i64, gl0, e0]
          refine Sat.via (fun i => i) (hz) (by intro i j; (repeat (first | omega | split))) (by repeat' (first | exact EnvVia.nil | refine EnvVia.cons (by first | trivial | decide | (simp [SV.bnd, SV.bndL]; done)) rfl ?_)) (by repeat' (first | exact HeapVia.nil | refine HeapVia.cons (by decide) (by first | trivial | (simp [Blk.bnd, SV.bnd, SV.bndL]; done) | exact bndL_mapV _ _ _ | exact LR.bnd (by rw [l2]; simp [bndE, SV.bnd, SV.bndL]) (by rw [l6]; decide)) (by first | rfl | (simp only [Blk.ren, renL_mapV]; rfl) | (rw [LR.ren (by rw [l2] <;> rfl) (by rw [l6] <;> rfl)]; rfl)) ?_)) ⟨by have := hκ.hm; (try dsimp only at this); (first | done | omega), fun i hi => by have := hκ.hm; (try dsimp only at this); (first | omega | (dsimp only; omega) | (rw [if_neg (by omega)]))⟩ ⟨by simp, rfl⟩
    · simp (disch := omega) only [exec_succ, runR_next, runR_stop, stepS, runOp, goS, toSR, sop, rOf, ev, exitTo, OutOK_stop, List.size_toArray, List.length_cons, List.length_nil, List.range, List.range.loop, List.getElem?_toArray, List.getElem?_cons_zero, ↓reduceIte, Nat.reduceLT, Nat.zero_add, beq_self_eq_true]
      obtain rfl : k = 16 := by omega
      have hall := long_all hrt 0 1125899906842624
      rw [← sumN_16 (fun v => longT fs en 0 1125899906842624 fun p => decide (p.1 = v)), ← sumN_8 (fun v => longT fs en 0 1125899906842624 fun p => decide (p.2 = v))] at hall
      generalize sumN (fun v => longT fs en 0 1125899906842624 fun p => decide (p.1 = v)) 1 16 = R0 at hall ⊢
      refine hκ.run 300 ?_
      simp (disch := omega) only [exec_succ, runR_stop, stepS, OutOK_stop, Int.cast_ofNat_Int, Int.reduceAdd, Int.reduceLE, decide_false, gl0]
      refine Sat.less (Sat.loop (γ := Nat) (fun j => ([(124, I j), (5, I R0), (6, I (sumN (fun v => longT fs en 0 1125899906842624 fun p => decide (p.2 = v)) 0 j)), (2, .ptr 0 0 0 0)], [(0, .own [Fs fs, I en] 24)], 1)) (fun j => 8 - j) (fun j => j ≤ 8) ?round3 0 (Nat.zero_le _)) (by repeat' (first | exact EnvSub.nil _ | exact HeapSub.nil _ | refine EnvSub.cons rfl ?_ | refine HeapSub.cons rfl ?_ | (refine EnvSub.cons (by simp [Env.get]; done) ?_) | (refine HeapSub.cons (by simp [Heap.get]; done) ?_))) (by repeat' (first | exact EnvSub.nil _ | exact HeapSub.nil _ | refine EnvSub.cons rfl ?_ | refine HeapSub.cons rfl ?_ | (refine EnvSub.cons (by simp [Env.get]; done) ?_) | (refine HeapSub.cons (by simp [Heap.get]; done) ?_)))
      case round3 =>
        intro j hj ih3
        dsimp only at ih3 ⊢
        refine hκ.run 300 ?_
        simp (disch := omega) only [exec_succ, runR_next, stepS, runOp, condS, toSR, sop, sInt, sBin, ev, Env.get, List.size_toArray, List.length_cons, List.length_nil, List.range, List.range.loop, List.getElem?_toArray, List.getElem?_cons_zero, ↓reduceIte, Nat.reduceLT, Nat.zero_add, gl0]
        refine OutOK_fork (fun h => ?_) (fun h => ?_) <;> try simp only [Bool.not_true, Bool.not_false, decide_eq_true_eq, decide_eq_false_iff_not, Bool.not_eq_true', Bool.not_eq_false', Bool.and_eq_true, Bool.or_eq_false_iff, Bool.or_eq_true, Bool.and_eq_false_iff] at h
        · have hz := ih3 (j + 1) (by omega) (by omega)
          have c1 := busy_ok fs en j 0 1125899906842624 hf he (by omega) (by decide) (by decide) hn
          rw [q0, if_pos rfl] at c1
          have hvk := hC j
          have hb1 := hbd (fun p => decide (p.2 = (j : Int))) 0 1125899906842624
          rw [sumN, Int.add_zero] at hz
          generalize sumN _ 0 j = R at hz hvk ⊢
          simp (disch := omega) only [exec_succ, runR_next, runR_call, stepS, runOp, toSR, sop, rOf, sLoadIn, sLoad, ev, evs, Env.get, Heap.get, takeN, cut, aggOf, OutOK_call, List.size_toArray, List.length_cons, List.length_nil, List.range, List.range.loop, List.getElem?_toArray, List.getElem?_cons_succ, List.getElem?_cons_zero, ↓reduceIte, Nat.reduceAdd, Nat.reduceLT, Nat.reduceEqDiff, Nat.zero_add, Try.sz24, Try.ag24]
          refine Does.ret hκ.hP hκ.hgl (c1) ⟨trivial, by simp [SV.bnd, SV.bndL], by first | (simp [SV.bnd, SV.bndL]; done) | assumption⟩ ?_
          refine hκ.run 300 ?_
          simp (disch := omega) only [exec_succ, runR_next, runR_fork_false, runR_stop, stepS, runOp, condS, toSR, sop, rOf, sInt, sBin, sExtract, ev, Env.get, setO, OutOK_stop, List.size_toArray, List.length_cons, List.length_nil, List.range, List.range.loop, List.getElem?_toArray, List.getElem?_cons_succ, List.getElem?_cons_zero, ↓reduceIte, Nat.reduceAdd, Nat.reduceLT, Nat.reduceEqDiff, Nat.zero_add, Bool.not_true, decide_true, wrap_i64, gl0]
          refine Sat.via (fun i => i) (hz) (by intro i j; (repeat (first | omega | split))) (by repeat' (first | exact EnvVia.nil | refine EnvVia.cons (by first | trivial | decide | (simp [SV.bnd, SV.bndL]; done)) rfl ?_)) (by repeat' (first | exact HeapVia.nil | refine HeapVia.cons (by decide) (by first | trivial | (simp [Blk.bnd, SV.bnd, SV.bndL]; done) | exact bndL_mapV _ _ _ | exact LR.bnd (by rw [l2]; simp [bndE, SV.bnd, SV.bndL]) (by rw [l6]; decide)) (by first | rfl | (simp only [Blk.ren, renL_mapV]; rfl) | (rw [LR.ren (by rw [l2] <;> rfl) (by rw [l6] <;> rfl)]; rfl)) ?_)) ⟨by have := hκ.hm; (try dsimp only at this); (first | done | omega), fun i hi => by have := hκ.hm; (try dsimp only at this); (first | omega | (dsimp only; omega) | (rw [if_neg (by omega)]))⟩ ⟨by simp, rfl⟩
        · simp (disch := omega) only [exec_succ, runR_next, runR_stop, stepS, runOp, goS, toSR, sop, rOf, sInt, sBin, ev, Env.get, exitTo, OutOK_stop, List.size_toArray, List.length_cons, List.length_nil, List.range, List.range.loop, List.getElem?_toArray, List.getElem?_cons_succ, List.getElem?_cons_zero, ↓reduceIte, Nat.reduceAdd, Nat.reduceLT, Nat.reduceEqDiff, Nat.zero_add, beq_self_eq_true]
          obtain rfl : j = 8 := by omega
          rw [← hall]
          refine hκ.run 300 ?_
          simp (disch := omega) only [exec_succ, runR_stop, stepS, OutOK_stop, Int.cast_ofNat_Int, Int.reduceLT, decide_true, decide_false, gl0]
          refine hκ.ret _ _ _ _ _ _ trivial rfl ?_
          rfl
end Go.Proofs.Ytcpanpkhdcifoaa
