/- The walk of the law TraceOne. No condition. -/
import Derived.Test.YtcpanpkhdcifoaaLe
namespace Go.Proofs.Ytcpanpkhdcifoaa
open Go Go.Sy
set_option maxRecDepth 100000
set_option linter.unusedSimpArgs false
set_option linter.unusedVariables false

theorem cutK_rows {fs : List Fr} {en f t : Int} {q : List Pt → Prop} (hf : ∀ f ∈ fs, q f.2) : ∀ k, k ≤ fs.length → ∀ x ∈ (cutK fs en f t k).1, q x.2
  | 0, _, x, hx => by cases hx
  | k + 1, hk, x, hx => by
    rw [cutK] at hx
    split at hx
    · rcases List.mem_append.1 hx with hx | hx
      · exact cutK_rows hf k (by omega) x hx
      · obtain rfl := List.mem_singleton.1 hx
        exact hf (fs.getD k default) (getD_mem (show k < fs.length by omega))
    · exact cutK_rows hf k (by omega) x hx
/-- Does a span hold at a time, on a pCPU? -/
def inSpn (n c : Int) (s : Spn) : Bool := decide (s.2.1 ≤ n) && (decide (n < s.2.2) && decide (s.1 = c))
/-- The picture at a time, and what spans say of it. -/
theorem pic_at {fs : List Fr} {en : Int} (h : RT fs en) (n : Int) : OP ((atP fs en n).getD []) ∧ ((atP fs en n).getD []).length ≤ 2 ^ 62 ∧ (∀ p ∈ (atP fs en n).getD [], ∃ f ∈ fs, p ∈ f.2) ∧ ∀ p ∈ (atP fs en n).getD [], (spansT fs en p.1).any (inSpn n p.2) = true := by
  cases hp : atP fs en n with
  | none => exact ⟨⟨by simp, by simp, by simp, by simp, .nil, .nil⟩, by simp, by simp, by simp⟩
  | some l =>
    obtain ⟨i, h1, h2, h3, rfl⟩ := (atP_iff h l).1 hp
    have hop := OP.of (h.pic i h1)
    refine ⟨hop, ?_, fun p hp => ⟨_, getD_mem h1, hp⟩, fun p hp => ?_⟩
    · have hb : (pT fs i).length ≤ 16 := by
        have hv := vcpus_in hop
        have := sumI_keys (fun p => p.1) 1 [(1 : Int), 2, 3, 4, 5, 6, 7, 8, 9, 10, 11, 12, 13, 14, 15, 16] (by decide) _ hv.1 hv.2
        simp only [List.map_cons, List.map_nil, sumI] at this
        have hh : ∀ b : Bool, (if b = true then (1 : Int) else 0) ≤ 1 := fun b => by cases b <;> decide
        have h1 := hh ((pT fs i).any fun p => decide (p.1 = 1))
        have h2 := hh ((pT fs i).any fun p => decide (p.1 = 2))
        have h3 := hh ((pT fs i).any fun p => decide (p.1 = 3))
        have h4 := hh ((pT fs i).any fun p => decide (p.1 = 4))
        have h5 := hh ((pT fs i).any fun p => decide (p.1 = 5))
        have h6 := hh ((pT fs i).any fun p => decide (p.1 = 6))
        have h7 := hh ((pT fs i).any fun p => decide (p.1 = 7))
        have h8 := hh ((pT fs i).any fun p => decide (p.1 = 8))
        have h9 := hh ((pT fs i).any fun p => decide (p.1 = 9))
        have h10 := hh ((pT fs i).any fun p => decide (p.1 = 10))
        have h11 := hh ((pT fs i).any fun p => decide (p.1 = 11))
        have h12 := hh ((pT fs i).any fun p => decide (p.1 = 12))
        have h13 := hh ((pT fs i).any fun p => decide (p.1 = 13))
        have h14 := hh ((pT fs i).any fun p => decide (p.1 = 14))
        have h15 := hh ((pT fs i).any fun p => decide (p.1 = 15))
        have h16 := hh ((pT fs i).any fun p => decide (p.1 = 16))
        simp only [Int.one_mul] at this
        omega
      exact Nat.le_trans hb (by decide)
    · rw [spansT, if_pos ((RT.iff fs en).2 h)]
      have hon := onP_of hop.vs hp
      obtain ⟨s, hs, s1, s2, s3⟩ := (SI.of h p.1 fs.length (Nat.le_refl _)).cov i h1 n h2 h3 (by rw [hon]; exact hop.c0 p hp)
      rw [List.any_eq_true]
      refine ⟨s, hs, ?_⟩
      rw [inSpn, decide_eq_true s1, decide_eq_true s2, decide_eq_true (s3.trans hon)]; rfl
theorem one_law (fs : List Fr) (en cu : Int) (ns : List Int) (hf : ∀ f ∈ fs, inFr f) (he : i64 en) (hc : i64 cu) (hns : ∀ n ∈ ns, i64 n) (hn : fs.length < 2 ^ 46) (hnn : ns.length < 2 ^ 62) : Law Try.prog gl0 7 [Tr fs en, .rd 1 (ns.map (eI .i64)), I cu] := by
  refine Law.of (nt := 157) (res := [.tmp 6]) Try.mixed Try.func7 rfl rfl rfl rfl fun κ xc hκ => hκ.run 300 ?_
  simp (disch := omega) only [exec_succ, runR_next, runR_call, stepS, runOp, toSR, sop, rOf, rNew, sBox, isArr, ev, evs, Env.get, cellsS, envOf, OutOK_call, Bool.false_eq_true, List.size_toArray, List.length_cons, List.length_nil, List.range, List.range.loop, List.getElem?_toArray, List.getElem?_cons_succ, List.getElem?_cons_zero, ↓reduceIte, Nat.reduceAdd, Nat.reduceLT, Nat.zero_add, gl0]
  refine Does.ret hκ.hP hκ.hgl (wakes_ok) ⟨trivial, by simp [SV.bnd, SV.bndL], by first | (simp [SV.bnd, SV.bndL]; done) | assumption⟩ ?_
  refine hκ.run 300 ?_
  simp (disch := omega) only [exec_succ, runR_next, runR_fork_false, runR_call, stepS, runOp, condS, toSR, sop, rOf, sLoadIn, sLoad, sUn, ev, evs, Env.get, Heap.get, takeN, cut, aggOf, setO, OutOK_call, List.size_toArray, List.length_cons, List.length_nil, List.range, List.range.loop, List.getElem?_toArray, List.getElem?_cons_succ, List.getElem?_cons_zero, ↓reduceIte, Nat.reduceAdd, Nat.reduceLT, Nat.reduceEqDiff, Nat.zero_add, Bool.not_true, gl0, Try.sz24, Try.ag24]
  refine Does.ret hκ.hP hκ.hgl (over_ok fs en hf hn) ⟨trivial, by simp [SV.bnd, SV.bndL], by first | (simp [SV.bnd, SV.bndL]; done) | assumption⟩ ?_
  cases ho : overT fs
  case true =>
    refine hκ.run 300 ?_
    simp (disch := omega) only [exec_succ, runR_next, runR_fork_true, runR_guard_tf, runR_stop, stepS, runOp, guardS, condS, toSR, sop, rOf, sPick, sLoadIn, sLoad, sEq, sEqR, sBin, ev, evs, Env.get, Heap.get, takeN, cut, aggOf, setO, OutOK_stop, undefS, undef, List.size_toArray, List.length_cons, List.length_nil, List.range, List.range.loop, List.getElem?_toArray, List.getElem?_cons_succ, List.getElem?_cons_zero, Option.bind_some, ↓reduceIte, Nat.reduceLT, Nat.reduceEqDiff, Nat.zero_add, Bool.not_false, and_self, gl0, Try.sz24, Try.ag24]
    refine hκ.ret _ _ _ _ _ _ trivial rfl ?_
    rfl
  obtain ⟨hn3, hs3⟩ := overT_no ho
  have hs : ∀ f ∈ fs, f.2.length < 2 ^ 40 := fun f hf => by have := hs3 f hf; omega
  have c0 := check_ok fs en hf he hn
  refine hκ.run 300 ?_
  simp (disch := omega) only [exec_succ, runR_next, runR_guard_ff, runR_call, stepS, runOp, guardS, toSR, sop, rOf, sLoadIn, sLoad, ev, evs, Env.get, Heap.get, takeN, cut, aggOf, setO, OutOK_call, undefS, undef, List.getElem?_toArray, List.getElem?_cons_succ, List.getElem?_cons_zero, Option.bind_some, ↓reduceIte, Nat.reduceLT, Nat.reduceEqDiff, Bool.not_false, and_self, gl0, Try.sz24, Try.ag24]
  by_cases hr : rightT fs en = true
  case neg =>
    rw [if_neg hr] at c0
    refine Does.ret hκ.hP hκ.hgl (c0) ⟨trivial, by simp [SV.bnd, SV.bndL], by first | (simp [SV.bnd, SV.bndL]; done) | assumption⟩ ?_
    refine hκ.run 300 ?_
    simp (disch := omega) only [exec_succ, runR_next, runR_fork_true, runR_guard_ff, runR_stop, stepS, runOp, guardS, condS, toSR, sop, rOf, sPick, sInt, sBin, ev, Env.get, setO, OutOK_stop, undefS, undef, List.size_toArray, List.length_cons, List.length_nil, List.range, List.range.loop, List.getElem?_toArray, List.getElem?_cons_succ, List.getElem?_cons_zero, Option.bind_some, ↓reduceIte, Nat.reduceLT, Nat.reduceEqDiff, Nat.zero_add, Int.reduceEq, Bool.not_false, decide_false, and_self, gl0]
    refine hκ.ret _ _ _ _ _ _ trivial rfl ?_
    rfl
  rw [if_pos hr] at c0
  have hrt := (RT.iff fs en).1 hr
  refine Does.ret hκ.hP hκ.hgl (c0) ⟨trivial, by simp [SV.bnd, SV.bndL], by first | (simp [SV.bnd, SV.bndL]; done) | assumption⟩ ?_
  refine hκ.run 300 ?_
  simp (disch := omega) only [sBuiltin, sMinMax, exec_succ, runR_next, runR_fork_false, runR_guard_ff, runR_call, stepS, runOp, guardS, condS, toSR, sop, rOf, sPick, sLoadIn, sLoad, sInt, sBin, ev, evs, Env.get, Heap.get, takeN, cut, aggOf, setO, OutOK_call, undefS, undef, Bool.false_eq_true, List.size_toArray, List.length_cons, List.length_nil, List.range, List.range.loop, List.getElem?_toArray, List.getElem?_cons_succ, List.getElem?_cons_zero, List.map_cons, List.map_nil, Option.bind_some, ↓reduceIte, Nat.reduceAdd, Nat.reduceLT, Nat.reduceEqDiff, Nat.zero_add, Bool.not_true, Bool.not_false, decide_true, and_self, reduceCtorEq, gl0, Try.sz24, Try.ag24]
  obtain ⟨N, hN⟩ : ∃ N, max (min cu 1125899906842624) 0 = N := ⟨_, rfl⟩
  have hN0 : 0 ≤ N ∧ N ≤ 1125899906842624 := by omega
  rw [hN]
  have q1 : longE fs en 0 N = 0 := by rw [longE, if_pos hr, if_pos ⟨rfl, (timeB_iff N).2 hN0, hN0.1⟩]
  have q2 : longE fs en N 1125899906842624 = 0 := by rw [longE, if_pos hr, if_pos ⟨(timeB_iff N).2 hN0, rfl, hN0.2⟩]
  have c1 := cut_ok fs en 0 N hf hs he (by decide) (by omega) hn
  have c2 := cut_ok fs en N 1125899906842624 hf hs he (by omega) (by decide) hn
  rw [q1, if_pos rfl, if_pos rfl] at c1
  rw [q2, if_pos rfl, if_pos rfl] at c2
  have hA := cut_rt (f := 0) (t := N) hrt (by omega) hN0.2
  have hB := cut_rt (f := N) (t := 1125899906842624) hrt hN0.1 (by omega)
  have hAf : ∀ x ∈ (cutT fs en 0 N).1, inFr x := cutK_mem hf (by decide) fs.length (Nat.le_refl _)
  have hBf : ∀ x ∈ (cutT fs en N 1125899906842624).1, inFr x := cutK_mem hf (by omega) fs.length (Nat.le_refl _)
  have hAs : ∀ x ∈ (cutT fs en 0 N).1, x.2.length < 2 ^ 40 := cutK_rows (q := fun l => l.length < 2 ^ 40) hs fs.length (Nat.le_refl _)
  have hBs : ∀ x ∈ (cutT fs en N 1125899906842624).1, x.2.length < 2 ^ 40 := cutK_rows (q := fun l => l.length < 2 ^ 40) hs fs.length (Nat.le_refl _)
  have htwo := fun n => cut_two hrt hN0.1 hN0.2 n
  generalize cutT fs en 0 N = A at c1 hA hAf hAs htwo
  generalize cutT fs en N 1125899906842624 = B at c2 hB hBf hBs htwo
  obtain ⟨A, EA⟩ := A
  obtain ⟨B, EB⟩ := B
  dsimp only at c1 c2 hA hB hAf hBf hAs hBs htwo
  have hAl := hA.len
  have hBl := hB.len
  have heA : i64 EA := by have := hA.en0; have := hA.en1; omega
  have heB : i64 EB := by have := hB.en0; have := hB.en1; omega
  have c3 := check_ok A EA hAf heA (by omega)
  have c4 := check_ok B EB hBf heB (by omega)
  rw [if_pos ((RT.iff A EA).2 hA)] at c3
  rw [if_pos ((RT.iff B EB).2 hB)] at c4
  refine Does.ret hκ.hP hκ.hgl (c1) ⟨trivial, by simp [SV.bnd, SV.bndL], by first | (simp [SV.bnd, SV.bndL]; done) | assumption⟩ ?_
  refine hκ.run 300 ?_
  simp (disch := omega) only [exec_succ, runR_next, runR_need, runR_call, stepS, runOp, toSR, sop, rOf, rNew, sAlloc, sAlloc0, sLoadIn, sLoad, sStoreIn, sStore, sExtract, ev, evs, svs, Env.get, Heap.get, Heap.set, takeN, cut, over, paste, aggOf, cellsS, one, ones, setO, Value.oneCell', OutOK_need, OutOK_call, undefS, undef, List.size_toArray, List.length_cons, List.length_nil, List.range, List.range.loop, List.getElem?_toArray, List.getElem?_cons_succ, List.getElem?_cons_zero, List.map_cons, List.map_nil, ↓reduceIte, Nat.reduceAdd, Nat.reduceLT, Nat.reduceEqDiff, Nat.zero_add, Nat.add_one_ne_zero, true_and, and_self, forall_const, gl0, Try.sz24, Try.ag24, Try.ze24, Try.ar24]
  refine Does.ret hκ.hP hκ.hgl (c2) ⟨trivial, by simp [SV.bnd, SV.bndL], by first | (simp [SV.bnd, SV.bndL]; done) | assumption⟩ ?_
  refine hκ.run 300 ?_
  simp (disch := omega) only [exec_succ, runR_next, runR_need, runR_guard_ff, runR_call, stepS, runOp, guardS, toSR, sop, rOf, rNew, sPick, sAlloc, sAlloc0, sLoadIn, sLoad, sStoreIn, sStore, sInt, sBin, sExtract, ev, evs, svs, Env.get, Heap.get, Heap.set, takeN, cut, over, paste, aggOf, cellsS, one, ones, setO, Value.oneCell', OutOK_need, OutOK_call, undefS, undef, List.size_toArray, List.length_cons, List.length_nil, List.range, List.range.loop, List.getElem?_toArray, List.getElem?_cons_succ, List.getElem?_cons_zero, List.map_cons, List.map_nil, Option.bind_some, ↓reduceIte, Nat.reduceAdd, Nat.reduceLT, Nat.reduceEqDiff, Nat.zero_add, Bool.not_true, Bool.not_false, decide_true, true_and, and_self, forall_const, gl0, Try.sz24, Try.ag24, Try.ze24, Try.ar24]
  refine Does.ret hκ.hP hκ.hgl (c3) ⟨trivial, by simp [SV.bnd, SV.bndL], by first | (simp [SV.bnd, SV.bndL]; done) | assumption⟩ ?_
  refine hκ.run 300 ?_
  simp (disch := omega) only [exec_succ, runR_next, runR_guard_ff, runR_call, stepS, runOp, guardS, toSR, sop, rOf, sPick, sLoadIn, sLoad, sInt, sBin, ev, evs, Env.get, Heap.get, takeN, cut, aggOf, setO, OutOK_call, undefS, undef, List.getElem?_toArray, List.getElem?_cons_succ, List.getElem?_cons_zero, Option.bind_some, ↓reduceIte, Nat.reduceLT, Nat.reduceEqDiff, Bool.not_true, Bool.not_false, decide_true, and_self, gl0, Try.sz24, Try.ag24]
  refine Does.ret hκ.hP hκ.hgl (c4) ⟨trivial, by simp [SV.bnd, SV.bndL], by first | (simp [SV.bnd, SV.bndL]; done) | assumption⟩ ?_
  refine hκ.run 300 ?_
  simp (disch := omega) only [sBuiltin, exec_succ, runR_next, runR_fork_false, runR_guard_ff, runR_stop, stepS, runOp, guardS, condS, toSR, sop, rOf, sPick, sInt, sBin, sLen, ev, Env.get, setO, OutOK_stop, undefS, undef, List.size_toArray, List.length_cons, List.length_nil, List.length_map, List.range, List.range.loop, List.getElem?_toArray, List.getElem?_cons_succ, List.getElem?_cons_zero, Option.bind_some, ↓reduceIte, Nat.reduceAdd, Nat.reduceLT, Nat.reduceEqDiff, Nat.zero_add, Bool.not_true, Bool.not_false, decide_true, and_self, reduceCtorEq, gl0, Try.underlying61]
  refine Sat.less (Sat.loop (γ := Nat) (fun k => ([(66, I k), (65, I ns.length), (64, .rd 1 (ns.map (eI .i64))), (9, .ptr 2 0 0 0), (7, .ptr 1 0 0 0), (3, .ptr 0 0 0 0), (2, I N)], [(2, .own [Fs B, I EB] 24), (1, .own [Fs A, I EA] 24), (0, .own [Fs fs, I en] 24)], 3)) (fun k => ns.length - k) (fun k => k ≤ ns.length) ?round 0 (Nat.zero_le _)) (by repeat' (first | exact EnvSub.nil _ | exact HeapSub.nil _ | refine EnvSub.cons rfl ?_ | refine HeapSub.cons rfl ?_ | (refine EnvSub.cons (by simp [Env.get]; done) ?_) | (refine HeapSub.cons (by simp [Heap.get]; done) ?_))) (by repeat' (first | exact EnvSub.nil _ | exact HeapSub.nil _ | refine EnvSub.cons rfl ?_ | refine HeapSub.cons rfl ?_ | (refine EnvSub.cons (by simp [Env.get]; done) ?_) | (refine HeapSub.cons (by simp [Heap.get]; done) ?_)))
  case round =>
    intro k hk ih
    dsimp only at ih ⊢
    refine hκ.run 300 ?_
    simp (disch := omega) only [exec_succ, runR_next, stepS, runOp, condS, toSR, sop, sInt, sBin, ev, Env.get, List.size_toArray, List.length_cons, List.length_nil, List.range, List.range.loop, List.getElem?_toArray, List.getElem?_cons_zero, ↓reduceIte, Nat.reduceLT, Nat.reduceEqDiff, Nat.zero_add, gl0]
    refine OutOK_fork (fun h => ?_) (fun h => ?_) <;> try simp only [Bool.not_true, Bool.not_false, decide_eq_true_eq, decide_eq_false_iff_not, Bool.not_eq_true', Bool.not_eq_false', Bool.and_eq_true, Bool.or_eq_false_iff, Bool.or_eq_true, Bool.and_eq_false_iff] at h
    · have hz := ih (k + 1) (by omega) (by omega)
      have hnb := hns _ (getD_mem (show k < ns.length by omega))
      simp (disch := omega) only [exec_succ, runR_next, runR_need, stepS, runOp, condS, toSR, sop, rOf, sLoad, sInt, sBin, sIndexAddr, elemT, obind, ev, Env.get, takeN, cut, aggOf, OutOK_need, List.size_toArray, List.length_cons, List.length_nil, List.length_map, List.range, List.range.loop, List.getElem?_toArray, List.getElem?_cons_succ, List.getElem?_cons_zero, ↓reduceIte, Nat.reduceAdd, Nat.reduceLT, Nat.reduceEqDiff, Nat.zero_add, Int.toNat_natCast, getD_map, eI, Try.sz2, Try.ag2, Try.underlying61]
      (repeat (refine ⟨by first | omega | (refine ⟨?_, ?_⟩ <;> omega) | trivial | (simp; done) | decide +kernel, fun _ => ?_⟩))
      by_cases e30 : k = 30
      · have e1 : ((k : Int) = 30) = True := by first | (simp only [eq_iff_iff, iff_true]; first | assumption | omega) | (simp; omega)
        simp (disch := omega) only [exec_succ, runR_next, runR_fork_true, runR_stop, stepS, runOp, goS, toSR, sop, rOf, ev, exitTo, OutOK_stop, Bool.false_eq_true, List.size_toArray, List.length_cons, List.length_nil, List.range, List.range.loop, List.getElem?_toArray, List.getElem?_cons_zero, ↓reduceIte, Nat.reduceLT, Nat.zero_add, Nat.reduceBEq, decide_true, beq_self_eq_true, e1]
        refine hκ.ret _ _ _ _ _ _ trivial rfl ?_
        rfl
      have e1 : ((k : Int) = 30) = False := by first | (simp only [eq_iff_iff, iff_false]; first | assumption | omega) | (simp; omega)
      simp (disch := omega) only [exec_succ, runR_next, runR_fork_false, runR_call, stepS, runOp, toSR, sop, rOf, sLoadIn, sLoad, ev, evs, Env.get, Heap.get, takeN, cut, aggOf, OutOK_call, List.size_toArray, List.length_cons, List.length_nil, List.range, List.range.loop, List.getElem?_toArray, List.getElem?_cons_succ, List.getElem?_cons_zero, ↓reduceIte, Nat.reduceAdd, Nat.reduceLT, Nat.reduceEqDiff, Nat.zero_add, Nat.add_one_ne_zero, decide_false, Try.sz24, Try.ag24, e1]
      generalize ns.getD k default = n at hnb ⊢
      have c5 := at_ok fs en n hf hs he hnb hn
      have c6 := at_ok A EA n hAf hAs heA hnb (by omega)
      have c7 := at_ok B EB n hBf hBs heB hnb (by omega)
      have htw := htwo n
      obtain ⟨o1, o2, o3, o4⟩ := pic_at hrt n
      have hlp : ∀ p ∈ (atP fs en n).getD [], inPt p := fun p hp => by
        obtain ⟨f, hf1, hf2⟩ := o3 p hp
        exact (hf f hf1).2.1 p hf2
      obtain ⟨there, hth⟩ : ∃ b, (atP fs en n).isSome = b := ⟨_, rfl⟩
      rw [atV, hth] at c5
      obtain ⟨l, hl⟩ : ∃ l, (atP fs en n).getD [] = l := ⟨_, rfl⟩
      rw [hl] at c5 o1 o2 o4 hlp
      apply Sat.join (α := Unit) (nx := 4) (dfs := []) (fun _ => True) (fun _ => ([(16, Ps l), (17, Bo there), (13, Ps l), (14, Bo there), (12, I n), (11, I k), (66, I k), (65, I ns.length), (64, .rd 1 (ns.map (eI .i64))), (9, .ptr 2 0 0 0), (7, .ptr 1 0 0 0), (3, .ptr 0 0 0 0), (2, I N)], [(2, .own [Fs B, I EB] 24), (1, .own [Fs A, I EA] 24), (0, .own [Fs fs, I en] 24)]))
      · intro hj
        have hj := hj () trivial
        dsimp only at hj
        refine Does.ret hκ.hP hκ.hgl (c5) ⟨trivial, by simp [SV.bnd, SV.bndL], by first | (simp [SV.bnd, SV.bndL]; done) | assumption⟩ ?_
        by_cases hlt : n < N
        · rw [if_pos hlt] at htw
          rw [← htw, atV, hth, hl] at c6
          have e2 : (N ≤ n) = False := by first | (simp only [eq_iff_iff, iff_false]; first | assumption | omega) | (simp; omega)
          refine hκ.run 300 ?_
          simp (disch := omega) only [exec_succ, runR_next, runR_need, runR_fork_false, runR_call, stepS, runOp, condS, toSR, sop, rOf, rNew, sAlloc, sAlloc0, sLoadIn, sLoad, sStoreIn, sStore, sInt, sBin, sExtract, ev, evs, svs, Env.get, Heap.get, Heap.set, takeN, cut, over, paste, aggOf, cellsS, one, ones, setO, Value.oneCell', OutOK_need, OutOK_call, undefS, undef, List.size_toArray, List.length_cons, List.length_nil, List.range, List.range.loop, List.getElem?_toArray, List.getElem?_cons_succ, List.getElem?_cons_zero, List.map_cons, List.map_nil, ↓reduceIte, Nat.reduceAdd, Nat.reduceLT, Nat.reduceEqDiff, Nat.zero_add, decide_false, true_and, and_self, forall_const, gl0, Try.sz24, Try.ag24, Try.ze24, Try.ar24, e2]
          refine Does.ret hκ.hP hκ.hgl (c6) ⟨trivial, by simp [SV.bnd, SV.bndL], by first | (simp [SV.bnd, SV.bndL]; done) | assumption⟩ ?_
          refine hκ.runA 19 300 ?_
          simp (disch := omega) only [runR_next, stepS, runOp, toSR, sop, rOf, sExtract, ev, Env.get, setO, OutOK_stop, halt, isAt, atC, execA_succ, List.getElem?_toArray, List.getElem?_cons_succ, List.getElem?_cons_zero, ↓reduceIte, Nat.reduceLT, Nat.reduceEqDiff, beq_self_eq_true, gl0]
          exact hj.less (by repeat' (first | exact EnvSub.nil _ | exact HeapSub.nil _ | refine EnvSub.cons rfl ?_ | refine HeapSub.cons rfl ?_ | (refine EnvSub.cons (by simp [Env.get]; done) ?_) | (refine HeapSub.cons (by simp [Heap.get]; done) ?_))) (by repeat' (first | exact EnvSub.nil _ | exact HeapSub.nil _ | refine EnvSub.cons rfl ?_ | refine HeapSub.cons rfl ?_ | (refine EnvSub.cons (by simp [Env.get]; done) ?_) | (refine HeapSub.cons (by simp [Heap.get]; done) ?_)))
        · rw [if_neg hlt] at htw
          rw [← htw, atV, hth, hl] at c7
          have e2 : (N ≤ n) = True := by first | (simp only [eq_iff_iff, iff_true]; first | assumption | omega) | (simp; omega)
          refine hκ.run 300 ?_
          simp (disch := omega) only [exec_succ, runR_next, runR_need, runR_fork_true, runR_call, stepS, runOp, condS, toSR, sop, rOf, rNew, sAlloc, sAlloc0, sLoadIn, sLoad, sStoreIn, sStore, sInt, sBin, sExtract, ev, evs, svs, Env.get, Heap.get, Heap.set, takeN, cut, over, paste, aggOf, cellsS, one, ones, setO, Value.oneCell', OutOK_need, OutOK_call, undefS, undef, List.size_toArray, List.length_cons, List.length_nil, List.range, List.range.loop, List.getElem?_toArray, List.getElem?_cons_succ, List.getElem?_cons_zero, List.map_cons, List.map_nil, ↓reduceIte, Nat.reduceAdd, Nat.reduceLT, Nat.reduceEqDiff, Nat.zero_add, decide_true, true_and, and_self, forall_const, gl0, Try.sz24, Try.ag24, Try.ze24, Try.ar24, e2]
          refine Does.ret hκ.hP hκ.hgl (c7) ⟨trivial, by simp [SV.bnd, SV.bndL], by first | (simp [SV.bnd, SV.bndL]; done) | assumption⟩ ?_
          refine hκ.runA 19 300 ?_
          simp (disch := omega) only [runR_next, stepS, runOp, toSR, sop, rOf, sExtract, ev, Env.get, setO, OutOK_stop, halt, isAt, atC, execA_succ, List.getElem?_toArray, List.getElem?_cons_succ, List.getElem?_cons_zero, ↓reduceIte, Nat.reduceLT, Nat.reduceEqDiff, beq_self_eq_true, gl0]
          exact hj.less (by repeat' (first | exact EnvSub.nil _ | exact HeapSub.nil _ | refine EnvSub.cons rfl ?_ | refine HeapSub.cons rfl ?_ | (refine EnvSub.cons (by simp [Env.get]; done) ?_) | (refine HeapSub.cons (by simp [Heap.get]; done) ?_))) (by repeat' (first | exact EnvSub.nil _ | exact HeapSub.nil _ | refine EnvSub.cons rfl ?_ | refine HeapSub.cons rfl ?_ | (refine EnvSub.cons (by simp [Env.get]; done) ?_) | (refine HeapSub.cons (by simp [Heap.get]; done) ?_)))
      intro _ _
      refine hκ.run 300 ?_
      simp (disch := omega) only [sBuiltin, sMakeMap, exec_succ, runR_next, runR_need, runR_fork_false, runR_guard_ff, runR_stop, stepS, runOp, guardS, condS, toSR, sop, rOf, rNew, sPick, sInt, sEq, sEqR, sBin, sLen, ev, Env.get, OutOK_need, OutOK_stop, undefS, undef, List.size_toArray, List.length_cons, List.length_nil, List.length_map, List.range, List.range.loop, List.getElem?_toArray, List.getElem?_cons_succ, List.getElem?_cons_zero, Option.bind_some, ↓reduceIte, Nat.reduceAdd, Nat.reduceLT, Nat.reduceEqDiff, Nat.zero_add, Bool.not_true, Bool.not_false, decide_true, beq_self_eq_true, true_and, and_self, forall_const, gl0, Try.underlying4, Try.underlying25, Try.mp63]
      rw [show (fun _ : List Int => (none : Option SV)) = metM (l.take 0) from rfl]
      refine Sat.less (Sat.loop (γ := Nat) (fun j => ([(103, I j), (102, I l.length), (101, Ps l), (18, .mp 4), (16, Ps l), (13, Ps l), (12, I n), (66, I k), (65, I ns.length), (64, .rd 1 (ns.map (eI .i64))), (9, .ptr 2 0 0 0), (7, .ptr 1 0 0 0), (3, .ptr 0 0 0 0), (2, I N)], [(4, .map false [.i64] (metM (l.take j))), (2, .own [Fs B, I EB] 24), (1, .own [Fs A, I EA] 24), (0, .own [Fs fs, I en] 24)], 5)) (fun j => l.length - j) (fun j => j ≤ l.length) ?round2 0 (Nat.zero_le _)) (by repeat' (first | exact EnvSub.nil _ | exact HeapSub.nil _ | refine EnvSub.cons rfl ?_ | refine HeapSub.cons rfl ?_ | (refine EnvSub.cons (by simp [Env.get]; done) ?_) | (refine HeapSub.cons (by simp [Heap.get]; done) ?_))) (by repeat' (first | exact EnvSub.nil _ | exact HeapSub.nil _ | refine EnvSub.cons rfl ?_ | refine HeapSub.cons rfl ?_ | (refine EnvSub.cons (by simp [Env.get]; done) ?_) | (refine HeapSub.cons (by simp [Heap.get]; done) ?_)))
      case round2 =>
        intro j hj ih2
        dsimp only at ih2 ⊢
        refine hκ.runD 300 ?_
        simp (disch := omega) only [runR_next, stepS, runOp, condS, toSR, sop, sInt, sBin, ev, Env.get, halt, isDraw, drawC, execD_succ, List.size_toArray, List.length_cons, List.length_nil, List.range, List.range.loop, List.getElem?_toArray, List.getElem?_cons_zero, ↓reduceIte, Nat.reduceLT, Nat.reduceEqDiff, Nat.zero_add, gl0]
        refine OutOK_fork (fun h => ?_) (fun h => ?_) <;> try simp only [Bool.not_true, Bool.not_false, decide_eq_true_eq, decide_eq_false_iff_not, Bool.not_eq_true', Bool.not_eq_false', Bool.and_eq_true, Bool.or_eq_false_iff, Bool.or_eq_true, Bool.and_eq_false_iff] at h
        · have hz2 := ih2 (j + 1) (by omega) (by omega)
          have hm := getD_mem (show j < l.length by omega)
          obtain ⟨p1, p2⟩ := hlp _ hm
          have hcv := o4 _ hm
          have c8 := tspans_ok fs en (l.getD j default).1 hf hs he p1 hn
          have hSl : (spansT fs en (l.getD j default).1).length ≤ fs.length := by
            rw [spansT, if_pos hr]; exact spansK_len ..
          have hmt := metM_at (l.take j) (l.getD j default).1
          have hno : (l.take j).any (fun p => decide (p.1 = (l.getD j default).1)) = false := by
            rw [List.any_eq_false]
            intro p hp
            obtain ⟨i, hi, e⟩ := List.mem_iff_getElem.1 hp
            rw [List.getElem_take] at e
            rw [List.length_take] at hi
            have := List.pairwise_iff_getElem.1 o1.vs i j (by omega) (by omega) (by omega)
            rw [getD_get (by omega), ← e]
            simpa using this
          rw [hno, if_neg (by simp)] at hmt
          rw [take_getD (by omega), metM_snoc] at hz2
          generalize hgp : l.getD j default = p at p1 p2 hcv c8 hSl hmt hz2
          generalize spansT fs en p.1 = S at hcv c8 hSl
          have gk : (List.map eP l).getD j [] = eP p := by rw [← hgp]; exact getD_map _ _ _ (by omega)
          simp (disch := omega) only [runR_next, runR_need, stepS, runOp, toSR, sop, rOf, rNew, sAlloc, sAlloc0, sLoad, sStoreIn, sStore, sIndexAddr, elemT, obind, ev, svs, Env.get, Heap.get, Heap.set, takeN, cut, over, paste, aggOf, cellsS, one, ones, Value.oneCell', OutOK_need, OutOK_stop, undefS, undef, halt, isDraw, drawC, execD_succ, List.size_toArray, List.length_cons, List.length_nil, List.length_map, List.range, List.range.loop, List.getElem?_toArray, List.getElem?_cons_succ, List.getElem?_cons_zero, List.map_cons, List.map_nil, ↓reduceIte, Nat.reduceAdd, Nat.reduceLT, Nat.reduceEqDiff, Nat.zero_add, Int.toNat_natCast, true_and, and_self, forall_const, getD_map, Try.underlying25, Try.sz51, Try.ag51, Try.ze51, Try.ar51, eP, hgp]
          (repeat (refine ⟨by first | omega | (refine ⟨?_, ?_⟩ <;> omega) | trivial | (simp; done) | decide +kernel, fun _ => ?_⟩))
          refine hκ.draw (.q 0 (.q 1 (.q 2 (.q 3 (.q 4 (.q 5 (.q 6 (.q 7 (.q 8 (.q 9 (.q 10 (.q 11 (.fin))))))))))))) [0, 1, 2, 3, 4, 5, 6, 7, 8, 9, 10, 11] (by kernel_rfl) (by kernel_rfl) rfl ?_
          simp (disch := omega) only [sLookup, sLookupIn, keyS, sop, rOf, sPick, sLoadIn, sLoad, sEqAgg, aggS, eqCells, sBin, sFieldAddr, sIndexAddr, elemT, obind, ev, Env.get, Heap.get, takeN, cut, aggOf, setO, drawP_fin, drawP_q, dq, dqn, GF.ff, guardP, R1Q, dstOK, Bool.true_and, Bool.false_eq_true, List.length_map, List.getElem?_toArray, List.getElem?_cons_succ, List.getElem?_cons_zero, Option.bind_some, Option.map_some, Option.getD_none, ↓reduceIte, Nat.reduceLT, Nat.reduceEqDiff, Nat.add_zero, Nat.add_one_ne_zero, Int.toNat_natCast, Bool.not_true, decide_true, true_and, and_self, gl0, Try.sz3, Try.ag3, Try.underlying25, Try.sz51, Try.ag51, Try.eq51, Try.fd51f0, Try.mp63, hmt, eP, gk]
          (repeat (refine ⟨by first | omega | (refine ⟨?_, ?_⟩ <;> omega) | trivial | (simp; done) | decide +kernel, fun _ => ?_⟩))
          refine hκ.run 300 ?_
          simp (disch := omega) only [sMapUp, sMapUpIn, keyS, exec_succ, runR_next, runR_fork_false, runR_call, stepS, runOp, condS, toSR, sop, rOf, sLoadIn, sLoad, sFieldAddr, ev, evs, Env.get, Heap.get, Heap.set, takeN, cut, aggOf, idFree, idFree', OutOK_call, undefS, undef, List.size_toArray, List.length_cons, List.length_nil, List.range, List.range.loop, List.getElem?_toArray, List.getElem?_cons_succ, List.getElem?_cons_zero, ↓reduceIte, Nat.reduceAdd, Nat.reduceLT, Nat.reduceEqDiff, Nat.zero_add, Nat.add_zero, Nat.add_one_ne_zero, and_self, gl0, Try.sz3, Try.ag3, Try.sz24, Try.ag24, Try.fd51f0, Try.mp63]
          refine Does.ret hκ.hP hκ.hgl (c8) ⟨trivial, by simp [SV.bnd, SV.bndL], by first | (simp [SV.bnd, SV.bndL]; done) | assumption⟩ ?_
          refine hκ.run 300 ?_
          simp (disch := omega) only [sBuiltin, exec_succ, runR_next, runR_stop, stepS, runOp, toSR, sop, rOf, sLen, ev, Env.get, setO, OutOK_stop, List.length_map, List.getElem?_toArray, List.getElem?_cons_succ, List.getElem?_cons_zero, ↓reduceIte, Nat.reduceLT, gl0, Try.underlying39]
          refine Sat.less (Sat.loop (γ := Nat) (fun i => ([(128, I i), (127, I S.length), (126, .rd 3 (S.map eN)), (21, Bo ((S.take i).any (inSpn n p.2))), (20, .ptr 5 0 0 0), (103, I j), (102, I l.length), (101, Ps l), (18, .mp 4), (16, Ps l), (13, Ps l), (12, I n), (66, I k), (65, I ns.length), (64, .rd 1 (ns.map (eI .i64))), (9, .ptr 2 0 0 0), (7, .ptr 1 0 0 0), (3, .ptr 0 0 0 0), (2, I N)], [(5, .own [I p.1, I p.2] 51), (4, .map false [.i64] (fun ns => if ns = [p.1] then some (Bo true) else metM (l.take j) ns)), (2, .own [Fs B, I EB] 24), (1, .own [Fs A, I EA] 24), (0, .own [Fs fs, I en] 24)], 6)) (fun i => S.length - i) (fun i => i ≤ S.length) ?round3 0 (Nat.zero_le _)) (by repeat' (first | exact EnvSub.nil _ | exact HeapSub.nil _ | refine EnvSub.cons rfl ?_ | refine HeapSub.cons rfl ?_ | (refine EnvSub.cons (by simp [Env.get]; done) ?_) | (refine HeapSub.cons (by simp [Heap.get]; done) ?_))) (by repeat' (first | exact EnvSub.nil _ | exact HeapSub.nil _ | refine EnvSub.cons rfl ?_ | refine HeapSub.cons rfl ?_ | (refine EnvSub.cons (by simp [Env.get]; done) ?_) | (refine HeapSub.cons (by simp [Heap.get]; done) ?_)))
          case round3 =>
            intro i hi ih3
            dsimp only at ih3 ⊢
            refine hκ.run 300 ?_
            simp (disch := omega) only [exec_succ, runR_next, stepS, runOp, condS, toSR, sop, sInt, sBin, ev, Env.get, List.size_toArray, List.length_cons, List.length_nil, List.range, List.range.loop, List.getElem?_toArray, List.getElem?_cons_zero, ↓reduceIte, Nat.reduceLT, Nat.reduceEqDiff, Nat.zero_add, gl0]
            refine OutOK_fork (fun h => ?_) (fun h => ?_) <;> try simp only [Bool.not_true, Bool.not_false, decide_eq_true_eq, decide_eq_false_iff_not, Bool.not_eq_true', Bool.not_eq_false', Bool.and_eq_true, Bool.or_eq_false_iff, Bool.or_eq_true, Bool.and_eq_false_iff] at h
            · have hz3 := ih3 (i + 1) (by omega) (by omega)
              rw [take_getD (by omega), List.any_append, List.any_cons, List.any_nil, Bool.or_false, inSpn] at hz3
              generalize (S.take i).any (inSpn n p.2) = b at hz3 ⊢
              simp (disch := omega) only [exec_succ, runR_next, runR_need, stepS, runOp, guardS, toSR, sop, rOf, rNew, sAlloc, sAlloc0, sLoad, sStoreIn, sStore, sIndexAddr, elemT, obind, ev, svs, Env.get, Heap.get, Heap.set, takeN, cut, over, paste, aggOf, cellsS, one, ones, Value.oneCell', OutOK_need, undefS, undef, List.size_toArray, List.length_cons, List.length_nil, List.length_map, List.range, List.range.loop, List.getElem?_toArray, List.getElem?_cons_succ, List.getElem?_cons_zero, List.map_cons, List.map_nil, Option.bind_some, ↓reduceIte, Nat.reduceAdd, Nat.reduceLT, Nat.reduceEqDiff, Nat.zero_add, Int.toNat_natCast, Bool.not_false, true_and, and_self, forall_const, getD_map, Try.underlying39, Try.sz42, Try.ag42, Try.ze42, Try.ar42, eN]
              (repeat (refine ⟨by first | omega | (refine ⟨?_, ?_⟩ <;> omega) | trivial | (simp; done) | decide +kernel, fun _ => ?_⟩))
              cases b
              case true =>
                rw [Bool.true_or] at hz3
                simp (disch := omega) only [exec_succ, runR_next, runR_guard_tf, runR_stop, stepS, runOp, guardS, toSR, sop, rOf, sPick, sLoad, sInt, sBin, sFieldAddr, ev, Env.get, OutOK_stop, undefS, undef, List.size_toArray, List.length_cons, List.length_nil, List.range, List.range.loop, List.getElem?_toArray, List.getElem?_cons_succ, List.getElem?_cons_zero, Option.bind_some, ↓reduceIte, Nat.reduceAdd, Nat.reduceLT, Nat.reduceEqDiff, Nat.zero_add, Nat.add_one_ne_zero, Bool.not_false, and_self, wrap_i64, Try.fd42f1]
                refine Sat.via (fun i => i) (hz3) (by intro i j; (repeat (first | omega | split))) (by repeat' (first | exact EnvVia.nil | refine EnvVia.cons (by first | trivial | decide | (simp [SV.bnd, SV.bndL]; done)) rfl ?_)) (by repeat' (first | exact HeapVia.nil | refine HeapVia.cons (by decide) (by first | trivial | (simp [Blk.bnd, SV.bnd, SV.bndL]; done) | exact bndL_mapV _ _ _ | exact LR.bnd (by rw [l2]; simp [bndE, SV.bnd, SV.bndL]) (by rw [l6]; decide)) (by first | rfl | (simp only [Blk.ren, renL_mapV]; rfl) | (rw [LR.ren (by rw [l2] <;> rfl) (by rw [l6] <;> rfl)]; rfl)) ?_)) ⟨by have := hκ.hm; (try dsimp only at this); (first | done | omega), fun i hi => by have := hκ.hm; (try dsimp only at this); (first | omega | (dsimp only; omega) | (rw [if_neg (by omega)]))⟩ ⟨by simp, rfl⟩
              rw [Bool.false_or] at hz3
              by_cases g1 : (S.getD i default).2.1 ≤ n
              · rw [decide_eq_true g1, Bool.true_and] at hz3
                by_cases g2 : n < (S.getD i default).2.2
                · rw [decide_eq_true g2, Bool.true_and] at hz3
                  simp (disch := omega) only [exec_succ, runR_next, runR_guard_tt, runR_guard_ff, runR_stop, stepS, runOp, guardS, toSR, sop, rOf, sPick, sLoadIn, sLoad, sInt, sBin, sFieldAddr, ev, Env.get, Heap.get, takeN, cut, aggOf, OutOK_stop, undefS, undef, List.size_toArray, List.length_cons, List.length_nil, List.range, List.range.loop, List.getElem?_toArray, List.getElem?_cons_succ, List.getElem?_cons_zero, Option.bind_some, ↓reduceIte, Nat.reduceAdd, Nat.reduceLT, Nat.reduceEqDiff, Nat.zero_add, Nat.add_zero, Nat.add_one_ne_zero, Bool.not_true, Bool.not_false, decide_true, and_self, wrap_i64, Try.sz2, Try.ag2, Try.sz3, Try.ag3, Try.fd42f0, Try.fd42f1, Try.fd42f2, Try.fd51f1, g1, g2]
                  refine Sat.via (fun i => i) (hz3) (by intro i j; (repeat (first | omega | split))) (by repeat' (first | exact EnvVia.nil | refine EnvVia.cons (by first | trivial | decide | (simp [SV.bnd, SV.bndL]; done)) rfl ?_)) (by repeat' (first | exact HeapVia.nil | refine HeapVia.cons (by decide) (by first | trivial | (simp [Blk.bnd, SV.bnd, SV.bndL]; done) | exact bndL_mapV _ _ _ | exact LR.bnd (by rw [l2]; simp [bndE, SV.bnd, SV.bndL]) (by rw [l6]; decide)) (by first | rfl | (simp only [Blk.ren, renL_mapV]; rfl) | (rw [LR.ren (by rw [l2] <;> rfl) (by rw [l6] <;> rfl)]; rfl)) ?_)) ⟨by have := hκ.hm; (try dsimp only at this); (first | done | omega), fun i hi => by have := hκ.hm; (try dsimp only at this); (first | omega | (dsimp only; omega) | (rw [if_neg (by omega)]))⟩ ⟨by simp, rfl⟩
                · rw [decide_eq_false g2, Bool.false_and] at hz3
                  simp (disch := omega) only [exec_succ, runR_next, runR_guard_tt, runR_guard_ff, runR_guard_ft, runR_stop, stepS, runOp, guardS, toSR, sop, rOf, sPick, sLoadIn, sLoad, sInt, sEq, sEqR, sBin, sFieldAddr, ev, Env.get, Heap.get, takeN, cut, aggOf, OutOK_stop, undefS, undef, List.size_toArray, List.length_cons, List.length_nil, List.range, List.range.loop, List.getElem?_toArray, List.getElem?_cons_succ, List.getElem?_cons_zero, Option.bind_some, ↓reduceIte, Nat.reduceAdd, Nat.reduceLT, Nat.reduceEqDiff, Nat.zero_add, Nat.add_zero, Nat.add_one_ne_zero, Bool.not_true, Bool.not_false, decide_true, decide_false, and_self, wrap_i64, Try.sz2, Try.ag2, Try.fd42f0, Try.fd42f1, Try.fd42f2, Try.fd51f1, g1, g2]
                  refine Sat.via (fun i => i) (hz3) (by intro i j; (repeat (first | omega | split))) (by repeat' (first | exact EnvVia.nil | refine EnvVia.cons (by first | trivial | decide | (simp [SV.bnd, SV.bndL]; done)) rfl ?_)) (by repeat' (first | exact HeapVia.nil | refine HeapVia.cons (by decide) (by first | trivial | (simp [Blk.bnd, SV.bnd, SV.bndL]; done) | exact bndL_mapV _ _ _ | exact LR.bnd (by rw [l2]; simp [bndE, SV.bnd, SV.bndL]) (by rw [l6]; decide)) (by first | rfl | (simp only [Blk.ren, renL_mapV]; rfl) | (rw [LR.ren (by rw [l2] <;> rfl) (by rw [l6] <;> rfl)]; rfl)) ?_)) ⟨by have := hκ.hm; (try dsimp only at this); (first | done | omega), fun i hi => by have := hκ.hm; (try dsimp only at this); (first | omega | (dsimp only; omega) | (rw [if_neg (by omega)]))⟩ ⟨by simp, rfl⟩
              · rw [decide_eq_false g1, Bool.false_and] at hz3
                simp (disch := omega) only [exec_succ, runR_next, runR_guard_ff, runR_guard_ft, runR_stop, stepS, runOp, guardS, toSR, sop, rOf, sPick, sLoadIn, sLoad, sInt, sEq, sEqR, sBin, sFieldAddr, ev, Env.get, Heap.get, takeN, cut, aggOf, OutOK_stop, undefS, undef, List.size_toArray, List.length_cons, List.length_nil, List.range, List.range.loop, List.getElem?_toArray, List.getElem?_cons_succ, List.getElem?_cons_zero, Option.bind_some, ↓reduceIte, Nat.reduceAdd, Nat.reduceLT, Nat.reduceEqDiff, Nat.zero_add, Nat.add_zero, Nat.add_one_ne_zero, Bool.not_true, Bool.not_false, decide_false, and_self, wrap_i64, Try.sz2, Try.ag2, Try.fd42f0, Try.fd42f1, Try.fd42f2, Try.fd51f1, g1]
                refine Sat.via (fun i => i) (hz3) (by intro i j; (repeat (first | omega | split))) (by repeat' (first | exact EnvVia.nil | refine EnvVia.cons (by first | trivial | decide | (simp [SV.bnd, SV.bndL]; done)) rfl ?_)) (by repeat' (first | exact HeapVia.nil | refine HeapVia.cons (by decide) (by first | trivial | (simp [Blk.bnd, SV.bnd, SV.bndL]; done) | exact bndL_mapV _ _ _ | exact LR.bnd (by rw [l2]; simp [bndE, SV.bnd, SV.bndL]) (by rw [l6]; decide)) (by first | rfl | (simp only [Blk.ren, renL_mapV]; rfl) | (rw [LR.ren (by rw [l2] <;> rfl) (by rw [l6] <;> rfl)]; rfl)) ?_)) ⟨by have := hκ.hm; (try dsimp only at this); (first | done | omega), fun i hi => by have := hκ.hm; (try dsimp only at this); (first | omega | (dsimp only; omega) | (rw [if_neg (by omega)]))⟩ ⟨by simp, rfl⟩
            · simp (disch := omega) only [exec_succ, runR_next, stepS, runOp, condS, goS, toSR, sop, rOf, sUn, ev, Env.get, exitTo, List.size_toArray, List.length_cons, List.length_nil, List.range, List.range.loop, List.getElem?_toArray, List.getElem?_cons_succ, List.getElem?_cons_zero, ↓reduceIte, Nat.reduceAdd, Nat.reduceLT, Nat.reduceEqDiff, Nat.zero_add, beq_self_eq_true]
              obtain rfl : i = S.length := by omega
              rw [List.take_length, hcv]
              refine hκ.run 300 ?_
              simp (disch := omega) only [exec_succ, runR_stop, stepS, OutOK_stop, Bool.not_true, wrap_i64, gl0]
              refine Sat.via (fun i => i) (hz2) (by intro i j; (repeat (first | omega | split))) (by repeat' (first | exact EnvVia.nil | refine EnvVia.cons (by first | trivial | decide | (simp [SV.bnd, SV.bndL]; done)) rfl ?_)) (by repeat' (first | exact HeapVia.nil | refine HeapVia.cons (by decide) (by first | trivial | (simp [Blk.bnd, SV.bnd, SV.bndL]; done) | exact bndL_mapV _ _ _ | exact LR.bnd (by rw [l2]; simp [bndE, SV.bnd, SV.bndL]) (by rw [l6]; decide)) (by first | rfl | (simp only [Blk.ren, renL_mapV]; rfl) | (rw [LR.ren (by rw [l2] <;> rfl) (by rw [l6] <;> rfl)]; rfl)) ?_)) ⟨by have := hκ.hm; (try dsimp only at this); (first | done | omega), fun i hi => by have := hκ.hm; (try dsimp only at this); (first | omega | (dsimp only; omega) | (rw [if_neg (by omega)]))⟩ ⟨by simp, rfl⟩
        · simp (disch := omega) only [runR_next, runR_stop, stepS, runOp, goS, toSR, sop, rOf, sInt, sBin, ev, Env.get, exitTo, OutOK_stop, halt, isDraw, drawC, execD_succ, List.size_toArray, List.length_cons, List.length_nil, List.range, List.range.loop, List.getElem?_toArray, List.getElem?_cons_succ, List.getElem?_cons_zero, ↓reduceIte, Nat.reduceAdd, Nat.reduceLT, Nat.reduceEqDiff, Nat.zero_add, beq_self_eq_true, wrap_i64]
          refine Sat.via (fun i => i) (hz) (by intro i j; (repeat (first | omega | split))) (by repeat' (first | exact EnvVia.nil | refine EnvVia.cons (by first | trivial | decide | (simp [SV.bnd, SV.bndL]; done)) rfl ?_)) (by repeat' (first | exact HeapVia.nil | refine HeapVia.cons (by decide) (by first | trivial | (simp [Blk.bnd, SV.bnd, SV.bndL]; done) | exact bndL_mapV _ _ _ | exact LR.bnd (by rw [l2]; simp [bndE, SV.bnd, SV.bndL]) (by rw [l6]; decide)) (by first | rfl | (simp only [Blk.ren, renL_mapV]; rfl) | (rw [LR.ren (by rw [l2] <;> rfl) (by rw [l6] <;> rfl)]; rfl)) ?_)) ⟨by have := hκ.hm; (try dsimp only at this); (first | done | omega), fun i hi => by have := hκ.hm; (try dsimp only at this); (first | omega | (dsimp only; omega) | (rw [if_neg (by omega)]))⟩ ⟨by simp, rfl⟩
    · simp (disch := omega) only [exec_succ, runR_next, runR_stop, stepS, runOp, goS, toSR, sop, rOf, ev, exitTo, OutOK_stop, List.size_toArray, List.length_cons, List.length_nil, List.range, List.range.loop, List.getElem?_toArray, List.getElem?_cons_zero, ↓reduceIte, Nat.reduceLT, Nat.zero_add, beq_self_eq_true]
      refine hκ.ret _ _ _ _ _ _ trivial rfl ?_
      rfl
end Go.Proofs.Ytcpanpkhdcifoaa
