/- Walks of place: Waits, Moves. No condition. -/
import Derived.Test.YtnjgmjcokcfmkaaDoorPx
namespace Go.Proofs.YtnjgmjcokcfmkaaDoor
open Go Go.Sy
set_option maxRecDepth 100000
set_option linter.unusedSimpArgs false
set_option linter.unusedVariables false

def waitsV (l : List Wi) (free : Nat) : SV := if askE l free = 0 then .tup [.rd 1 ((runP free l).waits.map (eI .i64)), I 0] else .tup [nilS, I (askE l free)]
def movesV (l : List Wi) (free : Nat) : SV := if askE l free = 0 then .tup [I (runP free l).moved, I (runP free l).waits.length, I 0] else .tup [I 0, I 0, I (askE l free)]
theorem waitsV_ok {l : List Wi} {free : Nat} (h : askE l free = 0) : waitsV l free = .tup [.rd 1 ((runP free l).waits.map (eI .i64)), I 0] := by rw [waitsV, if_pos h]
theorem waitsV_no {l : List Wi} {free : Nat} (h : askE l free ≠ 0) : waitsV l free = .tup [nilS, I (askE l free)] := by rw [waitsV, if_neg h]
theorem waitsV_closed (l : List Wi) (free : Nat) : (waitsV l free).closed := by
  unfold waitsV; split <;> simp [SV.bnd, SV.bndL]
theorem movesV_ok {l : List Wi} {free : Nat} (h : askE l free = 0) : movesV l free = .tup [I (runP free l).moved, I (runP free l).waits.length, I 0] := by rw [movesV, if_pos h]
theorem movesV_no {l : List Wi} {free : Nat} (h : askE l free ≠ 0) : movesV l free = .tup [I 0, I 0, I (askE l free)] := by rw [movesV, if_neg h]
theorem movesV_closed (l : List Wi) (free : Nat) : (movesV l free).closed := by
  unfold movesV; split <;> simp [SV.bnd, SV.bndL]

theorem waits_ok (l : List Wi) (free : Nat) (hl : ∀ w ∈ l, inW w) (hn : l.length < 2 ^ 40) (hf : free < 4294967296) : Con Tryd.prog gl0 (fnv 31) [Ws l, S free] 0 [] (Ret (waitsV l free)) := by
  refine Con.of Tryd.ok31 (nt := 29) (res := [.tmp 4, .tmp 5]) Tryd.mixed Tryd.func31 rfl rfl rfl rfl fun κ xc hκ => hκ.run 300 ?_
  simp (disch := omega) only [push_cast, simprocAttr]
  refine Does.ret hκ.hP hκ.hgl (asked_ok l free hl hn hf) ⟨trivial, by first | (simp [SV.bnd, SV.bndL]; done) | (simp [SV.bnd, SV.bndL, ec_bnd]; done), by first | (simp [SV.bnd, SV.bndL]; done) | (simp [SV.bnd, SV.bndL, ec_bnd]; done) | assumption⟩ ?_
  refine hκ.run 300 ?_
  simp (disch := omega) only [push_cast, simprocAttr]
  refine OutOK_fork (fun h => ?_) (fun h => ?_) <;> try simp only [Bool.not_true, Bool.not_false, decide_eq_true_eq, decide_eq_false_iff_not, Bool.not_eq_true', Bool.not_eq_false', Bool.and_eq_true, Bool.or_eq_false_iff, Bool.or_eq_true, Bool.and_eq_false_iff] at h
  · simp (disch := omega) only [push_cast, simprocAttr]
    refine hκ.ret _ _ _ _ _ _ trivial rfl ?_
    rw [waitsV, if_neg h]
    exact .ret (by simp [SV.bnd, SV.bndL])
  simp (disch := omega) only [push_cast, simprocAttr]
  have h0 := h
  have hfree := (askE_zero.1 h).2
  have hbd := fun k => runP_bd free (l.take k) hfree
  refine Does.inl hκ.hP hκ.hgl Tryd.ok58 (nt := 6) (res := [.tmp 4]) Tryd.mixed Tryd.func58 rfl rfl rfl rfl fun κ_h1 x_h1 h1 => h1.run 300 ?_
  simp (disch := omega) only [push_cast, simprocAttr]
  refine h1.ret _ _ _ _ _ _ trivial rfl ?_
  refine hκ.run 300 ?_
  simp (disch := omega) only [push_cast, simprocAttr]
  refine hκ.rangeL rfl fun L l1 l2 l3 l4 l5 l6 => ?_
  refine Does.inlc rfl hκ.hgl Tryd.ok79 (nt := 35) (res := []) Tryd.mixed Tryd.func79 rfl rfl rfl rfl fun κ_h4 x_h4 h4 => h4.run 300 ?_
  simp (disch := omega) only [push_cast, simprocAttr]
  refine Sat.nilCell 0 1 3 31 [] [] rfl ?_
  simp only [Heap.set, List.nil_append, Nat.reduceEqDiff, ↓reduceIte]
  refine Sat.less (Sat.loop (γ := Nat × Nat) (fun g => ([(10, I g.1), (9, I l.length), (8, Ws l), (0, .yl 4), (1, .ptr 1 0 0 0), (2, .ptr 2 0 0 0)],
    [(4, L.blk .ready none), (3, .obj (.deferred (some []))), (2, .own [S (runP free (l.take g.1)).free] 25), (1, .own [Ws l] 23), (0, .own [.sl 5 1 0 (runP free (l.take g.1)).waits.length g.2] 31), (5, .row 1 g.2 3 ((runP free (l.take g.1)).waits.map (eI .i64)))], 6)) (fun g => l.length - g.1)
    (fun g => g.1 ≤ l.length) ?round (0, 0) (Nat.zero_le _)) (by repeat' (first | exact EnvSub.nil _ | exact HeapSub.nil _ | refine EnvSub.cons rfl ?_ | refine HeapSub.cons rfl ?_ | (refine EnvSub.cons (by simp [Env.get]; done) ?_) | (refine HeapSub.cons (by simp [Heap.get]; done) ?_))) (by repeat' (first | exact EnvSub.nil _ | exact HeapSub.nil _ | refine EnvSub.cons rfl ?_ | refine HeapSub.cons rfl ?_ | (refine EnvSub.cons (by simp [Env.get]; done) ?_) | (refine HeapSub.cons (by simp [Heap.get]; done) ?_)))
  case round =>
    rintro ⟨k, cap⟩ hk ih
    dsimp only at hk ih ⊢
    refine h4.run 300 ?_
    simp (disch := omega) only [push_cast, simprocAttr, eW]
    refine OutOK_fork (fun h => ?_) (fun h => ?_) <;> try simp only [Bool.not_true, Bool.not_false, decide_eq_true_eq, decide_eq_false_iff_not, Bool.not_eq_true', Bool.not_eq_false', Bool.and_eq_true, Bool.or_eq_false_iff, Bool.or_eq_true, Bool.and_eq_false_iff] at h
    · simp (disch := omega) only [push_cast, simprocAttr, eW]
      (repeat (refine ⟨by first | omega | (refine ⟨?_, ?_⟩ <;> omega) | trivial | (simp; done) | decide +kernel, fun _ => ?_⟩))
      have hm : l.getD k default ∈ l := by
        rw [List.getD, List.getElem?_eq_getElem (by omega)]; exact List.getElem_mem _
      have hs := runP_take (free := free) (l := l) (k := k) (by omega)
      obtain ⟨f1, -, -, f3, -⟩ := hbd k
      have f4 : (l.take k).length ≤ l.length := by simp; omega
      obtain ⟨⟨v1, v2⟩, ⟨a1, a2⟩, m1⟩ := hl _ hm
      have hz := fun cap => ih (k + 1, cap) (by dsimp only; omega) (by dsimp only; omega)
      dsimp only at hz
      rw [hs] at hz
      generalize l.getD k default = w at hs v1 v2 a1 a2 m1 hz ⊢
      generalize runP free (l.take k) = st at hs f1 f3 hz ⊢
      obtain ⟨fr, ps, ws, mv⟩ := st
      dsimp only at f1 f3 hz ⊢
      refine Does.ret h4.hP h4.hgl (best_ok w.m fr w.a m1 (by omega) ⟨a1, a2⟩) ⟨trivial, by first | (simp [SV.bnd, SV.bndL]; done) | (simp [SV.bnd, SV.bndL, ec_bnd]; done), by first | (simp [SV.bnd, SV.bndL]; done) | (simp [SV.bnd, SV.bndL, ec_bnd]; done) | assumption⟩ ?_
      cases ht : bestB w.m fr w.a with
      | none =>
        simp only [stepP, takesW, ht] at hz
        refine h4.run 300 ?_
        simp (disch := omega) only [push_cast, simprocAttr]
        refine Does.roundL h4.hP h4.hgl Tryd.mixed (L := L) rfl l1 l2 l3 l4 l5 rfl rfl fun κ_h5 x_h5 h5 => ?_
        simp only [bindP]
        refine h5.run 300 ?_
        simp (disch := omega) only [push_cast, simprocAttr]
        refine h5.beg rfl ?_
        simp only [Heap.set, Nat.reduceEqDiff, ↓reduceIte]
        refine h5.run 300 ?_
        simp (disch := omega) only [push_cast, simprocAttr]
        (repeat (refine ⟨by first | omega | (refine ⟨?_, ?_⟩ <;> omega) | trivial | (simp; done) | decide +kernel, fun _ => ?_⟩))
        intro cap2
        refine h5.fin rfl ?_
        simp only [Heap.set, Nat.reduceEqDiff, ↓reduceIte]
        refine h4.run 300 ?_
        simp (disch := omega) only [push_cast, simprocAttr]
        have et : List.take ws.length (List.map (eI .i64) ws) = List.map (eI .i64) ws := List.take_of_length_le (by simp)
        have hy := hz (ws.length + 1 + cap2)
        simp only [List.length_append, List.length_cons, List.length_nil, List.length_singleton, List.length_map, List.length_set, List.length_replicate, Nat.zero_add, Nat.add_zero, Int.natCast_add, Int.natCast_one, Int.ofNat_eq_natCast, List.map_append, List.map_cons, List.map_nil, List.take_length, eI, eB] at hy ⊢
        rw [et]
        refine Sat.via (fun i => if i = 5 then 9 else i) (hy) (by intro i j; (repeat (first | omega | split))) (by repeat' (first | exact EnvVia.nil | refine EnvVia.cons (by first | trivial | decide | (simp [SV.bnd, SV.bndL]; done)) rfl ?_)) (by repeat' (first | exact HeapVia.nil | refine HeapVia.cons (by decide) (by first | trivial | exact Blk.bnd_own0 (by assumption) | (simp [Blk.bnd, SV.bnd, SV.bndL]; done) | exact bndL_mapV _ _ _ | exact LR.bnd (by rw [l2]; simp [bndE, SV.bnd, SV.bndL]) (by rw [l6]; decide)) (by first | (rw [Blk.ren_own0 (by assumption)]; rfl) | rfl | (simp only [Blk.ren, renL_mapV]; rfl) | (rw [LR.ren (by rw [l2] <;> rfl) (by rw [l6] <;> rfl)]; rfl)) ?_)) ⟨by have := h4.hm; (try dsimp only at this); (first | done | omega), fun i hi => by have := h4.hm; (try dsimp only at this); (first | omega | (dsimp only; omega) | (rw [if_neg (by omega)]))⟩ ⟨by simp, rfl⟩
      | some c =>
        simp only [stepP, takesW, ht] at hz
        obtain ⟨c1, c2⟩ := takes_bd (w := w) ht
        have hp := pow_lt_256 (c := c.toNat) (by omega)
        refine h4.run 300 ?_
        simp (disch := omega) only [push_cast, simprocAttr]
        refine h4.draw (.q 0 (.q 1 (.q 2 (.q 3 (.l 4 [] (.fin)))))) [0, 1, 2, 3] (by kernel_rfl) (by kernel_rfl) rfl ?_
        simp (disch := omega) only [push_cast, simprocAttr]
        rw [pow32 _ (by omega), andNot32 (by omega) (by omega)]
        refine ⟨by omega, fun _ => ?_⟩
        refine h4.run 300 ?_
        simp (disch := omega) only [push_cast, simprocAttr]
        refine Does.roundL h4.hP h4.hgl Tryd.mixed (L := L) rfl l1 l2 l3 l4 l5 rfl rfl fun κ_h5 x_h5 h5 => ?_
        simp only [bindP]
        refine h5.run 300 ?_
        simp (disch := omega) only [push_cast, simprocAttr]
        refine h5.beg rfl ?_
        simp only [Heap.set, Nat.reduceEqDiff, ↓reduceIte]
        refine h5.run 300 ?_
        simp (disch := omega) only [push_cast, simprocAttr]
        refine OutOK_fork (fun h => (by first | (have h := of_decide_eq_true h; omega) | (simp only [Bool.not_true, Bool.not_false, decide_eq_true_eq, decide_eq_false_iff_not, Bool.not_eq_true', Bool.not_eq_false', Bool.and_eq_true, Bool.or_eq_false_iff, Bool.or_eq_true, Bool.and_eq_false_iff] at h; omega))) (fun _ => ?_)
        simp (disch := omega) only [push_cast, simprocAttr]
        refine h5.fin rfl ?_
        simp only [Heap.set, Nat.reduceEqDiff, ↓reduceIte]
        refine h4.run 300 ?_
        simp (disch := omega) only [push_cast, simprocAttr]
        refine Sat.via (fun i => i) (hz cap) (by intro i j; (repeat (first | omega | split))) (by repeat' (first | exact EnvVia.nil | refine EnvVia.cons (by first | trivial | decide | (simp [SV.bnd, SV.bndL]; done)) rfl ?_)) (by repeat' (first | exact HeapVia.nil | refine HeapVia.cons (by decide) (by first | trivial | exact Blk.bnd_own0 (by assumption) | (simp [Blk.bnd, SV.bnd, SV.bndL]; done) | exact bndL_mapV _ _ _ | exact LR.bnd (by rw [l2]; simp [bndE, SV.bnd, SV.bndL]) (by rw [l6]; decide)) (by first | (rw [Blk.ren_own0 (by assumption)]; rfl) | rfl | (simp only [Blk.ren, renL_mapV]; rfl) | (rw [LR.ren (by rw [l2] <;> rfl) (by rw [l6] <;> rfl)]; rfl)) ?_)) ⟨by have := h4.hm; (try dsimp only at this); (first | done | omega), fun i hi => by have := h4.hm; (try dsimp only at this); (first | omega | (dsimp only; omega) | (rw [if_neg (by omega)]))⟩ ⟨by simp, rfl⟩
    · simp (disch := omega) only [push_cast, simprocAttr]
      obtain rfl : k = l.length := by omega
      rw [List.take_length]
      refine Sat.room 5 rfl fun hroom => ?_
      rw [List.length_map] at hroom
      refine h4.fin _ _ _ _ _ trivial rfl ?_
      refine ⟨_, _, rfl, by decide, ?_⟩
      simp only [Option.map_none, Option.map_some, Option.toList, List.nil_append, List.cons_append, Heap.drop, Nat.reduceEqDiff, ↓reduceIte]
      refine hκ.run 300 ?_
      simp (disch := omega) only [push_cast, simprocAttr]
      rw [waitsV_ok h0] at hκ
      generalize runP free l = st at hκ hroom ⊢
      obtain ⟨fr, ps, ws, mv⟩ := st
      dsimp only at hκ hroom ⊢
      have et : List.take ws.length (List.map (eI .i64) ws) = List.map (eI .i64) ws := List.take_of_length_le (by simp)
      refine hκ.ret _ _ _ _ _ _ ⟨rfl, trivial⟩ rfl ?_
      refine Post.frz [5] (by first | (simp [lendPL, lendP, lendSlP, dropL, Heap.get, Heap.drop, resV]; done) | (simp [lendPL, lendP, lendSlP, dropL, Heap.get, Heap.drop, resV]; omega) | (simp [lendPL, lendP, lendSlP, dropL, Heap.get, Heap.drop, resV, -List.length_eq_zero_iff]; omega)) ?_
      simp only [resV, lendL, lendS, lendSl, dropL, Heap.drop, Heap.get, List.mem_singleton, List.mem_cons, List.not_mem_nil, or_false, or_true, true_or, List.drop_zero, Nat.reduceEqDiff, Nat.one_ne_zero, Nat.zero_ne_one, ↓reduceIte, et]
      exact .ret (by simp [SV.bnd, SV.bndL])
end Go.Proofs.YtnjgmjcokcfmkaaDoor
