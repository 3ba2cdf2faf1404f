/- Pools as bytes. No condition. -/
import Derived.Test.YtfhiaddbpacgeaaOg
import Derived.Test.YtfhiaddbpacgeaaBy
namespace Go.Proofs.Ytfhiaddbpacgeaa
open Go Go.Sy
set_option maxRecDepth 100000
set_option linter.unusedSimpArgs false
set_option linter.unusedVariables false

def cI (s : Nat) : Int := (s : Int)
def encP (xs : List Nat) : List Int := (xs.length : Int) :: xs.map cI
theorem encP_isB {xs : List Nat} (h : okP xs = true) : isB (encP xs) := by
  obtain ⟨h1, h2, -⟩ := (okP_iff xs).1 h
  intro n hn
  simp only [encP, List.mem_cons, List.mem_map] at hn
  rcases hn with rfl | ⟨s, hs, rfl⟩
  · omega
  · have := (h2 s hs).2; simp only [cI]; omega
theorem enc_row (xs : List Nat) (hx : u32s xs) (hn : xs.length < 2 ^ 44) : Con Try.prog gl0 (fnv 24) [Po xs] 0 []
    (RetX 5 1 (if okP xs = true then 0 else 180) (fun r => .tup [r, I 0]) ((encP xs).map (eI .u8)) (.tup [.v (.slice none 0 0), I 180])) := by
  refine Con.of Try.ok24 (nt := 32) (res := [.tmp 2, .tmp 3]) Try.mixed Try.func24 rfl rfl rfl rfl fun κ xc hκ => hκ.run 300 ?_
  simp (disch := omega) only [exec_succ, runR_next, runR_call, stepS, runOp, toSR, sop, rOf, rNew, sBox, isArr, sLoadIn, sLoad, ev, evs, Env.get, Heap.get, takeN, cut, aggOf, cellsS, envOf, OutOK_call, Bool.false_eq_true, List.size_toArray, List.length_cons, List.length_nil, List.range, List.range.loop, List.getElem?_toArray, List.getElem?_cons_succ, List.getElem?_cons_zero, ↓reduceIte, Nat.reduceAdd, Nat.reduceLT, Nat.reduceEqDiff, Nat.zero_add, gl0, Try.sz26, Try.ag26]
  refine Does.ret hκ.hP hκ.hgl (pchk_ok xs hx (by omega)) ⟨trivial, by simp [SV.bnd, SV.bndL], by first | (simp [SV.bnd, SV.bndL]; done) | assumption⟩ ?_
  by_cases hk : okP xs = true
  case neg =>
    rw [if_neg hk]
    refine hκ.run 300 ?_
    simp (disch := omega) only [exec_succ, runR_next, runR_fork_true, runR_stop, stepS, runOp, condS, toSR, sop, rOf, sInt, sBin, ev, Env.get, setO, OutOK_stop, List.size_toArray, List.length_cons, List.length_nil, List.range, List.range.loop, List.getElem?_toArray, List.getElem?_cons_succ, List.getElem?_cons_zero, ↓reduceIte, Nat.reduceAdd, Nat.reduceLT, Nat.reduceEqDiff, Nat.zero_add, Int.reduceEq, Bool.not_false, decide_false, gl0]
    refine hκ.ret _ _ _ _ _ _ trivial rfl ?_
    rw [RetX.no (by rw [if_neg hk]; decide)]
    exact .ret (by simp [SV.bnd, SV.bndL])
  rw [if_pos hk]
  obtain ⟨h1, h2, -⟩ := (okP_iff xs).1 hk
  refine hκ.run 300 ?_
  simp (disch := omega) only [sBuiltin, exec_succ, runR_next, runR_need, runR_fork_false, runR_stop, stepS, runOp, condS, toSR, sop, rOf, rNew, isArr, sLoadIn, sLoad, sInt, sBin, sConv, sFieldAddr, sLen, sliceT, obind, fillS, evps, repeatL, sBuildSlice, chunk, ev, svs, Env.get, Heap.get, takeN, cut, over, paste, aggOf, cellsS, one, ones, idFree, idFrees, setO, Value.cells, Value.oneCell', OutOK_need, OutOK_stop, Bool.and_true, List.take_succ_cons, List.take_nil, List.size_toArray, List.length_cons, List.length_nil, List.length_map, List.range, List.range.loop, List.getElem?_toArray, List.getElem?_cons_succ, List.getElem?_cons_zero, List.map_cons, List.map_nil, List.append_nil, List.toList_toArray, ↓reduceIte, Nat.reduceAdd, Nat.reduceLT, Nat.reduceLeDiff, Nat.reduceEqDiff, Nat.zero_add, Nat.add_zero, Nat.mul_one, Nat.add_one_ne_zero, Bool.not_true, decide_true, true_and, and_self, forall_const, wrap_u8, gl0, Try.underlying3, Try.underlying5, Try.sz5, Try.ze5, Try.underlying24, Try.sz24, Try.ag24, Try.fd26f0, Try.underlying51]
  (repeat (refine ⟨by first | omega | (refine ⟨?_, ?_⟩ <;> omega) | trivial | (simp; done) | decide +kernel, fun _ => ?_⟩))
  refine Sat.less (Sat.loop (γ := Nat × List Int × Nat) (fun g => ([(21, I g.1), (20, I xs.length), (19, .rd 1 (xs.map eS)), (5, .sl 1 1 0 g.2.1.length g.2.2)], [(1, .row 1 g.2.2 5 (g.2.1.map (eI .u8)))], 2)) (fun g => xs.length - g.1)
    (fun g => g.1 ≤ xs.length ∧ g.2.1.length = g.1 + 1 ∧ g.2.1 ++ (xs.drop g.1).map cI = encP xs) ?round (0, [(xs.length : Int)], 1) ⟨Nat.zero_le _, rfl, rfl⟩) (by repeat' (first | exact EnvSub.nil _ | exact HeapSub.nil _ | refine EnvSub.cons rfl ?_ | refine HeapSub.cons rfl ?_ | (refine EnvSub.cons (by simp [Env.get]; done) ?_) | (refine HeapSub.cons (by simp [Heap.get]; done) ?_))) (by repeat' (first | exact EnvSub.nil _ | exact HeapSub.nil _ | refine EnvSub.cons rfl ?_ | refine HeapSub.cons rfl ?_ | (refine EnvSub.cons (by simp [Env.get]; done) ?_) | (refine HeapSub.cons (by simp [Heap.get]; done) ?_)))
  case round =>
    rintro ⟨k, out, cap⟩ ⟨hk2, hol, ho⟩ ih
    dsimp only at hk2 hol ho ih ⊢
    refine hκ.run 300 ?_
    simp (disch := omega) only [exec_succ, runR_next, stepS, runOp, condS, toSR, sop, sInt, sBin, ev, Env.get, List.size_toArray, List.length_cons, List.length_nil, List.range, List.range.loop, List.getElem?_toArray, List.getElem?_cons_zero, ↓reduceIte, Nat.reduceLT, Nat.reduceEqDiff, Nat.zero_add, gl0]
    refine OutOK_fork (fun h => ?_) (fun h => ?_) <;> try simp only [Bool.not_true, Bool.not_false, decide_eq_true_eq, decide_eq_false_iff_not, Bool.not_eq_true', Bool.not_eq_false', Bool.and_eq_true, Bool.or_eq_false_iff, Bool.or_eq_true, Bool.and_eq_false_iff] at h
    · have hs := (h2 _ (getD_mem (show k < xs.length by omega))).2
      rw [drop_getD (show k < xs.length by omega), List.map_cons] at ho
      have hz := fun out cap h1 h2 => ih (k + 1, out, cap) ⟨by dsimp only; omega, h1, h2⟩ (by dsimp only; omega)
      dsimp only at hz
      simp (disch := omega) only [sBuiltin, srcS, appArgS, sAppendTo, sAppend, exec_succ, runR_next, runR_need, runR_all, runR_stop, stepS, runOp, toSR, sop, rOf, rNew, isArr, sLoad, sInt, sBin, sConv, sIndexAddr, elemT, sliceT, obind, fillS, evps, repeatL, sBuildSlice, chunk, ev, svs, Env.get, Heap.get, Heap.drop, takeN, cut, over, paste, aggOf, cellsS, one, ones, idFree, idFrees, Value.cells, Value.oneCell', OutOK_need, OutOK_all, OutOK_stop, Bool.and_true, List.drop_zero, List.take_succ_cons, List.take_nil, List.size_toArray, List.length_cons, List.length_nil, List.length_map, List.range, List.range.loop, List.getElem?_toArray, List.getElem?_cons_succ, List.getElem?_cons_zero, List.map_cons, List.map_nil, List.append_nil, List.toList_toArray, ↓reduceIte, Nat.reduceAdd, Nat.reduceLT, Nat.reduceLeDiff, Nat.reduceEqDiff, Nat.zero_add, Nat.mul_one, Nat.add_one_ne_zero, Int.toNat_natCast, ne_eq, not_false_eq_true, true_and, and_self, forall_const, getD_map, wrap_i64, wrap_u8, Try.underlying5, Try.sz5, Try.ze5, Try.by5, Try.underlying24, Try.underlying31, Try.sz31, Try.ag31, Try.underlying51, eS]
      (repeat (refine ⟨by first | omega | (refine ⟨?_, ?_⟩ <;> omega) | trivial | (simp; done) | decide +kernel, fun _ => ?_⟩))
      generalize xs.getD k default = s at hs ho ⊢
      intro c
      have hy := hz (out ++ [cI s]) (out.length + 1 + c) (by simp; omega) (by rw [← ho, List.append_assoc]; rfl)
      have et : List.take out.length (List.map (eI .u8) out) = List.map (eI .u8) out := List.take_of_length_le (by simp)
      simp only [List.length_append, List.length_cons, List.length_nil, List.length_singleton, List.length_map, List.length_set, List.length_replicate, Nat.zero_add, Nat.add_zero, Int.natCast_add, Int.natCast_one, Int.ofNat_eq_natCast, List.map_append, List.map_cons, List.map_nil, List.take_length, eI, eB] at hy ⊢
      rw [et]
      refine Sat.via (fun i => if i = 1 then 3 else i) (hy) (by intro i j; (repeat (first | omega | split))) (by repeat' (first | exact EnvVia.nil | refine EnvVia.cons (by first | trivial | decide | (simp [SV.bnd, SV.bndL]; done)) rfl ?_)) (by repeat' (first | exact HeapVia.nil | refine HeapVia.cons (by decide) (by first | trivial | (simp [Blk.bnd, SV.bnd, SV.bndL]; done) | exact bndL_mapV _ _ _ | exact LR.bnd (by rw [l2]; simp [bndE, SV.bnd, SV.bndL]) (by rw [l6]; decide)) (by first | rfl | (simp only [Blk.ren, renL_mapV]; rfl) | (rw [LR.ren (by rw [l2] <;> rfl) (by rw [l6] <;> rfl)]; rfl)) ?_)) ⟨by have := hκ.hm; (try dsimp only at this); (first | done | omega), fun i hi => by have := hκ.hm; (try dsimp only at this); (first | omega | (dsimp only; omega) | (rw [if_neg (by omega)]))⟩ ⟨by simp, rfl⟩
    · obtain rfl : k = xs.length := by omega
      rw [List.drop_length, List.map_nil, List.append_nil] at ho
      subst ho
      simp (disch := omega) only [exec_succ, runR_next, runR_stop, stepS, runOp, goS, toSR, sop, rOf, ev, Env.get, exitTo, OutOK_stop, List.size_toArray, List.length_cons, List.length_nil, List.range, List.range.loop, List.getElem?_toArray, List.getElem?_cons_succ, List.getElem?_cons_zero, ↓reduceIte, Nat.reduceAdd, Nat.reduceLT, Nat.reduceEqDiff, Nat.zero_add, beq_self_eq_true]
      refine hκ.ret _ _ _ _ _ _ trivial rfl ?_
      rw [RetX.ok (by rw [if_pos hk])]
      exact Post.rowP (pre := fun r => .tup [r, I 0]) (Pre.aggE Pre.id _) rfl (by simp)
theorem enc_ok (xs : List Nat) (hx : u32s xs) (hn : xs.length < 2 ^ 44) : Con Try.prog gl0 (fnv 24) [Po xs] 0 [] (Ret (if okP xs = true then .tup [By (encP xs), I 0] else .tup [.v (.slice none 0 0), I 180])) := by
  have h := enc_row xs hx hn
  by_cases hk : okP xs = true
  · rw [RetX.ok (by rw [if_pos hk])] at h
    rw [if_pos hk]
    exact Con.toRdP (pre := fun r => .tup [r, I 0]) (Pre.aggE Pre.id _) (by simp [SV.bnd, SV.bndL]) h
  · rw [RetX.no (by rw [if_neg hk]; decide)] at h
    rw [if_neg hk]
    exact h
theorem rbytes_row (xs : List Nat) (hk : okP xs = true) (hn : xs.length < 2 ^ 44) : Con Try.prog gl0 (fnv 26) [Po xs] 0 [] (RetRow 5 1 ((encP xs).map (eI .u8))) := by
  obtain ⟨h1, h2, -⟩ := (okP_iff xs).1 hk
  refine Con.of Try.ok26 (nt := 25) (res := [.tmp 2]) Try.mixed Try.func26 rfl rfl rfl rfl fun κ xc hκ => hκ.run 300 ?_
  simp (disch := omega) only [sBuiltin, exec_succ, runR_next, runR_need, runR_stop, stepS, runOp, toSR, sop, rOf, rNew, sBox, isArr, sLoadIn, sLoad, sConv, sFieldAddr, sLen, sliceT, obind, fillS, evps, repeatL, sBuildSlice, chunk, ev, svs, Env.get, Heap.get, takeN, cut, over, paste, aggOf, cellsS, one, ones, idFree, idFrees, envOf, Value.cells, Value.oneCell', OutOK_need, OutOK_stop, Bool.and_true, List.take_succ_cons, List.take_nil, Bool.false_eq_true, List.size_toArray, List.length_cons, List.length_nil, List.length_map, List.range, List.range.loop, List.getElem?_toArray, List.getElem?_cons_succ, List.getElem?_cons_zero, List.map_cons, List.map_nil, List.append_nil, List.toList_toArray, ↓reduceIte, Nat.reduceAdd, Nat.reduceLT, Nat.reduceLeDiff, Nat.reduceEqDiff, Nat.zero_add, Nat.add_zero, Nat.mul_one, Nat.add_one_ne_zero, true_and, and_self, forall_const, wrap_u8, gl0, Try.underlying3, Try.underlying5, Try.sz5, Try.ze5, Try.underlying24, Try.sz24, Try.ag24, Try.fd26f0, Try.underlying51]
  (repeat (refine ⟨by first | omega | (refine ⟨?_, ?_⟩ <;> omega) | trivial | (simp; done) | decide +kernel, fun _ => ?_⟩))
  refine Sat.less (Sat.loop (γ := Nat × List Int × Nat) (fun g => ([(14, I g.1), (13, I xs.length), (12, .rd 1 (xs.map eS)), (3, .sl 1 1 0 g.2.1.length g.2.2)], [(1, .row 1 g.2.2 5 (g.2.1.map (eI .u8)))], 2)) (fun g => xs.length - g.1)
    (fun g => g.1 ≤ xs.length ∧ g.2.1.length = g.1 + 1 ∧ g.2.1 ++ (xs.drop g.1).map cI = encP xs) ?round (0, [(xs.length : Int)], 1) ⟨Nat.zero_le _, rfl, rfl⟩) (by repeat' (first | exact EnvSub.nil _ | exact HeapSub.nil _ | refine EnvSub.cons rfl ?_ | refine HeapSub.cons rfl ?_ | (refine EnvSub.cons (by simp [Env.get]; done) ?_) | (refine HeapSub.cons (by simp [Heap.get]; done) ?_))) (by repeat' (first | exact EnvSub.nil _ | exact HeapSub.nil _ | refine EnvSub.cons rfl ?_ | refine HeapSub.cons rfl ?_ | (refine EnvSub.cons (by simp [Env.get]; done) ?_) | (refine HeapSub.cons (by simp [Heap.get]; done) ?_)))
  case round =>
    rintro ⟨k, out, cap⟩ ⟨hk2, hol, ho⟩ ih
    dsimp only at hk2 hol ho ih ⊢
    refine hκ.run 300 ?_
    simp (disch := omega) only [exec_succ, runR_next, stepS, runOp, condS, toSR, sop, sInt, sBin, ev, Env.get, List.size_toArray, List.length_cons, List.length_nil, List.range, List.range.loop, List.getElem?_toArray, List.getElem?_cons_zero, ↓reduceIte, Nat.reduceLT, Nat.reduceEqDiff, Nat.zero_add, gl0]
    refine OutOK_fork (fun h => ?_) (fun h => ?_) <;> try simp only [Bool.not_true, Bool.not_false, decide_eq_true_eq, decide_eq_false_iff_not, Bool.not_eq_true', Bool.not_eq_false', Bool.and_eq_true, Bool.or_eq_false_iff, Bool.or_eq_true, Bool.and_eq_false_iff] at h
    · have hs := (h2 _ (getD_mem (show k < xs.length by omega))).2
      rw [drop_getD (show k < xs.length by omega), List.map_cons] at ho
      have hz := fun out cap h1 h2 => ih (k + 1, out, cap) ⟨by dsimp only; omega, h1, h2⟩ (by dsimp only; omega)
      dsimp only at hz
      simp (disch := omega) only [sBuiltin, srcS, appArgS, sAppendTo, sAppend, exec_succ, runR_next, runR_need, runR_all, runR_stop, stepS, runOp, toSR, sop, rOf, rNew, isArr, sLoad, sInt, sBin, sConv, sIndexAddr, elemT, sliceT, obind, fillS, evps, repeatL, sBuildSlice, chunk, ev, svs, Env.get, Heap.get, Heap.drop, takeN, cut, over, paste, aggOf, cellsS, one, ones, idFree, idFrees, Value.cells, Value.oneCell', OutOK_need, OutOK_all, OutOK_stop, Bool.and_true, List.drop_zero, List.take_succ_cons, List.take_nil, List.size_toArray, List.length_cons, List.length_nil, List.length_map, List.range, List.range.loop, List.getElem?_toArray, List.getElem?_cons_succ, List.getElem?_cons_zero, List.map_cons, List.map_nil, List.append_nil, List.toList_toArray, ↓reduceIte, Nat.reduceAdd, Nat.reduceLT, Nat.reduceLeDiff, Nat.reduceEqDiff, Nat.zero_add, Nat.mul_one, Nat.add_one_ne_zero, Int.toNat_natCast, ne_eq, not_false_eq_true, true_and, and_self, forall_const, getD_map, wrap_i64, wrap_u8, Try.underlying5, Try.sz5, Try.ze5, Try.by5, Try.underlying24, Try.underlying31, Try.sz31, Try.ag31, Try.underlying51, eS]
      (repeat (refine ⟨by first | omega | (refine ⟨?_, ?_⟩ <;> omega) | trivial | (simp; done) | decide +kernel, fun _ => ?_⟩))
      generalize xs.getD k default = s at hs ho ⊢
      intro c
      have hy := hz (out ++ [cI s]) (out.length + 1 + c) (by simp; omega) (by rw [← ho, List.append_assoc]; rfl)
      have et : List.take out.length (List.map (eI .u8) out) = List.map (eI .u8) out := List.take_of_length_le (by simp)
      simp only [List.length_append, List.length_cons, List.length_nil, List.length_singleton, List.length_map, List.length_set, List.length_replicate, Nat.zero_add, Nat.add_zero, Int.natCast_add, Int.natCast_one, Int.ofNat_eq_natCast, List.map_append, List.map_cons, List.map_nil, List.take_length, eI, eB] at hy ⊢
      rw [et]
      refine Sat.via (fun i => if i = 1 then 3 else i) (hy) (by intro i j; (repeat (first | omega | split))) (by repeat' (first | exact EnvVia.nil | refine EnvVia.cons (by first | trivial | decide | (simp [SV.bnd, SV.bndL]; done)) rfl ?_)) (by repeat' (first | exact HeapVia.nil | refine HeapVia.cons (by decide) (by first | trivial | (simp [Blk.bnd, SV.bnd, SV.bndL]; done) | exact bndL_mapV _ _ _ | exact LR.bnd (by rw [l2]; simp [bndE, SV.bnd, SV.bndL]) (by rw [l6]; decide)) (by first | rfl | (simp only [Blk.ren, renL_mapV]; rfl) | (rw [LR.ren (by rw [l2] <;> rfl) (by rw [l6] <;> rfl)]; rfl)) ?_)) ⟨by have := hκ.hm; (try dsimp only at this); (first | done | omega), fun i hi => by have := hκ.hm; (try dsimp only at this); (first | omega | (dsimp only; omega) | (rw [if_neg (by omega)]))⟩ ⟨by simp, rfl⟩
    · obtain rfl : k = xs.length := by omega
      rw [List.drop_length, List.map_nil, List.append_nil] at ho
      subst ho
      simp (disch := omega) only [exec_succ, runR_next, runR_stop, stepS, runOp, goS, toSR, sop, rOf, ev, Env.get, exitTo, OutOK_stop, List.size_toArray, List.length_cons, List.length_nil, List.range, List.range.loop, List.getElem?_toArray, List.getElem?_cons_succ, List.getElem?_cons_zero, ↓reduceIte, Nat.reduceAdd, Nat.reduceLT, Nat.reduceEqDiff, Nat.zero_add, beq_self_eq_true]
      refine hκ.ret _ _ _ _ _ _ trivial rfl ?_
      exact Post.row rfl (by simp)
/- which bytes are pools -/
def decX (bs : List Int) : List Nat := bs.tail.map Int.toNat
def decE : List Int → Int
  | [] => 7
  | b :: t => if (t.length : Int) < b then 7 else if okP (t.map Int.toNat) = true ∧ (t.length : Int) = b then 0 else 180
def eS8 (b : Int) : List SV := [.v (.int .u32 b)]
theorem decE_nil : decE [] = 7 := rfl
theorem cI_toNat {t : List Int} (h : isB t) : (t.map Int.toNat).map cI = t := by
  rw [List.map_map]
  conv => rhs; rw [← List.map_id t]
  apply List.map_congr_left
  intro b hb
  have := h b hb
  simp only [Function.comp, cI, id]; omega
theorem eS_toNat {t : List Int} (h : isB t) : (t.map Int.toNat).map eS = t.map eS8 := by
  rw [List.map_map]
  apply List.map_congr_left
  intro b hb
  have := h b hb
  show [S b.toNat] = [.v (.int .u32 b)]
  rw [show S b.toNat = .v (.int .u32 ((b.toNat : Nat) : Int)) from rfl, Int.toNat_of_nonneg this.1]
theorem u32_toNat {t : List Int} (h : isB t) : u32s (t.map Int.toNat) := by
  intro s hs
  obtain ⟨b, hb, rfl⟩ := List.mem_map.1 hs
  have := h b hb
  omega
theorem encP_dec {b : Int} {t : List Int} (h : isB t) : (encP (t.map Int.toNat) = b :: t) ↔ ((t.length : Int) = b) := by
  rw [encP, cI_toNat h, List.length_map, List.cons.injEq]
  simp
theorem dec_ok (bs : List Int) (hb : isB bs) (hn : bs.length < 2 ^ 44) : Con Try.prog gl0 (fnv 27) [By bs] 0 [] (Ret (if decE bs = 0 then .tup [Po (decX bs), I 0] else .tup [noP, I (decE bs)])) := by
  refine Con.of Try.ok27 (nt := 52) (res := [.cell 2 26, .tmp 3]) Try.mixed Try.func27 rfl rfl rfl rfl fun κ xc hκ => hκ.run 300 ?_
  simp (disch := omega) only [sBuiltin, exec_succ, runR_next, stepS, runOp, guardS, toSR, sop, rOf, rNew, sAlloc, sAlloc0, sInt, sBin, sLen, ev, svs, Env.get, envOf, undefS, undef, List.size_toArray, List.length_cons, List.length_nil, List.length_map, List.range, List.range.loop, List.getElem?_toArray, List.getElem?_cons_succ, List.getElem?_cons_zero, List.map_cons, List.map_nil, Option.bind_some, ↓reduceIte, Nat.reduceAdd, Nat.reduceLT, Nat.zero_add, Nat.add_one_ne_zero, Bool.not_false, and_self, gl0, Try.ze26, Try.ar26, Try.underlying51]
  rcases bs with _ | ⟨b, t⟩
  · simp (disch := omega) only [sBuiltin, exec_succ, runR_next, runR_need, runR_fork_true, runR_guard_tf, runR_stop, stepS, runOp, guardS, condS, toSR, sop, rOf, sPick, sLoad, sStoreIn, sStore, sBin, sConv, sIndexAddr, sLen, fillS, evps, sBuild, ev, svs, Env.get, Heap.get, Heap.set, over, paste, cellsS, one, ones, Value.oneCell', OutOK_need, OutOK_stop, undefS, undef, Int.cast_ofNat_Int, List.size_toArray, List.length_cons, List.length_nil, List.range, List.range.loop, List.getElem?_toArray, List.getElem?_cons_succ, List.getElem?_cons_zero, List.map_cons, List.map_nil, Option.bind_some, ↓reduceIte, Nat.reduceAdd, Nat.reduceLT, Nat.reduceEqDiff, Nat.zero_add, Nat.add_one_ne_zero, Bool.not_false, decide_true, true_and, and_self, forall_const, Try.underlying5, Try.sz26, Try.ze26, Try.pl26]
    refine hκ.ret _ _ _ _ _ _ trivial rfl ?_
    rw [if_neg (by decide)]
    exact .ret (by simp [SV.bnd, SV.bndL])
  have hb0 := hb b (by simp)
  have ht : isB t := fun n hn => hb n (by simp [hn])
  have hn2 : t.length < 2 ^ 44 := by simp at hn; omega
  have e0 : ((t.length : Int) + 1 = 0) = False := by simp only [eq_iff_iff, iff_false]; omega
  by_cases h1 : (t.length : Int) < b
  · have e1 : ((t.length : Int) + 1 ≤ b) = True := by simp only [eq_iff_iff, iff_true]; omega
    have he : decE (b :: t) = 7 := by rw [decE, if_pos h1]
    simp (disch := omega) only [sBuiltin, exec_succ, runR_next, runR_need, runR_fork_true, runR_guard_ff, runR_stop, stepS, runOp, guardS, condS, toSR, sop, rOf, sPick, sLoad, sStoreIn, sStore, sInt, sBin, sConv, sIndexAddr, sLen, elemT, obind, fillS, evps, sBuild, ev, svs, Env.get, Heap.get, Heap.set, takeN, cut, over, paste, aggOf, cellsS, one, ones, Value.oneCell', OutOK_need, OutOK_stop, undefS, undef, Int.cast_ofNat_Int, Int.natCast_add, List.size_toArray, List.length_cons, List.length_nil, List.length_map, List.range, List.range.loop, List.getElem?_toArray, List.getElem?_cons_succ, List.getElem?_cons_zero, List.getD_cons_zero, List.map_cons, List.map_nil, Option.bind_some, ↓reduceIte, Nat.reduceAdd, Nat.reduceLT, Nat.reduceEqDiff, Nat.zero_add, Nat.add_one_ne_zero, Int.reduceToNat, Int.reduceLE, Bool.not_false, decide_true, decide_false, true_and, and_self, forall_const, eI, wrap_i64, Try.underlying3, Try.underlying5, Try.sz5, Try.ag5, Try.sz26, Try.ze26, Try.pl26, Try.underlying51, e0, e1, eI]
    (repeat (refine ⟨by first | omega | (refine ⟨?_, ?_⟩ <;> omega) | trivial | (simp; done) | decide +kernel, fun _ => ?_⟩))
    refine hκ.ret _ _ _ _ _ _ trivial rfl ?_
    rw [he, if_neg (by decide)]
    exact .ret (by simp [SV.bnd, SV.bndL])
  have e1 : ((t.length : Int) + 1 ≤ b) = False := by simp only [eq_iff_iff, iff_false]; omega
  simp (disch := omega) only [sBuiltin, exec_succ, runR_next, runR_need, runR_fork_false, runR_guard_ff, runR_stop, stepS, runOp, guardS, condS, toSR, sop, rOf, rNew, sPick, sAlloc, sAlloc0, sLoad, sInt, sBin, sConv, sIndexAddr, sLen, optI, sSlice, cutL, elemT, obind, ev, svs, Env.get, takeN, cut, aggOf, OutOK_need, OutOK_stop, undefS, undef, Int.cast_ofNat_Int, Int.natCast_add, List.drop_zero, List.drop_succ_cons, List.size_toArray, List.length_cons, List.length_nil, List.length_map, List.range, List.range.loop, List.getElem?_toArray, List.getElem?_cons_succ, List.getElem?_cons_zero, List.getD_cons_zero, List.map_cons, List.map_nil, Option.bind_some, Option.map_some, Option.map_none, Option.getD_some, Option.getD_none, ↓reduceIte, Nat.reduceAdd, Nat.reduceLT, Nat.reduceEqDiff, Nat.zero_add, Nat.add_one_ne_zero, Int.reduceToNat, Int.reduceLE, Bool.not_false, decide_false, true_and, and_self, eI, wrap_i64, Try.underlying3, Try.underlying5, Try.sz5, Try.ag5, Try.ze26, Try.ar26, Try.underlying51, e0, e1, eI]
  (repeat (refine ⟨by first | omega | (refine ⟨?_, ?_⟩ <;> omega) | trivial | (simp; done) | decide +kernel, fun _ => ?_⟩))
  refine Sat.nilCell 1 1 31 26 [] [] rfl ?_
  simp only [Heap.set, List.nil_append, Nat.reduceEqDiff, ↓reduceIte]
  refine Sat.less (Sat.loop (γ := Nat × List Nat × Nat) (fun g => ([(25, I g.1), (24, I t.length), (23, By t), (4, .ptr 1 0 0 0), (2, .ptr 0 0 0 0), (0, By (b :: t))], [(1, .own [.sl 2 1 0 g.2.1.length g.2.2] 26), (2, .row 1 g.2.2 31 (g.2.1.map eS)), (0, .own [.v (.slice none 0 0)] 26)], 3)) (fun g => t.length - g.1)
    (fun g => g.1 ≤ t.length ∧ g.2.1.length = g.1 ∧ g.2.1 ++ (t.drop g.1).map Int.toNat = t.map Int.toNat) ?round (0, [], 0) ⟨Nat.zero_le _, rfl, rfl⟩) (by repeat' (first | exact EnvSub.nil _ | exact HeapSub.nil _ | refine EnvSub.cons rfl ?_ | refine HeapSub.cons rfl ?_ | (refine EnvSub.cons (by simp [Env.get]; done) ?_) | (refine HeapSub.cons (by simp [Heap.get]; done) ?_))) (by repeat' (first | exact EnvSub.nil _ | exact HeapSub.nil _ | refine EnvSub.cons rfl ?_ | refine HeapSub.cons rfl ?_ | (refine EnvSub.cons (by simp [Env.get]; done) ?_) | (refine HeapSub.cons (by simp [Heap.get]; done) ?_)))
  case round =>
    rintro ⟨k, out, cap⟩ ⟨hk2, hol, ho⟩ ih
    dsimp only at hk2 hol ho ih ⊢
    refine Sat.room 2 rfl fun hroom => ?_
    rw [List.length_map] at hroom
    by_cases hkl : k < t.length
    · have hc := ht _ (getD_mem hkl)
      rw [drop_getD hkl, List.map_cons] at ho
      have hz := fun out cap h1 h2 => ih (k + 1, out, cap) ⟨by dsimp only; omega, h1, h2⟩ (by dsimp only; omega)
      dsimp only at hz
      have e2 : ((k : Int) < t.length) = True := by simp only [eq_iff_iff, iff_true]; omega
      obtain ⟨s, hs⟩ := Int.eq_ofNat_of_zero_le hc.1
      rw [hs, Int.toNat_natCast] at ho
      rw [hs] at hc
      refine hκ.run 300 ?_
      simp (disch := omega) only [sBuiltin, srcS, appArgS, sAppendTo, sAppend, exec_succ, runR_next, runR_need, runR_all, runR_fork_true, runR_stop, stepS, runOp, condS, toSR, sop, rOf, rNew, isArr, sLoadIn, sLoad, sStoreIn, sStore, sInt, sBin, sConv, sFieldAddr, sIndexAddr, elemT, sliceT, obind, fillS, evps, repeatL, sBuildSlice, chunk, ev, svs, Env.get, Heap.get, Heap.set, Heap.drop, takeN, cut, over, paste, aggOf, cellsS, one, ones, idFree, idFrees, Value.cells, Value.oneCell', OutOK_need, OutOK_all, OutOK_stop, undefS, undef, Bool.and_true, List.drop_zero, List.take_succ_cons, List.take_nil, List.size_toArray, List.length_cons, List.length_nil, List.length_map, List.range, List.range.loop, List.getElem?_toArray, List.getElem?_cons_succ, List.getElem?_cons_zero, List.map_cons, List.map_nil, List.append_nil, List.toList_toArray, ↓reduceIte, Nat.reduceAdd, Nat.reduceLT, Nat.reduceLeDiff, Nat.reduceEqDiff, Nat.zero_add, Nat.add_zero, Nat.mul_one, Nat.add_one_ne_zero, Int.toNat_natCast, decide_true, ne_eq, not_false_eq_true, and_true, true_and, and_self, forall_const, reduceCtorEq, getD_map, eI, wrap_i64, wrap_u32, gl0, Try.underlying5, Try.sz5, Try.ag5, Try.underlying24, Try.sz24, Try.ag24, Try.fd26f0, Try.underlying31, Try.sz31, Try.ze31, Try.by31, Try.underlying51, e2, eI, hs]
      (repeat (refine ⟨by first | omega | (refine ⟨?_, ?_⟩ <;> omega) | trivial | (simp; done) | decide +kernel, fun _ => ?_⟩))
      intro c
      have hy := hz (out ++ [s]) (out.length + 1 + c) (by simp; omega) (by rw [← ho, List.append_assoc]; rfl)
      have et : List.take out.length (List.map eS out) = List.map eS out := List.take_of_length_le (by simp)
      simp only [List.length_append, List.length_cons, List.length_nil, List.length_singleton, List.length_map, List.length_set, List.length_replicate, Nat.zero_add, Nat.add_zero, Int.natCast_add, Int.natCast_one, Int.ofNat_eq_natCast, List.map_append, List.map_cons, List.map_nil, List.take_length, eI, eB] at hy ⊢
      rw [et]
      refine Sat.via (fun i => if i = 2 then 4 else i) (hy) (by intro i j; (repeat (first | omega | split))) (by repeat' (first | exact EnvVia.nil | refine EnvVia.cons (by first | trivial | decide | (simp [SV.bnd, SV.bndL]; done)) rfl ?_)) (by repeat' (first | exact HeapVia.nil | refine HeapVia.cons (by decide) (by first | trivial | (simp [Blk.bnd, SV.bnd, SV.bndL]; done) | exact bndL_mapV _ _ _ | exact LR.bnd (by rw [l2]; simp [bndE, SV.bnd, SV.bndL]) (by rw [l6]; decide)) (by first | rfl | (simp only [Blk.ren, renL_mapV]; rfl) | (rw [LR.ren (by rw [l2] <;> rfl) (by rw [l6] <;> rfl)]; rfl)) ?_)) ⟨by have := hκ.hm; (try dsimp only at this); (first | done | omega), fun i hi => by have := hκ.hm; (try dsimp only at this); (first | omega | (dsimp only; omega) | (rw [if_neg (by omega)]))⟩ ⟨by simp, rfl⟩
    · obtain rfl : k = t.length := by omega
      rw [List.drop_length, List.map_nil, List.append_nil] at ho
      subst ho
      have e2 : ((t.length : Int) < t.length) = False := by simp
      have et : List.take (t.map Int.toNat).length (List.map eS (t.map Int.toNat)) = List.map eS (t.map Int.toNat) := List.take_of_length_le (by simp)
      refine Sat.frzOwn [2] 1 _ _ rfl (by decide) (by first | (simp [lendPL, lendP, lendSlP, Heap.get]; done) | (simp only [lendPL, lendP, lendSlP, Heap.get, List.mem_singleton, List.mem_cons, List.not_mem_nil, or_false, or_true, true_or, Nat.reduceEqDiff, Nat.one_ne_zero, Nat.zero_ne_one, ↓reduceIte, and_true, true_and, List.length_map, List.length_append, List.length_cons, List.length_nil, List.length_replicate]; omega)) ?_
      simp only [lendL, lendS, lendSl, Heap.get, without, List.mem_singleton, List.mem_cons, List.not_mem_nil, or_false, or_true, true_or, List.drop_zero, List.take_length, List.take_succ_cons, List.take_zero, Nat.reduceAdd, Nat.reduceEqDiff, Nat.one_ne_zero, Nat.zero_ne_one, ↓reduceIte]
      simp only [Heap.set, Nat.reduceEqDiff, ↓reduceIte, et]
      refine hκ.run 300 ?_
      simp (disch := omega) only [exec_succ, runR_next, runR_fork_false, runR_call, stepS, runOp, condS, goS, toSR, sop, rOf, sLoadIn, sLoad, sInt, sBin, ev, evs, Env.get, Heap.get, takeN, cut, aggOf, exitTo, OutOK_call, List.size_toArray, List.length_cons, List.length_nil, List.range, List.range.loop, List.getElem?_toArray, List.getElem?_cons_succ, List.getElem?_cons_zero, ↓reduceIte, Nat.reduceAdd, Nat.reduceLT, Nat.reduceEqDiff, Nat.zero_add, decide_false, beq_self_eq_true, gl0, Try.sz26, Try.ag26, e2]
      have c1 := enc_ok (t.map Int.toNat) (u32_toNat ht) (by simp; omega)
      by_cases hk : okP (t.map Int.toNat) = true
      · rw [if_pos hk] at c1
        refine Does.ret hκ.hP hκ.hgl (c1) ⟨trivial, by simp [SV.bnd, SV.bndL], by first | (simp [SV.bnd, SV.bndL]; done) | assumption⟩ ?_
        refine hκ.run 300 ?_
        simp (disch := omega) only [exec_succ, runR_next, runR_guard_ff, runR_call, stepS, runOp, guardS, toSR, sop, rOf, sInt, sBin, sExtract, ev, evs, Env.get, setO, OutOK_call, undefS, undef, List.size_toArray, List.length_cons, List.length_nil, List.range, List.range.loop, List.getElem?_toArray, List.getElem?_cons_succ, List.getElem?_cons_zero, Option.bind_some, ↓reduceIte, Nat.reduceAdd, Nat.reduceLT, Nat.reduceEqDiff, Nat.zero_add, Nat.add_one_ne_zero, Bool.not_true, Bool.not_false, decide_true, and_self, gl0]
        refine Does.ret hκ.hP hκ.hgl (bequal_ok (encP (t.map Int.toNat)) (b :: t) (encP_isB hk) hb) ⟨trivial, by simp [SV.bnd, SV.bndL], by first | (simp [SV.bnd, SV.bndL]; done) | assumption⟩ ?_
        by_cases hl : (t.length : Int) = b
        · rw [decide_eq_true ((encP_dec ht).2 hl)]
          refine hκ.run 300 ?_
          simp (disch := omega) only [exec_succ, runR_next, runR_need, runR_fork_false, runR_guard_ff, runR_stop, stepS, runOp, guardS, condS, toSR, sop, rOf, sPick, sLoadIn, sLoad, sStoreIn, sStore, sUn, ev, Env.get, Heap.get, Heap.set, takeN, cut, over, paste, aggOf, cellsS, one, ones, setO, OutOK_need, OutOK_stop, undefS, undef, List.size_toArray, List.length_cons, List.length_nil, List.range, List.range.loop, List.getElem?_toArray, List.getElem?_cons_succ, List.getElem?_cons_zero, Option.bind_some, ↓reduceIte, Nat.reduceAdd, Nat.reduceLT, Nat.reduceEqDiff, Nat.zero_add, Nat.add_one_ne_zero, Bool.not_true, Bool.not_false, true_and, and_self, forall_const, gl0, Try.sz26, Try.ag26]
          refine hκ.ret _ _ _ _ _ _ trivial rfl ?_
          have he : decE (b :: t) = 0 := by rw [decE, if_neg h1, if_pos ⟨hk, hl⟩]
          rw [he, if_pos rfl]
          exact .ret (by simp [SV.bnd, SV.bndL])
        · rw [decide_eq_false (fun h => hl ((encP_dec ht).1 h))]
          refine hκ.run 300 ?_
          simp (disch := omega) only [exec_succ, runR_next, runR_need, runR_fork_true, runR_guard_ff, runR_stop, stepS, runOp, guardS, condS, toSR, sop, rOf, sPick, sStoreIn, sStore, sUn, fillS, evps, sBuild, ev, svs, Env.get, Heap.get, Heap.set, over, paste, cellsS, one, ones, setO, Value.oneCell', OutOK_need, OutOK_stop, undefS, undef, List.size_toArray, List.length_cons, List.length_nil, List.range, List.range.loop, List.getElem?_toArray, List.getElem?_cons_succ, List.getElem?_cons_zero, List.map_cons, List.map_nil, Option.bind_some, ↓reduceIte, Nat.reduceAdd, Nat.reduceLT, Nat.reduceEqDiff, Nat.zero_add, Nat.add_one_ne_zero, Bool.not_false, true_and, and_self, forall_const, gl0, Try.sz26, Try.ze26, Try.pl26]
          refine hκ.ret _ _ _ _ _ _ trivial rfl ?_
          have he : decE (b :: t) = 180 := by rw [decE, if_neg h1, if_neg (fun h => hl h.2)]
          rw [he, if_neg (by decide)]
          exact .ret (by simp [SV.bnd, SV.bndL])
      · rw [if_neg hk] at c1
        refine Does.ret hκ.hP hκ.hgl (c1) ⟨trivial, by simp [SV.bnd, SV.bndL], by first | (simp [SV.bnd, SV.bndL]; done) | assumption⟩ ?_
        refine hκ.run 300 ?_
        simp (disch := omega) only [exec_succ, runR_next, runR_need, runR_fork_true, runR_guard_tf, runR_stop, stepS, runOp, guardS, condS, toSR, sop, rOf, sPick, sStoreIn, sStore, sInt, sBin, sUn, sExtract, fillS, evps, sBuild, ev, evs, svs, Env.get, Heap.get, Heap.set, over, paste, cellsS, one, ones, setO, Value.oneCell', OutOK_need, OutOK_stop, undefS, undef, List.size_toArray, List.length_cons, List.length_nil, List.range, List.range.loop, List.getElem?_toArray, List.getElem?_cons_succ, List.getElem?_cons_zero, List.map_cons, List.map_nil, Option.bind_some, ↓reduceIte, Nat.reduceAdd, Nat.reduceLT, Nat.reduceEqDiff, Nat.zero_add, Nat.add_one_ne_zero, Int.reduceEq, Bool.not_false, decide_false, true_and, and_self, forall_const, gl0, Try.sz26, Try.ze26, Try.pl26]
        refine hκ.ret _ _ _ _ _ _ trivial rfl ?_
        have he : decE (b :: t) = 180 := by rw [decE, if_neg h1, if_neg (fun h => hk h.1)]
        rw [he, if_neg (by decide)]
        exact .ret (by simp [SV.bnd, SV.bndL])
theorem rdec_ok (bs : List Int) (hb : isB bs) (hn : bs.length < 2 ^ 44) : Con Try.prog gl0 (fnv 28) [By bs] 0 [] (Ret (if decE bs = 0 then .tup [Po (decX bs), I 0] else .tup [noP, I (decE bs)])) := by
  refine Con.of Try.ok28 (nt := 51) (res := [.cell 2 26, .tmp 3]) Try.mixed Try.func28 rfl rfl rfl rfl fun κ xc hκ => hκ.run 300 ?_
  simp (disch := omega) only [sBuiltin, exec_succ, runR_next, stepS, runOp, guardS, toSR, sop, rOf, rNew, sAlloc, sAlloc0, sInt, sBin, sLen, ev, svs, Env.get, envOf, undefS, undef, List.size_toArray, List.length_cons, List.length_nil, List.length_map, List.range, List.range.loop, List.getElem?_toArray, List.getElem?_cons_succ, List.getElem?_cons_zero, List.map_cons, List.map_nil, Option.bind_some, ↓reduceIte, Nat.reduceAdd, Nat.reduceLT, Nat.zero_add, Nat.add_one_ne_zero, Bool.not_false, and_self, gl0, Try.ze26, Try.ar26, Try.underlying51]
  rcases bs with _ | ⟨b, t⟩
  · simp (disch := omega) only [sBuiltin, exec_succ, runR_next, runR_need, runR_fork_true, runR_guard_tf, runR_stop, stepS, runOp, guardS, condS, toSR, sop, rOf, sPick, sLoad, sStoreIn, sStore, sBin, sConv, sIndexAddr, sLen, fillS, evps, sBuild, ev, svs, Env.get, Heap.get, Heap.set, over, paste, cellsS, one, ones, Value.oneCell', OutOK_need, OutOK_stop, undefS, undef, Int.cast_ofNat_Int, List.size_toArray, List.length_cons, List.length_nil, List.range, List.range.loop, List.getElem?_toArray, List.getElem?_cons_succ, List.getElem?_cons_zero, List.map_cons, List.map_nil, Option.bind_some, ↓reduceIte, Nat.reduceAdd, Nat.reduceLT, Nat.reduceEqDiff, Nat.zero_add, Nat.add_one_ne_zero, Int.reduceLT, Bool.not_false, decide_true, true_and, and_self, forall_const, Try.underlying5, Try.sz26, Try.ze26, Try.pl26]
    refine hκ.ret _ _ _ _ _ _ trivial rfl ?_
    rw [if_neg (by decide)]
    exact .ret (by simp [SV.bnd, SV.bndL])
  have hb0 := hb b (by simp)
  have ht : isB t := fun n hn => hb n (by simp [hn])
  have hn2 : t.length < 2 ^ 44 := by simp at hn; omega
  have e0 : ((t.length : Int) + 1 < 1) = False := by simp only [eq_iff_iff, iff_false]; omega
  by_cases h1 : (t.length : Int) < b
  · have e1 : ((t.length : Int) + 1 < 1 + b) = True := by simp only [eq_iff_iff, iff_true]; omega
    have he : decE (b :: t) = 7 := by rw [decE, if_pos h1]
    simp (disch := omega) only [sBuiltin, exec_succ, runR_next, runR_need, runR_fork_true, runR_guard_ff, runR_stop, stepS, runOp, guardS, condS, toSR, sop, rOf, sPick, sLoad, sStoreIn, sStore, sInt, sBin, sConv, sIndexAddr, sLen, elemT, obind, fillS, evps, sBuild, ev, svs, Env.get, Heap.get, Heap.set, takeN, cut, over, paste, aggOf, cellsS, one, ones, Value.oneCell', OutOK_need, OutOK_stop, undefS, undef, Int.cast_ofNat_Int, Int.natCast_add, List.size_toArray, List.length_cons, List.length_nil, List.length_map, List.range, List.range.loop, List.getElem?_toArray, List.getElem?_cons_succ, List.getElem?_cons_zero, List.getD_cons_zero, List.map_cons, List.map_nil, Option.bind_some, ↓reduceIte, Nat.reduceAdd, Nat.reduceLT, Nat.reduceEqDiff, Nat.zero_add, Nat.add_one_ne_zero, Int.reduceToNat, Int.reduceLE, Bool.not_false, decide_true, decide_false, true_and, and_self, forall_const, eI, wrap_i64, Try.underlying3, Try.underlying5, Try.sz5, Try.ag5, Try.sz26, Try.ze26, Try.pl26, Try.underlying51, e0, e1, eI]
    (repeat (refine ⟨by first | omega | (refine ⟨?_, ?_⟩ <;> omega) | trivial | (simp; done) | decide +kernel, fun _ => ?_⟩))
    refine hκ.ret _ _ _ _ _ _ trivial rfl ?_
    rw [he, if_neg (by decide)]
    exact .ret (by simp [SV.bnd, SV.bndL])
  have e1 : ((t.length : Int) + 1 < 1 + b) = False := by simp only [eq_iff_iff, iff_false]; omega
  simp (disch := omega) only [sBuiltin, exec_succ, runR_next, runR_need, runR_fork_false, runR_guard_ff, runR_stop, stepS, runOp, guardS, condS, toSR, sop, rOf, rNew, sPick, sAlloc, sAlloc0, sLoad, sInt, sBin, sConv, sIndexAddr, sLen, optI, sSlice, cutL, elemT, obind, ev, svs, Env.get, takeN, cut, aggOf, OutOK_need, OutOK_stop, undefS, undef, Int.cast_ofNat_Int, Int.natCast_add, List.drop_zero, List.drop_succ_cons, List.size_toArray, List.length_cons, List.length_nil, List.length_map, List.range, List.range.loop, List.getElem?_toArray, List.getElem?_cons_succ, List.getElem?_cons_zero, List.getD_cons_zero, List.map_cons, List.map_nil, Option.bind_some, Option.map_some, Option.map_none, Option.getD_some, Option.getD_none, ↓reduceIte, Nat.reduceAdd, Nat.reduceLT, Nat.reduceEqDiff, Nat.zero_add, Nat.add_one_ne_zero, Int.reduceToNat, Int.reduceLE, Bool.not_false, decide_false, true_and, and_self, eI, wrap_i64, Try.underlying3, Try.underlying5, Try.sz5, Try.ag5, Try.ze26, Try.ar26, Try.underlying51, e0, e1, eI]
  (repeat (refine ⟨by first | omega | (refine ⟨?_, ?_⟩ <;> omega) | trivial | (simp; done) | decide +kernel, fun _ => ?_⟩))
  refine Sat.nilCell 1 1 31 26 [] [] rfl ?_
  simp only [Heap.set, List.nil_append, Nat.reduceEqDiff, ↓reduceIte]
  refine Sat.less (Sat.loop (γ := Nat × List Nat × Nat) (fun g => ([(24, I g.1), (23, I t.length), (22, By t), (4, .ptr 1 0 0 0), (2, .ptr 0 0 0 0), (0, By (b :: t))], [(1, .own [.sl 2 1 0 g.2.1.length g.2.2] 26), (2, .row 1 g.2.2 31 (g.2.1.map eS)), (0, .own [.v (.slice none 0 0)] 26)], 3)) (fun g => t.length - g.1)
    (fun g => g.1 ≤ t.length ∧ g.2.1.length = g.1 ∧ g.2.1 ++ (t.drop g.1).map Int.toNat = t.map Int.toNat) ?round (0, [], 0) ⟨Nat.zero_le _, rfl, rfl⟩) (by repeat' (first | exact EnvSub.nil _ | exact HeapSub.nil _ | refine EnvSub.cons rfl ?_ | refine HeapSub.cons rfl ?_ | (refine EnvSub.cons (by simp [Env.get]; done) ?_) | (refine HeapSub.cons (by simp [Heap.get]; done) ?_))) (by repeat' (first | exact EnvSub.nil _ | exact HeapSub.nil _ | refine EnvSub.cons rfl ?_ | refine HeapSub.cons rfl ?_ | (refine EnvSub.cons (by simp [Env.get]; done) ?_) | (refine HeapSub.cons (by simp [Heap.get]; done) ?_)))
  case round =>
    rintro ⟨k, out, cap⟩ ⟨hk2, hol, ho⟩ ih
    dsimp only at hk2 hol ho ih ⊢
    refine Sat.room 2 rfl fun hroom => ?_
    rw [List.length_map] at hroom
    by_cases hkl : k < t.length
    · have hc := ht _ (getD_mem hkl)
      rw [drop_getD hkl, List.map_cons] at ho
      have hz := fun out cap h1 h2 => ih (k + 1, out, cap) ⟨by dsimp only; omega, h1, h2⟩ (by dsimp only; omega)
      dsimp only at hz
      have e2 : ((k : Int) < t.length) = True := by simp only [eq_iff_iff, iff_true]; omega
      obtain ⟨s, hs⟩ := Int.eq_ofNat_of_zero_le hc.1
      rw [hs, Int.toNat_natCast] at ho
      rw [hs] at hc
      refine hκ.run 300 ?_
      simp (disch := omega) only [sBuiltin, srcS, appArgS, sAppendTo, sAppend, exec_succ, runR_next, runR_need, runR_all, runR_fork_true, runR_stop, stepS, runOp, condS, toSR, sop, rOf, rNew, isArr, sLoadIn, sLoad, sStoreIn, sStore, sInt, sBin, sConv, sFieldAddr, sIndexAddr, elemT, sliceT, obind, fillS, evps, repeatL, sBuildSlice, chunk, ev, svs, Env.get, Heap.get, Heap.set, Heap.drop, takeN, cut, over, paste, aggOf, cellsS, one, ones, idFree, idFrees, Value.cells, Value.oneCell', OutOK_need, OutOK_all, OutOK_stop, undefS, undef, Bool.and_true, List.drop_zero, List.take_succ_cons, List.take_nil, List.size_toArray, List.length_cons, List.length_nil, List.length_map, List.range, List.range.loop, List.getElem?_toArray, List.getElem?_cons_succ, List.getElem?_cons_zero, List.map_cons, List.map_nil, List.append_nil, List.toList_toArray, ↓reduceIte, Nat.reduceAdd, Nat.reduceLT, Nat.reduceLeDiff, Nat.reduceEqDiff, Nat.zero_add, Nat.add_zero, Nat.mul_one, Nat.add_one_ne_zero, Int.toNat_natCast, decide_true, ne_eq, not_false_eq_true, and_true, true_and, and_self, forall_const, reduceCtorEq, getD_map, eI, wrap_i64, wrap_u32, gl0, Try.underlying5, Try.sz5, Try.ag5, Try.underlying24, Try.sz24, Try.ag24, Try.fd26f0, Try.underlying31, Try.sz31, Try.ze31, Try.by31, Try.underlying51, e2, eI, hs]
      (repeat (refine ⟨by first | omega | (refine ⟨?_, ?_⟩ <;> omega) | trivial | (simp; done) | decide +kernel, fun _ => ?_⟩))
      intro c
      have hy := hz (out ++ [s]) (out.length + 1 + c) (by simp; omega) (by rw [← ho, List.append_assoc]; rfl)
      have et : List.take out.length (List.map eS out) = List.map eS out := List.take_of_length_le (by simp)
      simp only [List.length_append, List.length_cons, List.length_nil, List.length_singleton, List.length_map, List.length_set, List.length_replicate, Nat.zero_add, Nat.add_zero, Int.natCast_add, Int.natCast_one, Int.ofNat_eq_natCast, List.map_append, List.map_cons, List.map_nil, List.take_length, eI, eB] at hy ⊢
      rw [et]
      refine Sat.via (fun i => if i = 2 then 4 else i) (hy) (by intro i j; (repeat (first | omega | split))) (by repeat' (first | exact EnvVia.nil | refine EnvVia.cons (by first | trivial | decide | (simp [SV.bnd, SV.bndL]; done)) rfl ?_)) (by repeat' (first | exact HeapVia.nil | refine HeapVia.cons (by decide) (by first | trivial | (simp [Blk.bnd, SV.bnd, SV.bndL]; done) | exact bndL_mapV _ _ _ | exact LR.bnd (by rw [l2]; simp [bndE, SV.bnd, SV.bndL]) (by rw [l6]; decide)) (by first | rfl | (simp only [Blk.ren, renL_mapV]; rfl) | (rw [LR.ren (by rw [l2] <;> rfl) (by rw [l6] <;> rfl)]; rfl)) ?_)) ⟨by have := hκ.hm; (try dsimp only at this); (first | done | omega), fun i hi => by have := hκ.hm; (try dsimp only at this); (first | omega | (dsimp only; omega) | (rw [if_neg (by omega)]))⟩ ⟨by simp, rfl⟩
    · obtain rfl : k = t.length := by omega
      rw [List.drop_length, List.map_nil, List.append_nil] at ho
      subst ho
      have e2 : ((t.length : Int) < t.length) = False := by simp
      have et : List.take (t.map Int.toNat).length (List.map eS (t.map Int.toNat)) = List.map eS (t.map Int.toNat) := List.take_of_length_le (by simp)
      refine Sat.frzOwn [2] 1 _ _ rfl (by decide) (by first | (simp [lendPL, lendP, lendSlP, Heap.get]; done) | (simp only [lendPL, lendP, lendSlP, Heap.get, List.mem_singleton, List.mem_cons, List.not_mem_nil, or_false, or_true, true_or, Nat.reduceEqDiff, Nat.one_ne_zero, Nat.zero_ne_one, ↓reduceIte, and_true, true_and, List.length_map, List.length_append, List.length_cons, List.length_nil, List.length_replicate]; omega)) ?_
      simp only [lendL, lendS, lendSl, Heap.get, without, List.mem_singleton, List.mem_cons, List.not_mem_nil, or_false, or_true, true_or, List.drop_zero, List.take_length, List.take_succ_cons, List.take_zero, Nat.reduceAdd, Nat.reduceEqDiff, Nat.one_ne_zero, Nat.zero_ne_one, ↓reduceIte]
      simp only [Heap.set, Nat.reduceEqDiff, ↓reduceIte, et]
      refine hκ.run 300 ?_
      simp (disch := omega) only [sBuiltin, exec_succ, runR_next, runR_need, runR_fork_false, stepS, runOp, guardS, condS, goS, toSR, sop, rOf, sLoadIn, sLoad, sInt, sBin, sConv, sIndexAddr, sLen, elemT, obind, ev, Env.get, Heap.get, takeN, cut, aggOf, exitTo, OutOK_need, undefS, undef, Int.cast_ofNat_Int, Int.natCast_add, List.size_toArray, List.length_cons, List.length_nil, List.length_map, List.range, List.range.loop, List.getElem?_toArray, List.getElem?_cons_succ, List.getElem?_cons_zero, List.getD_cons_zero, List.map_cons, Option.bind_some, ↓reduceIte, Nat.reduceAdd, Nat.reduceLT, Nat.reduceEqDiff, Nat.zero_add, Nat.add_one_ne_zero, Int.reduceToNat, Int.reduceLE, Bool.not_false, decide_false, beq_self_eq_true, true_and, and_self, eI, wrap_i64, gl0, Try.underlying3, Try.underlying5, Try.sz5, Try.ag5, Try.sz26, Try.ag26, Try.underlying51, e2]
      have c1 := rpright_ok (t.map Int.toNat) (by simp; omega)
      by_cases hl : (t.length : Int) = b
      · have e4 : ((t.length : Int) + 1 = 1 + b) = True := by simp only [eq_iff_iff, iff_true]; omega
        simp (disch := omega) only [exec_succ, runR_next, runR_guard_ff, runR_call, stepS, runOp, guardS, ev, evs, Env.get, OutOK_call, undefS, undef, List.getElem?_toArray, List.getElem?_cons_succ, List.getElem?_cons_zero, Option.bind_some, ↓reduceIte, Nat.reduceLT, Nat.reduceEqDiff, Bool.not_true, Bool.not_false, decide_true, and_self, e4]
        (repeat (refine ⟨by first | omega | (refine ⟨?_, ?_⟩ <;> omega) | trivial | (simp; done) | decide +kernel, fun _ => ?_⟩))
        refine Does.ret hκ.hP hκ.hgl (c1) ⟨trivial, by simp [SV.bnd, SV.bndL], by first | (simp [SV.bnd, SV.bndL]; done) | assumption⟩ ?_
        cases hk : okP (t.map Int.toNat)
        · refine hκ.run 300 ?_
          simp (disch := omega) only [exec_succ, runR_next, runR_need, runR_fork_true, runR_guard_ff, runR_stop, stepS, runOp, guardS, condS, toSR, sop, rOf, sPick, sStoreIn, sStore, sUn, fillS, evps, sBuild, ev, svs, Env.get, Heap.get, Heap.set, over, paste, cellsS, one, ones, setO, Value.oneCell', OutOK_need, OutOK_stop, undefS, undef, List.size_toArray, List.length_cons, List.length_nil, List.range, List.range.loop, List.getElem?_toArray, List.getElem?_cons_succ, List.getElem?_cons_zero, List.map_cons, List.map_nil, Option.bind_some, ↓reduceIte, Nat.reduceAdd, Nat.reduceLT, Nat.reduceEqDiff, Nat.zero_add, Nat.add_one_ne_zero, Bool.not_false, true_and, and_self, forall_const, gl0, Try.sz26, Try.ze26, Try.pl26]
          refine hκ.ret _ _ _ _ _ _ trivial rfl ?_
          have he : decE (b :: t) = 180 := by rw [decE, if_neg h1, if_neg (fun h => by rw [hk] at h; cases h.1)]
          rw [he, if_neg (by decide)]
          exact .ret (by simp [SV.bnd, SV.bndL])
        · refine hκ.run 300 ?_
          simp (disch := omega) only [exec_succ, runR_next, runR_need, runR_fork_false, runR_guard_ff, runR_stop, stepS, runOp, guardS, condS, toSR, sop, rOf, sPick, sLoadIn, sLoad, sStoreIn, sStore, sUn, ev, Env.get, Heap.get, Heap.set, takeN, cut, over, paste, aggOf, cellsS, one, ones, setO, OutOK_need, OutOK_stop, undefS, undef, List.size_toArray, List.length_cons, List.length_nil, List.range, List.range.loop, List.getElem?_toArray, List.getElem?_cons_succ, List.getElem?_cons_zero, Option.bind_some, ↓reduceIte, Nat.reduceAdd, Nat.reduceLT, Nat.reduceEqDiff, Nat.zero_add, Nat.add_one_ne_zero, Bool.not_true, Bool.not_false, true_and, and_self, forall_const, gl0, Try.sz26, Try.ag26]
          refine hκ.ret _ _ _ _ _ _ trivial rfl ?_
          have he : decE (b :: t) = 0 := by rw [decE, if_neg h1, if_pos ⟨hk, hl⟩]
          rw [he, if_pos rfl]
          exact .ret (by simp [SV.bnd, SV.bndL])
      · have e4 : ((t.length : Int) + 1 = 1 + b) = False := by simp only [eq_iff_iff, iff_false]; omega
        simp (disch := omega) only [exec_succ, runR_next, runR_need, runR_fork_true, runR_guard_tf, runR_stop, stepS, runOp, guardS, condS, toSR, sop, rOf, sPick, sStoreIn, sStore, sUn, fillS, evps, sBuild, ev, evs, svs, Env.get, Heap.get, Heap.set, over, paste, cellsS, one, ones, Value.oneCell', OutOK_need, OutOK_stop, undefS, undef, List.size_toArray, List.length_cons, List.length_nil, List.range, List.range.loop, List.getElem?_toArray, List.getElem?_cons_succ, List.getElem?_cons_zero, List.map_cons, List.map_nil, Option.bind_some, ↓reduceIte, Nat.reduceAdd, Nat.reduceLT, Nat.reduceEqDiff, Nat.zero_add, Nat.add_one_ne_zero, Bool.not_false, decide_false, true_and, and_self, forall_const, Try.sz26, Try.ze26, Try.pl26, e4]
        (repeat (refine ⟨by first | omega | (refine ⟨?_, ?_⟩ <;> omega) | trivial | (simp; done) | decide +kernel, fun _ => ?_⟩))
        refine hκ.ret _ _ _ _ _ _ trivial rfl ?_
        have he : decE (b :: t) = 180 := by rw [decE, if_neg h1, if_neg (fun h => hl h.2)]
        rw [he, if_neg (by decide)]
        exact .ret (by simp [SV.bnd, SV.bndL])
end Go.Proofs.Ytfhiaddbpacgeaa
