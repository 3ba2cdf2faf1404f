/- A row's bytes: Row. No condition. -/
import Derived.Test.YtmieikflcolbaaaLa
namespace Go.Proofs.Ytmieikflcolbaaa
open Go Go.Sy
set_option maxRecDepth 100000
set_option linter.unusedSimpArgs false
set_option linter.unusedVariables false
set_option maxHeartbeats 4000000
abbrev Es (l : List Evt) : SV := .rd 29 (l.map ec)
theorem bytC_len {a : Evt} {c : Nat} (h : fitC a c = true) : (bytC a c).length ≤ 33 := by
  unfold fitC at h
  unfold bytC
  have hL : ∀ l : List Int, fitL l = true → ((l.length : Int) :: l).length ≤ 33 := by
    intro l hl
    rw [fitL, Bool.and_eq_true, decide_eq_true_eq] at hl
    simp only [List.length_cons]; omega
  by_cases c1 : c = 109
  · simp only [c1, if_true, List.length_append, dig_length]; decide
  by_cases c2 : c = 77
  · simp only [c2, if_true, Nat.reduceEqDiff, if_false, List.length_append, dig_length]; decide
  by_cases c3 : c = 110
  · simp only [c3, if_true, Nat.reduceEqDiff, if_false, or_self] at h ⊢; exact hL _ h
  by_cases c4 : c = 78
  · simp only [c4, if_true, Nat.reduceEqDiff, if_false, or_self] at h ⊢; exact hL _ h
  simp only [c1, c2, c3, c4, if_false, dig_length]
  have := wid_le c
  omega
theorem flat_len {a : Evt} : ∀ l : List Nat, l.all (fitC a) = true → (l.flatMap (bytC a)).length ≤ l.length * 33
  | [], _ => Nat.le_refl _
  | c :: l, h => by
    rw [List.all_cons, Bool.and_eq_true] at h
    have := flat_len l h.2
    have := bytC_len h.1
    rw [List.flatMap_cons, List.length_append, List.length_cons]
    omega
theorem encB_len (a : Evt) (ha : wf a) : (encB a).length ≤ 140 := by
  by_cases h : encE a = 0
  · obtain ⟨h1, h2, -⟩ := encB_eq ha h
    rw [h1, bytE]
    rw [fitE] at h2
    have hh : (headB a).length ≤ 2 := by unfold headB; repeat' split
                                         all_goals (simp only [List.length_cons, List.length_nil]; omega)
    cases hf : fld a with
    | none => rw [hf] at h2; cases h2
    | some l =>
      rw [hf] at h2
      have h3 := flat_len l h2
      have h4 : l.length ≤ 4 := by
        unfold fld at hf
        repeat' split at hf
        · exact callL_len hf
        · exact liveL_len hf
        · cases hf; decide
        · cases hf
      dsimp only
      rw [List.length_append]
      omega
  · rw [encB, if_neg h]; exact Nat.zero_le _
def badAt : List Evt → Nat
  | [] => 0
  | a :: l => if encE a = 0 then badAt l + 1 else 0
def rowE (l : List Evt) : Int := if 2000 < l.length then 3 else if badAt l < l.length then 360 else 0
def rowAt (l : List Evt) : Int := if 2000 < l.length then 0 else if badAt l < l.length then badAt l else 0
def rowB (l : List Evt) : List Int := if rowE l = 0 then bytesF l.length 2 ++ l.flatMap encB else []
theorem flatE_len : ∀ l : List Evt, (∀ a ∈ l, wf a) → (l.flatMap encB).length ≤ l.length * 140
  | [], _ => Nat.le_refl _
  | a :: l, h => by
    have h1 := flatE_len l fun x hx => h x (by simp [hx])
    have h2 := encB_len a (h a (by simp))
    rw [List.flatMap_cons, List.length_append, List.length_cons]
    omega
theorem badAt_drop : ∀ (l : List Evt) (k : Nat), k ≤ l.length → (∀ a ∈ l.take k, encE a = 0) → badAt l = k + badAt (l.drop k)
  | l, 0, _, _ => by simp
  | [], k + 1, h, _ => absurd h (by simp)
  | a :: l, k + 1, h, hz => by
    have h1 : encE a = 0 := hz a (by simp)
    have h2 := badAt_drop l k (by simpa using h) fun x hx => hz x (by simp [hx])
    rw [badAt, if_pos h1, h2, List.drop_succ_cons]
    omega
theorem put16n (n : Int) (h0 : 0 ≤ n) (h1 : n ≤ 65535) : Con Try.prog gl0 (fnv 45) [.v (.slice none 0 0), .v (.int .u16 n)] 0 [] (RetRow 5 1 ((bytesF n 2).map (eI .u8))) := by
  have h := put16_ok [] n h0 h1 (by decide)
  rw [List.nil_append] at h
  exact Con.argR (fun ν => RelL.mapHead fun _ => nil_rd) h
theorem row_ok (l : List Evt) (hw : ∀ a ∈ l, wf a) (hn : l.length < 2 ^ 40) : Con Try.prog gl0 (fnv 21) [Es l] 0 [] (Ret (.tup [By (rowB l), I (rowAt l), I (rowE l)])) := by
  suffices H : Con Try.prog gl0 (fnv 21) [Es l] 0 [] (Ret (.tup [if rowE l = 0 then By (bytesF l.length 2 ++ l.flatMap encB) else .v (.slice none 0 0), I (rowAt l), I (rowE l)])) by
    by_cases ho : rowE l = 0
    · rw [if_pos ho] at H; rw [rowB, if_pos ho]; exact H
    · rw [if_neg ho] at H; rw [rowB, if_neg ho]; exact Con.repR (fun ν => Rel.tupMap (RelL.mapHead fun _ => nil_rd)) H
  have hE : rowE l = if 2000 < l.length then 3 else if badAt l < l.length then 360 else 0 := rfl
  have hA : rowAt l = if 2000 < l.length then (0 : Int) else if badAt l < l.length then (badAt l : Int) else 0 := rfl
  by_cases h2 : 2000 < l.length
  · rw [if_pos h2] at hE hA
    rw [hE, hA, if_neg (show ¬(3 : Int) = 0 by decide)]
    have q1 : (2000 < (l.length : Int)) = True := by first | (simp only [eq_iff_iff, iff_true]; first | assumption | omega) | (simp; omega)
    refine Con.of Try.ok21 (nt := 38) (res := [.tmp 2, .tmp 3, .tmp 4]) Try.mixed Try.func21 rfl rfl rfl rfl fun κ xc hκ => hκ.run 300 ?_
    simp (disch := omega) only [sBuiltin, exec_succ, runR_next, runR_fork_true, runR_stop, stepS, runOp, condS, toSR, sop, rOf, sInt, sBin, sLen, ev, Env.get, envOf, OutOK_stop, List.size_toArray, List.length_cons, List.length_nil, List.length_map, List.range, List.range.loop, List.getElem?_toArray, List.getElem?_cons_succ, List.getElem?_cons_zero, ↓reduceIte, Nat.reduceAdd, Nat.reduceLT, Nat.zero_add, Nat.add_one_ne_zero, decide_true, gl0, Try.underlying47, q1]
    refine hκ.ret _ _ _ _ _ _ trivial rfl ?_
    exact .ret (by simp [SV.bnd, SV.bndL])
  rw [if_neg h2] at hE hA
  have hp := put16n l.length (by omega) (by omega)
  have q1 : (2000 < (l.length : Int)) = False := by first | (simp only [eq_iff_iff, iff_false]; first | assumption | omega) | (simp; omega)
  have w16 : IntKind.u16.wrap (l.length : Int) = l.length := by rw [wrap_u16_mod]; omega
  refine Con.of Try.ok21 (nt := 38) (res := [.tmp 2, .tmp 3, .tmp 4]) Try.mixed Try.func21 rfl rfl rfl rfl fun κ xc hκ => hκ.run 300 ?_
  simp (disch := omega) only [sBuiltin, exec_succ, runR_next, runR_fork_false, runR_call, stepS, runOp, condS, toSR, sop, rOf, sInt, sBin, sConv, sLen, ev, evs, Env.get, envOf, OutOK_call, List.size_toArray, List.length_cons, List.length_nil, List.length_map, List.range, List.range.loop, List.getElem?_toArray, List.getElem?_cons_succ, List.getElem?_cons_zero, ↓reduceIte, Nat.reduceAdd, Nat.reduceLT, Nat.zero_add, Nat.add_one_ne_zero, decide_false, gl0, Try.underlying3, Try.underlying47, Try.underlying89, q1, w16]
  refine Does.row hκ.hP hκ.hgl hp ⟨trivial, by simp [SV.bnd, SV.bndL]⟩ fun cap0 hcap0 => ?_
  rw [List.length_map, bytesF_length] at hcap0
  refine hκ.run 300 ?_
  simp (disch := omega) only [sBuiltin, exec_succ, runR_next, runR_stop, stepS, runOp, toSR, sop, rOf, sLen, ev, Env.get, setO, OutOK_stop, List.size_toArray, List.length_cons, List.length_nil, List.length_map, List.range, List.range.loop, List.getElem?_toArray, List.getElem?_cons_succ, List.getElem?_cons_zero, ↓reduceIte, Nat.reduceAdd, Nat.reduceLT, Nat.zero_add, Nat.add_one_ne_zero, gl0, Try.underlying47]
  refine Sat.less (Sat.loop (γ := Nat × Nat) (fun g => ([(19, I g.1), (18, I l.length), (17, Es l), (5, .sl 0 1 0 (bytesF l.length 2 ++ (l.take g.1).flatMap encB).length g.2)], [(0, .row 1 g.2 5 ((bytesF l.length 2 ++ (l.take g.1).flatMap encB).map (eI .u8)))], 1))
    (fun g => l.length - g.1) (fun g => g.1 ≤ l.length ∧ (∀ a ∈ l.take g.1, encE a = 0) ∧ (bytesF l.length 2 ++ (l.take g.1).flatMap encB).length ≤ g.2) ?round (0, cap0) ⟨Nat.zero_le _, by simp, by simpa [bytesF_length] using hcap0⟩) (by repeat' (first | exact EnvSub.nil _ | exact HeapSub.nil _ | refine EnvSub.cons rfl ?_ | refine HeapSub.cons rfl ?_ | (refine EnvSub.cons (by simp [Env.get]; done) ?_) | (refine HeapSub.cons (by simp [Heap.get]; done) ?_))) (by simp only [List.take_zero, List.flatMap_nil, List.append_nil]; exact (by repeat' (first | exact EnvSub.nil _ | exact HeapSub.nil _ | refine EnvSub.cons rfl ?_ | refine HeapSub.cons rfl ?_ | (refine EnvSub.cons (by simp [Env.get]; done) ?_) | (refine HeapSub.cons (by simp [Heap.get]; done) ?_))))
  case round =>
    rintro ⟨k, cp⟩ ⟨hk, hz, hcp⟩ ih
    dsimp only at hk hz hcp ih ⊢
    by_cases hkl : k < l.length
    · have q2 : ((k : Int) < l.length) = True := by first | (simp only [eq_iff_iff, iff_true]; first | assumption | omega) | (simp; omega)
      have gk : (List.map ec l).getD k [] = ec (l.getD k default) := getD_map _ _ _ hkl
      have hm : l.getD k default ∈ l := by
        rw [List.getD, List.getElem?_eq_getElem hkl]; exact List.getElem_mem _
      have htk : l.take (k + 1) = l.take k ++ [l.getD k default] := by
        rw [List.take_succ_eq_append_getElem hkl, List.getD, List.getElem?_eq_getElem hkl]; rfl
      have hd : l.drop k = l.getD k default :: l.drop (k + 1) := by
        rw [List.drop_eq_getElem_cons hkl, List.getD, List.getElem?_eq_getElem hkl]; rfl
      have hbd := badAt_drop l k hk hz
      rw [hd] at hbd
      have hlen := flatE_len (l.take k) fun x hx => hw x (List.mem_of_mem_take hx)
      rw [List.length_take] at hlen
      have hwa := hw _ hm
      have e1 := encode_ok _ hwa
      have ha2 := encB_len _ hwa
      clear hm hd
      generalize l.getD k default = a at *
      have hz1 : encE a = 0 → ∀ cap, (bytesF l.length 2 ++ (l.take (k + 1)).flatMap encB).length ≤ cap → _ := fun h0 cap h => ih (k + 1, cap) ⟨by dsimp only; omega, by
        intro x hx
        rw [htk, List.mem_append] at hx
        rcases hx with hx | hx
        · exact hz x hx
        · rw [List.mem_singleton.1 hx]; exact h0, h⟩ (by dsimp only; omega)
      dsimp only at hz1
      rw [htk, List.flatMap_append, List.flatMap_cons, List.flatMap_nil, List.append_nil, ← List.append_assoc] at hz1
      have hpl : (bytesF (l.length : Int) 2 ++ (l.take k).flatMap encB).length ≤ 2 + 2000 * 140 := by
        rw [List.length_append, bytesF_length]
        omega
      clear ih htk
      generalize bytesF (l.length : Int) 2 ++ (l.take k).flatMap encB = pre at *
      generalize encB a = ys at *
      refine hκ.run 300 ?_
      simp (disch := omega) only [exec_succ, runR_next, runR_need, runR_fork_true, runR_call, stepS, runOp, condS, toSR, sop, rOf, rNew, sAlloc, sAlloc0, sLoadIn, sLoad, sStoreIn, sStore, sInt, sBin, sIndexAddr, elemT, obind, ev, evs, svs, Env.get, Heap.get, Heap.set, cut, paste, aggOf, cellsS, OutOK_need, OutOK_call, undefS, undef, List.size_toArray, List.length_cons, List.length_nil, List.length_map, List.range, List.range.loop, List.getElem?_toArray, List.getElem?_cons_succ, List.getElem?_cons_zero, List.map_cons, List.map_nil, ↓reduceIte, Nat.reduceAdd, Nat.reduceLT, Nat.reduceEqDiff, Nat.zero_add, Nat.add_zero, Nat.mul_zero, Int.toNat_natCast, decide_true, and_true, true_and, forall_const, gl0, Try.sz37, Try.ag37, Try.ze37, Try.ar37, Try.underlying47, q2, gk, tec, lec, oec, ones_ec]
      (repeat (refine ⟨by first | omega | (refine ⟨?_, ?_⟩ <;> omega) | trivial | (simp; done) | decide +kernel, fun _ => ?_⟩))
      rcases encE_or hwa with h0 | h0
      · rw [h0] at e1
        have hz1 := hz1 h0
        have et : List.take pre.length (List.map (eI .u8) pre) = List.map (eI .u8) pre := List.take_of_length_le (by simp)
        refine Does.ret hκ.hP hκ.hgl (e1) ⟨trivial, by first | (simp [SV.bnd, SV.bndL]; done) | (simp [SV.bnd, SV.bndL, ec_bnd]; done), by first | (simp [SV.bnd, SV.bndL]; done) | (simp [SV.bnd, SV.bndL, ec_bnd]; done) | assumption⟩ ?_
        refine hκ.run 300 ?_
        simp (disch := omega) only [sBuiltin, srcS, appArgS, sAppendTo, sAppend, exec_succ, runR_next, runR_need, runR_all, runR_fork_false, runR_stop, stepS, runOp, condS, toSR, sop, rOf, sInt, sBin, sExtract, sliceT, obind, ev, Env.get, Heap.get, Heap.drop, setO, OutOK_need, OutOK_all, OutOK_stop, List.size_toArray, List.length_cons, List.length_nil, List.length_map, List.range, List.range.loop, List.getElem?_toArray, List.getElem?_cons_succ, List.getElem?_cons_zero, ↓reduceIte, Nat.reduceAdd, Nat.reduceLT, Nat.reduceEqDiff, Nat.zero_add, Nat.mul_one, Nat.add_one_ne_zero, Bool.not_true, decide_true, true_and, wrap_i64, gl0, Try.sz5, Try.ze5, Try.by5, Try.underlying24]
        (repeat (refine ⟨by first | omega | (refine ⟨?_, ?_⟩ <;> omega) | trivial | (simp; done) | decide +kernel, fun _ => ?_⟩))
        intro c
        rw [et]
        have hy := hz1 (pre.length + ys.length + c) (by simp)
        simp only [List.length_append, List.length_cons, List.length_nil, List.length_singleton, List.length_map, List.length_set, List.length_replicate, Nat.zero_add, Nat.add_zero, Int.natCast_add, Int.natCast_one, Int.ofNat_eq_natCast, List.map_append, List.map_cons, List.map_nil, List.take_length, eI, eB] at hy ⊢
        refine Sat.via (fun i => if i = 0 then 2 else i) (hy) (by intro i j; (repeat (first | omega | split))) (by repeat' (first | exact EnvVia.nil | refine EnvVia.cons (by first | trivial | decide | (simp [SV.bnd, SV.bndL]; done)) rfl ?_)) (by repeat' (first | exact HeapVia.nil | refine HeapVia.cons (by decide) (by first | trivial | exact Blk.bnd_own0 (by assumption) | (simp [Blk.bnd, SV.bnd, SV.bndL]; done) | exact bndL_mapV _ _ _ | exact LR.bnd (by rw [l2]; simp [bndE, SV.bnd, SV.bndL]) (by rw [l6]; decide)) (by first | (rw [Blk.ren_own0 (by assumption)]; rfl) | rfl | (simp only [Blk.ren, renL_mapV]; rfl) | (rw [LR.ren (by rw [l2] <;> rfl) (by rw [l6] <;> rfl)]; rfl)) ?_)) ⟨by have := hκ.hm; (try dsimp only at this); (first | done | omega), fun i hi => by have := hκ.hm; (try dsimp only at this); (first | omega | (dsimp only; omega) | (rw [if_neg (by omega)]))⟩ ⟨by simp, rfl⟩
      · have hbk : badAt l = k := by rw [hbd, badAt, if_neg (by rw [h0]; decide), Nat.add_zero]
        rw [hE, hA, hbk, if_pos hkl, if_pos hkl, if_neg (show ¬(360 : Int) = 0 by decide)] at hκ
        rw [h0] at e1
        refine Does.ret hκ.hP hκ.hgl (e1) ⟨trivial, by first | (simp [SV.bnd, SV.bndL]; done) | (simp [SV.bnd, SV.bndL, ec_bnd]; done), by first | (simp [SV.bnd, SV.bndL]; done) | (simp [SV.bnd, SV.bndL, ec_bnd]; done) | assumption⟩ ?_
        refine hκ.run 300 ?_
        simp (disch := omega) only [exec_succ, runR_next, runR_fork_true, runR_stop, stepS, runOp, condS, toSR, sop, rOf, sInt, sBin, sExtract, ev, Env.get, setO, OutOK_stop, List.size_toArray, List.length_cons, List.length_nil, List.range, List.range.loop, List.getElem?_toArray, List.getElem?_cons_succ, List.getElem?_cons_zero, ↓reduceIte, Nat.reduceAdd, Nat.reduceLT, Nat.reduceEqDiff, Nat.zero_add, Int.reduceEq, Bool.not_false, decide_false, gl0]
        refine hκ.ret _ _ _ _ _ _ trivial rfl ?_
        exact .ret (by simp [SV.bnd, SV.bndL])
    · obtain rfl : k = l.length := by omega
      have hbd := badAt_drop l l.length (Nat.le_refl _) hz
      rw [List.drop_length, badAt, Nat.add_zero] at hbd
      have hE0 : rowE l = 0 := by rw [hE, hbd, if_neg (Nat.lt_irrefl _)]
      have hA0 : rowAt l = 0 := by rw [hA, hbd, if_neg (Nat.lt_irrefl _)]
      rw [hE0, hA0, if_pos rfl] at hκ
      simp only [List.take_length] at *
      have q2 : ((l.length : Int) < l.length) = False := by first | (simp only [eq_iff_iff, iff_false]; first | assumption | omega) | (simp; omega)
      refine hκ.run 300 ?_
      simp (disch := omega) only [exec_succ, runR_next, runR_fork_false, runR_stop, stepS, runOp, condS, goS, toSR, sop, rOf, sInt, sBin, ev, Env.get, exitTo, OutOK_stop, List.size_toArray, List.length_cons, List.length_nil, List.length_append, List.range, List.range.loop, List.getElem?_toArray, List.getElem?_cons_succ, List.getElem?_cons_zero, ↓reduceIte, Nat.reduceAdd, Nat.reduceLT, Nat.reduceEqDiff, Nat.zero_add, decide_false, beq_self_eq_true, gl0, q2]
      have el : (bytesF (l.length : Int) 2).length + (l.flatMap encB).length = (bytesF (l.length : Int) 2 ++ l.flatMap encB).length := List.length_append.symm
      rw [el]
      generalize bytesF (l.length : Int) 2 ++ l.flatMap encB = out at *
      have et : List.take out.length (List.map (eI .u8) out) = List.map (eI .u8) out := List.take_of_length_le (by simp)
      refine hκ.ret _ _ _ _ _ _ trivial rfl ?_
      refine Post.frz [0] (by first | (simp [lendPL, lendP, lendSlP, dropL, Heap.get, Heap.drop, resV]; done) | (simp [lendPL, lendP, lendSlP, dropL, Heap.get, Heap.drop, resV]; omega) | (simp [lendPL, lendP, lendSlP, dropL, Heap.get, Heap.drop, resV, -List.length_eq_zero_iff]; omega)) ?_
      simp only [resV, lendL, lendS, lendSl, dropL, Heap.drop, Heap.get, List.mem_singleton, List.mem_cons, List.not_mem_nil, or_false, or_true, true_or, List.drop_zero, Nat.reduceEqDiff, Nat.one_ne_zero, Nat.zero_ne_one, ↓reduceIte, et]
      exact .ret (by simp [SV.bnd, SV.bndL])
end Go.Proofs.Ytmieikflcolbaaa
