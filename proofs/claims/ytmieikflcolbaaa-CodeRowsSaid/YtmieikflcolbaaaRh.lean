/- The document's word on which events may be. No condition. -/
import Derived.Test.YtmieikflcolbaaaRg
namespace Go.Proofs.Ytmieikflcolbaaa
open Go Go.Sy
set_option maxRecDepth 100000
set_option linter.unusedSimpArgs false
set_option linter.unusedVariables false
set_option maxHeartbeats 4000000
def subK (a : Evt) : Int := if a.1 0 = 1 then a.1 1 else if a.1 0 = 2 then a.1 15 else 0
theorem fldR_fld (a : Evt) : fldR (a.1 0) (subK a) = fld a := by
  unfold fldR fld subK
  by_cases h1 : a.1 0 = 1
  · simp only [h1, if_true]
  by_cases h2 : a.1 0 = 2
  · simp only [h2, if_true, if_false, Int.reduceEq]
  simp only [h1, h2, if_false, and_true]
theorem begR_begE {a : Evt} {l : List Nat} (h : fld a = some l) : begR (a.1 0) (subK a) = begE a := by
  unfold begR kE begE subK
  by_cases h1 : a.1 0 = 1
  · simp only [h1, if_true, if_false, Int.reduceEq]
    refine evt_ext (fun i => ?_) rfl
    show (if i = 0 then (1 : Int) else if i = 1 then a.1 1 else if i = 15 then 0 else 0) = if i = 1 then a.1 1 else if i = 0 then 1 else 0
    repeat' split
    all_goals first | rfl | omega
  by_cases h2 : a.1 0 = 2
  · simp only [h2, if_true, if_false, Int.reduceEq]
    refine evt_ext (fun i => ?_) rfl
    show (if i = 0 then (2 : Int) else if i = 1 then 0 else if i = 15 then a.1 15 else 0) = if i = 15 then a.1 15 else if i = 0 then 2 else 0
    repeat' split
    all_goals first | rfl | omega
  have h3 : a.1 0 = 3 := by
    unfold fld at h
    rw [if_neg h1, if_neg h2] at h
    split at h
    · assumption
    · cases h
  simp only [h3, if_false, Int.reduceEq]
  refine evt_ext (fun i => ?_) rfl
  show (if i = 0 then (3 : Int) else if i = 1 then 0 else if i = 15 then 0 else 0) = if i = 0 then 3 else 0
  repeat' split
  all_goals first | rfl | omega
def numF (a : Evt) (c : Nat) : Bool := if c = 109 ∨ c = 77 ∨ c = 110 ∨ c = 78 then true else fitN (wid c) (a.1 (cel c))
def rightB (a : Evt) : Bool := match fld a with
  | some l => l.all (numF a) && (sameE a (foldP a (begE a) l) && (fitL a.2.1 && fitL a.2.2))
  | none => false
theorem wf_putC {b a : Evt} (hb : wf b) (ha : wf a) (c : Nat) : wf (putC b a c) := by
  unfold putC
  split
  · exact wf_upd (wf_upd hb (by decide) (ha.i 13) fun _ => ha.u 13 (by simp)) (by decide) (ha.i 14) fun _ => ha.u 14 (by simp)
  split
  · exact wf_upd (wf_upd hb (by decide) (ha.i 24) fun _ => ha.u 24 (by simp)) (by decide) (ha.i 25) fun _ => ha.u 25 (by simp)
  split
  · exact ⟨hb.i, hb.u, hb.f, hb.z, ha.n, hb.m, ha.nl, hb.ml⟩
  split
  · exact ⟨hb.i, hb.u, hb.f, hb.z, hb.n, ha.m, hb.nl, ha.ml⟩
  obtain ⟨r1, r2, r3, r4, r5, r6, r7, r8, r9, r10⟩ := cel_rng c
  by_cases h5 : cel c = 5
  · rw [h5]; exact wf_upd5 hb ha.f
  · exact wf_upd hb ⟨r1, r2, r3, h5⟩ (ha.i _) fun h => ha.u _ h
theorem wf_fold {a : Evt} (ha : wf a) : ∀ (l : List Nat) (x : Evt), wf x → wf (foldP a x l)
  | [], x, h => h
  | c :: l, x, h => wf_fold ha l _ (wf_putC h ha c)
theorem wf_beg {a : Evt} (ha : wf a) : wf (begE a) := by
  unfold begE
  split
  · exact wf_upd (wf_upd wf_ev0 (by decide) (by decide) (by decide)) (by decide) (ha.i 1) (by omega)
  split
  · exact wf_upd (wf_upd wf_ev0 (by decide) (by decide) (by decide)) (by decide) (ha.i 15) (by omega)
  · exact wf_upd wf_ev0 (by decide) (by decide) (by decide)
theorem part_fold {a : Evt} {c : Nat} (hc : c ∈ U0) : ∀ (l : List Nat) (x : Evt), (∀ d ∈ l, d ∈ U0) → c ∉ l → part (foldP a x l) c = part x c
  | [], _, _, _ => rfl
  | d :: l, x, h, hn => by
    rw [show foldP a x (d :: l) = foldP a (putC x a d) l from rfl, part_fold hc l _ (fun e he => h e (by simp [he])) (fun he => hn (by simp [he])), part_other hc (h d (by simp)) (fun e => hn (by simp [e]))]
theorem fld_U {a : Evt} {l : List Nat} (h : fld a = some l) : ∀ c ∈ l, c ∈ U0 := by
  have := fldR_U (k := a.1 0) (s := subK a)
  rw [fldR_fld, h] at this
  exact this
theorem beg_nil (a : Evt) : (begE a).2 = ([], []) := by
  unfold begE
  repeat' split
  all_goals rfl
theorem rightB_eq {a : Evt} (ha : wf a) : rightB a = decide (encE a = 0) := by
  have hE := encE_eq ha
  rw [rightB]
  rw [fitE, ownE] at hE
  cases h : fld a with
  | none =>
    rw [h] at hE
    rw [hE.2 (fun x => by simp at x)]
    rfl
  | some l =>
    rw [h] at hE
    have hU := fld_U h
    have wo := wf_fold ha l _ (wf_beg ha)
    dsimp only at hE ⊢
    by_cases ho : l.all (fitC a) = true ∧ foldP a (begE a) l = a
    · rw [hE.1 ho, decide_eq_true rfl]
      obtain ⟨h1, h2⟩ := ho
      rw [List.all_eq_true] at h1
      have hl1 : fitL a.2.1 = true := by
        by_cases hm : 110 ∈ l
        · exact h1 110 hm
        · have := part_fold (a := a) (c := 110) (by decide) l (begE a) hU hm
          rw [h2] at this
          have : a.2.1 = [] := by
            have e : a.2.1 = (begE a).2.1 := congrArg (·.2.2) this
            rw [e, beg_nil]
          rw [this]; rfl
      have hl2 : fitL a.2.2 = true := by
        by_cases hm : 78 ∈ l
        · exact h1 78 hm
        · have := part_fold (a := a) (c := 78) (by decide) l (begE a) hU hm
          rw [h2] at this
          have : a.2.2 = [] := by
            have e : a.2.2 = (begE a).2.2 := congrArg (·.2.2) this
            rw [e, beg_nil]
          rw [this]; rfl
      have hs : sameE a (foldP a (begE a) l) = true := (same_iff ha wo).2 h2.symm
      have ha : l.all (numF a) = true := List.all_eq_true.2 fun c hc => by
        have := h1 c hc
        unfold numF
        split
        · rfl
        · rename_i hx
          rw [fitC, if_neg (by omega), if_neg (by omega), if_neg (by omega)] at this
          exact this
      rw [hl1, hl2, hs, ha]
      rfl
    · rw [hE.2 ho, decide_eq_false (by decide)]
      cases hr : l.all (numF a) && (sameE a (foldP a (begE a) l) && (fitL a.2.1 && fitL a.2.2)) with
      | false => rfl
      | true =>
        simp only [Bool.and_eq_true] at hr
        obtain ⟨r1, r2, r3, r4⟩ := hr
        refine absurd ⟨List.all_eq_true.2 fun c hc => ?_, ((same_iff ha wo).1 r2).symm⟩ ho
        have := List.all_eq_true.1 r1 c hc
        unfold fitC
        split
        · rfl
        split
        · exact r3
        split
        · exact r4
        · rw [numF, if_neg (by omega)] at this
          exact this
theorem right_ok (a : Evt) (ha : wf a) : Con Try.prog gl0 (fnv 18) [Ev a] 0 [] (Ret (Bo (decide (encE a = 0)))) := by
  rw [← rightB_eq ha]
  have cf := fields_ok (a.1 0) (subK a)
  have cb := begun_ok (a.1 0) (subK a)
  have cs := sub_ok a
  rw [show (if a.1 0 = 1 then a.1 1 else if a.1 0 = 2 then a.1 15 else 0) = subK a from rfl] at cs
  rw [fldR_fld] at cf
  have cx : ∀ x, cut (ec x) 0 1 = some [I (x.1 0)] := fun _ => rfl
  refine Con.of Try.ok18 (nt := 100) (res := [.tmp 2]) Try.mixed Try.func18 rfl rfl rfl rfl fun κ xc hκ => hκ.runD 300 ?_
  simp (disch := omega) only [push_cast, simprocAttr, tec, lec, oec, oec2, ones_ec, cx]
  refine hκ.draw (.q 0 (.q 1 (.q 2 (.l 3 [1] (.l 4 [2] (.q 5 (.q 6 (.q 7 (.q 8 (.q 9 (.fin))))))))))) [0, 1, 2, 5, 6, 7, 8, 9] (by kernel_rfl) (by kernel_rfl) rfl ?_
  simp (disch := omega) only [push_cast, simprocAttr, tec, lec, oec, oec2, ones_ec, cx]
  refine DCall.of (Does.ret hκ.hP hκ.hgl cs ⟨trivial, by first | (simp [SV.bnd, SV.bndL]; done) | (simp [SV.bnd, SV.bndL, ec_bnd]; done), by first | (simp [SV.bnd, SV.bndL]; done) | (simp [SV.bnd, SV.bndL, ec_bnd]; done) | assumption⟩ ?_)
  simp (disch := omega) only [push_cast, simprocAttr, tec, lec, oec, oec2, ones_ec, cx]
  refine DCall.of (Does.ret hκ.hP hκ.hgl cf ⟨trivial, by first | (simp [SV.bnd, SV.bndL]; done) | (simp [SV.bnd, SV.bndL, ec_bnd]; done), by first | (simp [SV.bnd, SV.bndL]; done) | (simp [SV.bnd, SV.bndL, ec_bnd]; done) | assumption⟩ ?_)
  simp (disch := omega) only [push_cast, simprocAttr, tec, lec, oec, oec2, ones_ec, cx]
  have hR : rightB a = match fld a with
    | some l => l.all (numF a) && (sameE a (foldP a (begE a) l) && (fitL a.2.1 && fitL a.2.2))
    | none => false := rfl
  cases hf : fld a with
  | none =>
    rw [hf] at hR cf
    rw [hR] at hκ
    simp (disch := omega) only [push_cast, simprocAttr, hf, tec, lec, oec, oec2, ones_ec, cx]
    refine hκ.run 300 ?_
    simp (disch := omega) only [push_cast, simprocAttr, tec, lec, oec, oec2, ones_ec, cx]
    refine hκ.ret _ _ _ _ _ _ trivial rfl ?_
    exact .ret trivial
  | some l =>
    rw [hf] at hR cf
    dsimp only at hR
    rw [hR] at hκ
    have hU := fld_U hf
    have be := begR_begE hf
    rw [be] at cb
    have wb := wf_beg ha
    have hl4 : l.length ≤ 4 := by
      have := fldR_len (k := a.1 0) (s := subK a)
      rw [fldR_fld, hf] at this
      exact this
    simp (disch := omega) only [push_cast, simprocAttr, hf, tec, lec, oec, oec2, ones_ec, cx]
    refine hκ.runD 300 ?_
    simp (disch := omega) only [push_cast, simprocAttr, tec, lec, oec, oec2, ones_ec, cx]
    apply Sat.join (κ := κ) (x := xc) (α := Unit) (nx := 2) (dfs := []) (fun _ => True) (fun _ => ([(5, .ptr 1 0 0 0), (3, .v (.string (strB l))), (1, .ptr 0 0 0 0)], [(1, .own (ec (begE a)) 37), (0, .own (ec a) 37)]))
    · intro hj
      have hj := hj () trivial
      dsimp only at hj
      refine hκ.draw (.q 0 (.q 1 (.q 2 (.or (.m 3 [1] (.or (.m 4 [2] (.l 5 [1, 2] (.l 6 [] (.fin)))) (.m 5 [1, 2] (.l 4 [2] (.l 6 [] (.fin)))))) (.m 5 [1, 2] (.l 3 [1] (.l 4 [2] (.l 6 [] (.fin))))))))) [0, 1, 2] (by kernel_rfl) (by kernel_rfl) rfl ?_
      simp (disch := omega) only [push_cast, simprocAttr, tec, lec, oec, oec2, ones_ec, cx]
      repeat' (refine And.intro ?_ ?_)
      all_goals
        refine DCall.of (Does.ret hκ.hP hκ.hgl cs ⟨trivial, by first | (simp [SV.bnd, SV.bndL]; done) | (simp [SV.bnd, SV.bndL, ec_bnd]; done), by first | (simp [SV.bnd, SV.bndL]; done) | (simp [SV.bnd, SV.bndL, ec_bnd]; done) | assumption⟩ ?_)
        simp (disch := omega) only [push_cast, simprocAttr, tec, lec, oec, oec2, ones_ec, cx]
      repeat' (refine And.intro ?_ ?_)
      all_goals
        refine DCall.of (Does.ret hκ.hP hκ.hgl cb ⟨trivial, by first | (simp [SV.bnd, SV.bndL]; done) | (simp [SV.bnd, SV.bndL, ec_bnd]; done), by first | (simp [SV.bnd, SV.bndL]; done) | (simp [SV.bnd, SV.bndL, ec_bnd]; done) | assumption⟩ ?_)
        simp (disch := omega) only [push_cast, simprocAttr, tec, lec, oec, oec2, ones_ec, cx]
      all_goals exact hj.less (by repeat' (first | exact EnvSub.nil _ | exact HeapSub.nil _ | refine EnvSub.cons rfl ?_ | refine HeapSub.cons rfl ?_ | (refine EnvSub.cons (by simp [Env.get]; done) ?_) | (refine HeapSub.cons (by simp [Heap.get]; done) ?_))) (by repeat' (first | exact EnvSub.nil _ | exact HeapSub.nil _ | refine EnvSub.cons rfl ?_ | refine HeapSub.cons rfl ?_ | (refine EnvSub.cons (by simp [Env.get]; done) ?_) | (refine HeapSub.cons (by simp [Heap.get]; done) ?_)))
    intro _ _
    dsimp only
    refine hκ.run 300 ?_
    simp (disch := omega) only [push_cast, simprocAttr, strB_size, tec, lec, oec, oec2, ones_ec, cx]
    refine Sat.less (Sat.loop (γ := Nat × Evt) (fun g => ([(27, I g.1), (26, I l.length), (5, .ptr 1 0 0 0), (3, .v (.string (strB l))), (1, .ptr 0 0 0 0)], [(1, .own (ec g.2) 37), (0, .own (ec a) 37)], 2)) (fun g => l.length - g.1)
      (fun g => g.1 ≤ l.length ∧ foldP a g.2 (l.drop g.1) = foldP a (begE a) l ∧ (l.take g.1).all (numF a) = true) ?round (0, begE a) ⟨Nat.zero_le _, rfl, rfl⟩) (by repeat' (first | exact EnvSub.nil _ | exact HeapSub.nil _ | refine EnvSub.cons rfl ?_ | refine HeapSub.cons rfl ?_ | (refine EnvSub.cons (by simp [Env.get]; done) ?_) | (refine HeapSub.cons (by simp [Heap.get]; done) ?_))) (by repeat' (first | exact EnvSub.nil _ | exact HeapSub.nil _ | refine EnvSub.cons rfl ?_ | refine HeapSub.cons rfl ?_ | (refine EnvSub.cons (by simp [Env.get]; done) ?_) | (refine HeapSub.cons (by simp [Heap.get]; done) ?_)))
    case round =>
      rintro ⟨n, o⟩ ⟨hn, ho, hnum⟩ ih
      dsimp only at hn ho hnum ih ⊢
      by_cases hnl : n < l.length
      · have q1 : ((n : Int) < l.length) = True := by first | (simp only [eq_iff_iff, iff_true]; first | assumption | omega) | (simp; omega)
        have hc0 : l.drop n = l.getD n default :: l.drop (n + 1) := by
          rw [List.drop_eq_getElem_cons hnl, List.getD, List.getElem?_eq_getElem hnl]; rfl
        have ht0 : l.take (n + 1) = l.take n ++ [l.getD n default] := by
          rw [List.take_succ_eq_append_getElem hnl, List.getD, List.getElem?_eq_getElem hnl]; rfl
        have hm : l.getD n default ∈ l := by
          rw [List.getD, List.getElem?_eq_getElem hnl]; exact List.getElem_mem _
        have hg := strB_get (fun c hc => U0_lt c (hU c hc)) hnl
        have hs := strB_size l
        rw [hc0] at ho
        have hUc := hU _ hm
        have hfail : numF a (l.getD n default) = false → l.all (numF a) = false := fun h => by
          rw [List.all_eq_false]
          exact ⟨_, hm, by rw [h]; simp⟩
        have hz := fun q h1 h2 => ih (n + 1, q) ⟨by omega, h1, h2⟩ (by dsimp only; omega)
        dsimp only at hz
        rw [ht0] at hz
        clear ih
        have hz := fun q h1 (h2 : numF a (l.getD n default) = true) => hz q h1 (by rw [List.all_append, hnum]; show (true && (numF a (l.getD n default) && true)) = true; rw [h2]; rfl)
        replace ho : foldP a (putC o a (l.getD n default)) (l.drop (n + 1)) = foldP a (begE a) l := ho
        generalize l.getD n default = c at *
        refine hκ.run 300 ?_
        simp (disch := omega) only [push_cast, simprocAttr, q1, hs, tec, lec, oec, oec2, ones_ec]
        (repeat (refine ⟨by first | omega | (refine ⟨?_, ?_⟩ <;> omega) | trivial | (simp; done) | decide +kernel, fun _ => ?_⟩))
        rw [hg]
        clear hg hm
        by_cases h1 : c = 109
        · subst h1
          have hz := hz _ ho rfl
          have ep : putC o a 109 = upd (upd o 13 (a.1 13)) 14 (a.1 14) := rfl
          rw [ep] at hz
          simp (disch := omega) only [push_cast, simprocAttr, ec]
          exact hz.less (by repeat' (first | exact EnvSub.nil _ | exact HeapSub.nil _ | refine EnvSub.cons rfl ?_ | refine HeapSub.cons rfl ?_ | (refine EnvSub.cons (by simp [Env.get]; done) ?_) | (refine HeapSub.cons (by simp [Heap.get]; done) ?_))) (by repeat' (first | exact EnvSub.nil _ | exact HeapSub.nil _ | refine EnvSub.cons rfl ?_ | refine HeapSub.cons rfl ?_ | (refine EnvSub.cons (by simp [Env.get]; done) ?_) | (refine HeapSub.cons (by simp [Heap.get]; done) ?_)))
        by_cases h2 : c = 77
        · subst h2
          have hz := hz _ ho rfl
          have ep : putC o a 77 = upd (upd o 24 (a.1 24)) 25 (a.1 25) := rfl
          rw [ep] at hz
          simp (disch := omega) only [push_cast, simprocAttr, ec]
          exact hz.less (by repeat' (first | exact EnvSub.nil _ | exact HeapSub.nil _ | refine EnvSub.cons rfl ?_ | refine HeapSub.cons rfl ?_ | (refine EnvSub.cons (by simp [Env.get]; done) ?_) | (refine HeapSub.cons (by simp [Heap.get]; done) ?_))) (by repeat' (first | exact EnvSub.nil _ | exact HeapSub.nil _ | refine EnvSub.cons rfl ?_ | refine HeapSub.cons rfl ?_ | (refine EnvSub.cons (by simp [Env.get]; done) ?_) | (refine HeapSub.cons (by simp [Heap.get]; done) ?_)))
        by_cases h3 : c = 110
        · subst h3
          have hz := hz _ ho rfl
          have ep : putC o a 110 = setL o a.2.1 := rfl
          rw [ep] at hz
          simp (disch := omega) only [push_cast, simprocAttr, ec]
          exact hz.less (by repeat' (first | exact EnvSub.nil _ | exact HeapSub.nil _ | refine EnvSub.cons rfl ?_ | refine HeapSub.cons rfl ?_ | (refine EnvSub.cons (by simp [Env.get]; done) ?_) | (refine HeapSub.cons (by simp [Heap.get]; done) ?_))) (by repeat' (first | exact EnvSub.nil _ | exact HeapSub.nil _ | refine EnvSub.cons rfl ?_ | refine HeapSub.cons rfl ?_ | (refine EnvSub.cons (by simp [Env.get]; done) ?_) | (refine HeapSub.cons (by simp [Heap.get]; done) ?_)))
        by_cases h4 : c = 78
        · subst h4
          have hz := hz _ ho rfl
          have ep : putC o a 78 = setM o a.2.2 := rfl
          rw [ep] at hz
          simp (disch := omega) only [push_cast, simprocAttr, ec]
          exact hz.less (by repeat' (first | exact EnvSub.nil _ | exact HeapSub.nil _ | refine EnvSub.cons rfl ?_ | refine HeapSub.cons rfl ?_ | (refine EnvSub.cons (by simp [Env.get]; done) ?_) | (refine HeapSub.cons (by simp [Heap.get]; done) ?_))) (by repeat' (first | exact EnvSub.nil _ | exact HeapSub.nil _ | refine EnvSub.cons rfl ?_ | refine HeapSub.cons rfl ?_ | (refine EnvSub.cons (by simp [Env.get]; done) ?_) | (refine HeapSub.cons (by simp [Heap.get]; done) ?_)))
        have hU1 := U01 c hUc h1 h2 h3 h4
        have cw := width_ok c hU1
        have cg := get_ok a c hU1 ha.f (ha.u 26 (by simp))
        have hS : c = 83 → 0 ≤ a.1 (cel c) ∧ a.1 (cel c) < 2 ^ 32 := fun h => by subst h; exact ha.u 26 (by simp)
        have cp := put40_ok o c (a.1 (cel c)) hU1 hS
        have hnf : numF a c = fitN (wid c) (a.1 (cel c)) := by rw [numF, if_neg (by omega)]
        have ep : putC o a c = upd o (cel c) (a.1 (cel c)) := by
          unfold putC; rw [if_neg h1, if_neg h2, if_neg h3, if_neg h4]
        rw [ep] at ho
        have hz := fun h => hz _ ho h
        rw [hnf] at hz hfail
        have hw : wid c = 1 ∨ wid c = 2 ∨ wid c = 4 ∨ wid c = 8 := by
          have := wid_pos' h1 h2 h3 h4
          unfold wid at this ⊢
          repeat' split
          all_goals first | (simp; done) | omega
        clear ho hnf ep hS
        generalize upd o (cel c) (a.1 (cel c)) = o' at *
        generalize a.1 (cel c) = x at *
        generalize wid c = w at *
        have z1 : ((c : Int) = 109) = False := by first | (simp only [eq_iff_iff, iff_false]; first | assumption | omega) | (simp; omega)
        have z2 : ((c : Int) = 77) = False := by first | (simp only [eq_iff_iff, iff_false]; first | assumption | omega) | (simp; omega)
        have z3 : ((c : Int) = 110) = False := by first | (simp only [eq_iff_iff, iff_false]; first | assumption | omega) | (simp; omega)
        have z4 : ((c : Int) = 78) = False := by first | (simp only [eq_iff_iff, iff_false]; first | assumption | omega) | (simp; omega)
        simp (disch := omega) only [push_cast, simprocAttr, z1, z2, z3, z4, tec, lec, oec, oec2, ones_ec]
        refine Does.ret hκ.hP hκ.hgl cg ⟨trivial, by first | (simp [SV.bnd, SV.bndL]; done) | (simp [SV.bnd, SV.bndL, ec_bnd]; done), by first | (simp [SV.bnd, SV.bndL]; done) | (simp [SV.bnd, SV.bndL, ec_bnd]; done) | assumption⟩ ?_
        refine hκ.run 300 ?_
        simp (disch := omega) only [push_cast, simprocAttr, z1, z2, z3, z4, tec, lec, oec, oec2, ones_ec]
        refine Does.ret hκ.hP hκ.hgl cw ⟨trivial, by first | (simp [SV.bnd, SV.bndL]; done) | (simp [SV.bnd, SV.bndL, ec_bnd]; done), by first | (simp [SV.bnd, SV.bndL]; done) | (simp [SV.bnd, SV.bndL, ec_bnd]; done) | assumption⟩ ?_
        by_cases h8 : w = 8
        · subst h8
          have hz := hz rfl
          refine hκ.run 300 ?_
          simp (disch := omega) only [push_cast, simprocAttr, z1, z2, z3, z4, tec, lec, oec, oec2, ones_ec]
          refine Does.ret hκ.hP hκ.hgl cp ⟨trivial, by first | (simp [SV.bnd, SV.bndL]; done) | (simp [SV.bnd, SV.bndL, ec_bnd]; done), by first | (simp [SV.bnd, SV.bndL]; done) | (simp [SV.bnd, SV.bndL, ec_bnd]; done) | assumption⟩ ?_
          refine hκ.run 300 ?_
          simp (disch := omega) only [push_cast, simprocAttr, z1, z2, z3, z4, tec, lec, oec, oec2, ones_ec]
          exact hz.less (by repeat' (first | exact EnvSub.nil _ | exact HeapSub.nil _ | refine EnvSub.cons rfl ?_ | refine HeapSub.cons rfl ?_ | (refine EnvSub.cons (by simp [Env.get]; done) ?_) | (refine HeapSub.cons (by simp [Heap.get]; done) ?_))) (by repeat' (first | exact EnvSub.nil _ | exact HeapSub.nil _ | refine EnvSub.cons rfl ?_ | refine HeapSub.cons rfl ?_ | (refine EnvSub.cons (by simp [Env.get]; done) ?_) | (refine HeapSub.cons (by simp [Heap.get]; done) ?_)))
        by_cases hx : 0 ≤ x ∧ x < 256 ^ w
        · replace hz := hz (by rw [fitN, decide_eq_true hx, Bool.or_true])
          simp only [h8, or_false] at hw
          rcases hw with rfl | rfl | rfl
          all_goals simp only [Int.reducePow] at hx
          · have y1 : (x < 0) = False := by first | (simp only [eq_iff_iff, iff_false]; first | assumption | omega) | (simp; omega)
            have y2 : (256 ≤ x) = False := by first | (simp only [eq_iff_iff, iff_false]; first | assumption | omega) | (simp; omega)
            refine hκ.run 300 ?_
            simp (disch := omega) only [push_cast, simprocAttr, y1, y2, tec, lec, oec, oec2, ones_ec]
            refine Does.ret hκ.hP hκ.hgl cp ⟨trivial, by first | (simp [SV.bnd, SV.bndL]; done) | (simp [SV.bnd, SV.bndL, ec_bnd]; done), by first | (simp [SV.bnd, SV.bndL]; done) | (simp [SV.bnd, SV.bndL, ec_bnd]; done) | assumption⟩ ?_
            refine hκ.run 300 ?_
            simp (disch := omega) only [push_cast, simprocAttr, y1, y2, tec, lec, oec, oec2, ones_ec]
            exact hz.less (by repeat' (first | exact EnvSub.nil _ | exact HeapSub.nil _ | refine EnvSub.cons rfl ?_ | refine HeapSub.cons rfl ?_ | (refine EnvSub.cons (by simp [Env.get]; done) ?_) | (refine HeapSub.cons (by simp [Heap.get]; done) ?_))) (by repeat' (first | exact EnvSub.nil _ | exact HeapSub.nil _ | refine EnvSub.cons rfl ?_ | refine HeapSub.cons rfl ?_ | (refine EnvSub.cons (by simp [Env.get]; done) ?_) | (refine HeapSub.cons (by simp [Heap.get]; done) ?_)))
          · have y1 : (x < 0) = False := by first | (simp only [eq_iff_iff, iff_false]; first | assumption | omega) | (simp; omega)
            have y2 : (65536 ≤ x) = False := by first | (simp only [eq_iff_iff, iff_false]; first | assumption | omega) | (simp; omega)
            refine hκ.run 300 ?_
            simp (disch := omega) only [push_cast, simprocAttr, y1, y2, tec, lec, oec, oec2, ones_ec]
            refine Does.ret hκ.hP hκ.hgl cp ⟨trivial, by first | (simp [SV.bnd, SV.bndL]; done) | (simp [SV.bnd, SV.bndL, ec_bnd]; done), by first | (simp [SV.bnd, SV.bndL]; done) | (simp [SV.bnd, SV.bndL, ec_bnd]; done) | assumption⟩ ?_
            refine hκ.run 300 ?_
            simp (disch := omega) only [push_cast, simprocAttr, y1, y2, tec, lec, oec, oec2, ones_ec]
            exact hz.less (by repeat' (first | exact EnvSub.nil _ | exact HeapSub.nil _ | refine EnvSub.cons rfl ?_ | refine HeapSub.cons rfl ?_ | (refine EnvSub.cons (by simp [Env.get]; done) ?_) | (refine HeapSub.cons (by simp [Heap.get]; done) ?_))) (by repeat' (first | exact EnvSub.nil _ | exact HeapSub.nil _ | refine EnvSub.cons rfl ?_ | refine HeapSub.cons rfl ?_ | (refine EnvSub.cons (by simp [Env.get]; done) ?_) | (refine HeapSub.cons (by simp [Heap.get]; done) ?_)))
          · have y1 : (x < 0) = False := by first | (simp only [eq_iff_iff, iff_false]; first | assumption | omega) | (simp; omega)
            have y2 : (4294967296 ≤ x) = False := by first | (simp only [eq_iff_iff, iff_false]; first | assumption | omega) | (simp; omega)
            refine hκ.run 300 ?_
            simp (disch := omega) only [push_cast, simprocAttr, y1, y2, tec, lec, oec, oec2, ones_ec]
            refine Does.ret hκ.hP hκ.hgl cp ⟨trivial, by first | (simp [SV.bnd, SV.bndL]; done) | (simp [SV.bnd, SV.bndL, ec_bnd]; done), by first | (simp [SV.bnd, SV.bndL]; done) | (simp [SV.bnd, SV.bndL, ec_bnd]; done) | assumption⟩ ?_
            refine hκ.run 300 ?_
            simp (disch := omega) only [push_cast, simprocAttr, y1, y2, tec, lec, oec, oec2, ones_ec]
            exact hz.less (by repeat' (first | exact EnvSub.nil _ | exact HeapSub.nil _ | refine EnvSub.cons rfl ?_ | refine HeapSub.cons rfl ?_ | (refine EnvSub.cons (by simp [Env.get]; done) ?_) | (refine HeapSub.cons (by simp [Heap.get]; done) ?_))) (by repeat' (first | exact EnvSub.nil _ | exact HeapSub.nil _ | refine EnvSub.cons rfl ?_ | refine HeapSub.cons rfl ?_ | (refine EnvSub.cons (by simp [Env.get]; done) ?_) | (refine HeapSub.cons (by simp [Heap.get]; done) ?_)))
        · rw [hfail (by rw [fitN, decide_eq_false hx, decide_eq_false (by omega)]; rfl)] at hκ
          simp only [h8, or_false] at hw
          rcases hw with rfl | rfl | rfl
          all_goals simp only [Int.reducePow] at hx
          · by_cases h0 : x < 0
            · have y1 : (x < 0) = True := by first | (simp only [eq_iff_iff, iff_true]; first | assumption | omega) | (simp; omega)
              refine hκ.run 300 ?_
              simp (disch := omega) only [push_cast, simprocAttr, y1, tec, lec, oec, oec2, ones_ec]
              refine hκ.ret _ _ _ _ _ _ trivial rfl ?_
              exact .ret trivial
            · have y1 : (x < 0) = False := by first | (simp only [eq_iff_iff, iff_false]; first | assumption | omega) | (simp; omega)
              have y2 : (256 ≤ x) = True := by first | (simp only [eq_iff_iff, iff_true]; first | assumption | omega) | (simp; omega)
              refine hκ.run 300 ?_
              simp (disch := omega) only [push_cast, simprocAttr, y1, y2, tec, lec, oec, oec2, ones_ec]
              refine hκ.ret _ _ _ _ _ _ trivial rfl ?_
              exact .ret trivial
          · by_cases h0 : x < 0
            · have y1 : (x < 0) = True := by first | (simp only [eq_iff_iff, iff_true]; first | assumption | omega) | (simp; omega)
              refine hκ.run 300 ?_
              simp (disch := omega) only [push_cast, simprocAttr, y1, tec, lec, oec, oec2, ones_ec]
              refine hκ.ret _ _ _ _ _ _ trivial rfl ?_
              exact .ret trivial
            · have y1 : (x < 0) = False := by first | (simp only [eq_iff_iff, iff_false]; first | assumption | omega) | (simp; omega)
              have y2 : (65536 ≤ x) = True := by first | (simp only [eq_iff_iff, iff_true]; first | assumption | omega) | (simp; omega)
              refine hκ.run 300 ?_
              simp (disch := omega) only [push_cast, simprocAttr, y1, y2, tec, lec, oec, oec2, ones_ec]
              refine hκ.ret _ _ _ _ _ _ trivial rfl ?_
              exact .ret trivial
          · by_cases h0 : x < 0
            · have y1 : (x < 0) = True := by first | (simp only [eq_iff_iff, iff_true]; first | assumption | omega) | (simp; omega)
              refine hκ.run 300 ?_
              simp (disch := omega) only [push_cast, simprocAttr, y1, tec, lec, oec, oec2, ones_ec]
              refine hκ.ret _ _ _ _ _ _ trivial rfl ?_
              exact .ret trivial
            · have y1 : (x < 0) = False := by first | (simp only [eq_iff_iff, iff_false]; first | assumption | omega) | (simp; omega)
              have y2 : (4294967296 ≤ x) = True := by first | (simp only [eq_iff_iff, iff_true]; first | assumption | omega) | (simp; omega)
              refine hκ.run 300 ?_
              simp (disch := omega) only [push_cast, simprocAttr, y1, y2, tec, lec, oec, oec2, ones_ec]
              refine hκ.ret _ _ _ _ _ _ trivial rfl ?_
              exact .ret trivial
      · obtain rfl : n = l.length := by omega
        rw [List.drop_length] at ho
        rw [List.take_length] at hnum
        have ho : o = foldP a (begE a) l := ho
        have wo := wf_fold ha l _ wb
        rw [hnum, Bool.true_and] at hκ
        have s1 := rsame_ok a (foldP a (begE a) l) ha wo
        rw [← ho] at s1 hκ
        have k1 := fewR_ok a.2.1 (by have := ha.nl; omega)
        have k2 := fewR_ok a.2.2 (by have := ha.ml; omega)
        have c5 : ∀ x, cut (ec x) 6 1 = some [Is x.2.1] := fun _ => rfl
        have c6 : ∀ x, cut (ec x) 27 1 = some [Is x.2.2] := fun _ => rfl
        generalize sameE a o = b1 at *
        generalize fitL a.2.1 = b2 at *
        generalize fitL a.2.2 = b3 at *
        have q1 : ((l.length : Int) < l.length) = False := by first | (simp only [eq_iff_iff, iff_false]; first | assumption | omega) | (simp; omega)
        refine hκ.run 300 ?_
        simp (disch := omega) only [push_cast, simprocAttr, q1, c5, c6, tec, lec, oec, oec2, ones_ec]
        refine Does.ret hκ.hP hκ.hgl s1 ⟨trivial, by first | (simp [SV.bnd, SV.bndL]; done) | (simp [SV.bnd, SV.bndL, ec_bnd]; done), by first | (simp [SV.bnd, SV.bndL]; done) | (simp [SV.bnd, SV.bndL, ec_bnd]; done) | assumption⟩ ?_
        cases b1
        · refine hκ.run 300 ?_
          simp (disch := omega) only [push_cast, simprocAttr, q1, c5, c6, tec, lec, oec, oec2, ones_ec]
          refine hκ.ret _ _ _ _ _ _ trivial rfl ?_
          exact .ret trivial
        refine hκ.run 300 ?_
        simp (disch := omega) only [push_cast, simprocAttr, q1, c5, c6, tec, lec, oec, oec2, ones_ec]
        refine Does.ret hκ.hP hκ.hgl k1 ⟨trivial, by first | (simp [SV.bnd, SV.bndL]; done) | (simp [SV.bnd, SV.bndL, ec_bnd]; done), by first | (simp [SV.bnd, SV.bndL]; done) | (simp [SV.bnd, SV.bndL, ec_bnd]; done) | assumption⟩ ?_
        cases b2
        · refine hκ.run 300 ?_
          simp (disch := omega) only [push_cast, simprocAttr, q1, c5, c6, tec, lec, oec, oec2, ones_ec]
          refine hκ.ret _ _ _ _ _ _ trivial rfl ?_
          exact .ret trivial
        refine hκ.run 300 ?_
        simp (disch := omega) only [push_cast, simprocAttr, q1, c5, c6, tec, lec, oec, oec2, ones_ec]
        refine Does.ret hκ.hP hκ.hgl k2 ⟨trivial, by first | (simp [SV.bnd, SV.bndL]; done) | (simp [SV.bnd, SV.bndL, ec_bnd]; done), by first | (simp [SV.bnd, SV.bndL]; done) | (simp [SV.bnd, SV.bndL, ec_bnd]; done) | assumption⟩ ?_
        refine hκ.run 300 ?_
        simp (disch := omega) only [push_cast, simprocAttr, q1, c5, c6, tec, lec, oec, oec2, ones_ec]
        refine hκ.ret _ _ _ _ _ _ trivial rfl ?_
        exact .ret trivial
end Go.Proofs.Ytmieikflcolbaaa
