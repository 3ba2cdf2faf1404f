/- The document's bytes of an event that may be. No condition. -/
import Derived.Test.YtmieikflcolbaaaRh
namespace Go.Proofs.Ytmieikflcolbaaa
open Go Go.Sy
set_option maxRecDepth 100000
set_option linter.unusedSimpArgs false
set_option linter.unusedVariables false
set_option maxHeartbeats 4000000
theorem fld_kind {a : Evt} {l : List Nat} (h : fld a = some l) : (a.1 0 = 1 ∧ 1 ≤ subK a ∧ subK a ≤ 20 ∧ headB a = [a.1 0, subK a]) ∨ (a.1 0 = 2 ∧ 1 ≤ subK a ∧ subK a ≤ 20 ∧ headB a = [a.1 0, subK a]) ∨ (a.1 0 = 3 ∧ headB a = [a.1 0]) := by
  unfold fld at h
  unfold subK headB
  by_cases h1 : a.1 0 = 1
  · rw [if_pos h1] at h
    obtain ⟨g1, g2⟩ := callL_rng h
    rw [if_pos h1, if_pos h1, h1]
    exact Or.inl ⟨rfl, g1, g2, rfl⟩
  by_cases h2 : a.1 0 = 2
  · rw [if_neg h1, if_pos h2] at h
    obtain ⟨g1, g2⟩ := liveL_rng h
    rw [if_neg h1, if_neg h1, if_pos h2, if_pos h2, h2]
    exact Or.inr (Or.inl ⟨rfl, g1, by omega, rfl⟩)
  rw [if_neg h1, if_neg h2] at h
  split at h
  · rename_i h3
    exact Or.inr (Or.inr ⟨h3, by rw [if_neg h1, if_neg h2]⟩)
  · cases h
theorem bytC_len (a : Evt) {c : Nat} (h : fitC a c = true) : (bytC a c).length ≤ 33 := by
  have hf : ∀ l : List Int, fitL l = true → ((l.length : Int) :: l).length ≤ 33 := fun l h => by
    rw [fitL, Bool.and_eq_true, decide_eq_true_eq] at h
    rw [List.length_cons]; omega
  unfold fitC at h
  unfold bytC
  by_cases h1 : c = 109
  · rw [if_pos h1, List.length_append, dig_length, dig_length]; decide
  rw [if_neg h1]
  by_cases h2 : c = 77
  · rw [if_pos h2, List.length_append, dig_length, dig_length]; decide
  rw [if_neg h2]
  rw [if_neg (by omega)] at h
  by_cases h3 : c = 110
  · rw [if_pos h3]; rw [if_pos h3] at h; exact hf _ h
  rw [if_neg h3]; rw [if_neg h3] at h
  by_cases h4 : c = 78
  · rw [if_pos h4]; rw [if_pos h4] at h; exact hf _ h
  rw [if_neg h4, dig_length]
  have := wid_le c
  omega
theorem rbytes_ok (a : Evt) (ha : wf a) (h : encE a = 0) : Con Try.prog gl0 (fnv 20) [Ev a] 0 [] (RetRow 5 1 ((encB a).map (eI .u8))) := by
  obtain ⟨hb, hfit, hown⟩ := encB_eq ha h
  have cf := fields_ok (a.1 0) (subK a)
  have cs := sub_ok a
  rw [show (if a.1 0 = 1 then a.1 1 else if a.1 0 = 2 then a.1 15 else 0) = subK a from rfl] at cs
  rw [fldR_fld] at cf
  have cx : ∀ x, cut (ec x) 0 1 = some [I (x.1 0)] := fun _ => rfl
  have ga := fun c hc => get_ok a c hc ha.f (ha.u 26 (by simp))
  rw [hb]
  rw [bytE]
  rw [fitE] at hfit
  cases hf : fld a with
  | none => rw [hf] at hfit; cases hfit
  | some l =>
    rw [hf] at hfit cf
    dsimp only at hfit ⊢
    have hU := fld_U hf
    have hk := fld_kind hf
    have f4 : l.length ≤ 4 := by
      have := fldR_len (k := a.1 0) (s := subK a)
      rw [fldR_fld, hf] at this
      exact this
    have wk : IntKind.u8.wrap (a.1 0) = a.1 0 := by rw [wrap_u8_mod]; omega
    refine Con.of Try.ok20 (nt := 81) (res := [.tmp 2]) Try.mixed Try.func20 rfl rfl rfl rfl fun κ xc hκ => hκ.run 300 ?_
    simp (disch := omega) only [push_cast, simprocAttr, tec, lec, oec, oec2, ones_ec, cx, wk]
    apply Sat.join (κ := κ) (x := xc) (α := Nat) (nx := 2) (dfs := []) (fun c => (headB a).length ≤ c) (fun c => ([(3, .sl 1 1 0 (headB a).length c), (1, .ptr 0 0 0 0)], [(0, .own (ec a) 37), (1, .row 1 c 5 ((headB a).map (eI .u8)))]))
    · intro hj
      have hne : (a.1 0 = 1 ∨ a.1 0 = 2) → 1 ≤ subK a → subK a ≤ 20 → headB a = [a.1 0, subK a] → ¬ a.1 0 = 3 := fun h _ _ _ => by omega
      by_cases h3 : a.1 0 = 3
      · have hh : headB a = [a.1 0] := by
          rcases hk with ⟨k, -⟩ | ⟨k, -⟩ | ⟨k, hh⟩
          · omega
          · omega
          · exact hh
        rw [hh] at hj
        have hj := hj 1 (Nat.le_refl _)
        dsimp only at hj
        simp (disch := omega) only [push_cast, simprocAttr, h3]
        rw [h3] at hj
        exact hj.less (by repeat' (first | exact EnvSub.nil _ | exact HeapSub.nil _ | refine EnvSub.cons rfl ?_ | refine HeapSub.cons rfl ?_ | (refine EnvSub.cons (by simp [Env.get]; done) ?_) | (refine HeapSub.cons (by simp [Heap.get]; done) ?_))) (by repeat' (first | exact EnvSub.nil _ | exact HeapSub.nil _ | refine EnvSub.cons rfl ?_ | refine HeapSub.cons rfl ?_ | (refine EnvSub.cons (by simp [Env.get]; done) ?_) | (refine HeapSub.cons (by simp [Heap.get]; done) ?_)))
      · obtain ⟨s1, s2, hh⟩ : 1 ≤ subK a ∧ subK a ≤ 20 ∧ headB a = [a.1 0, subK a] := by
          rcases hk with ⟨k, h⟩ | ⟨k, h⟩ | ⟨k, hh⟩
          · exact h
          · exact h
          · exact absurd k h3
        rw [hh] at hj
        have ws : IntKind.u8.wrap (subK a) = subK a := by rw [wrap_u8_mod]; omega
        simp (disch := omega) only [push_cast, simprocAttr, h3, ws, tec, lec, oec, oec2, ones_ec, cx]
        refine Does.ret hκ.hP hκ.hgl cs ⟨trivial, by first | (simp [SV.bnd, SV.bndL]; done) | (simp [SV.bnd, SV.bndL, ec_bnd]; done), by first | (simp [SV.bnd, SV.bndL]; done) | (simp [SV.bnd, SV.bndL, ec_bnd]; done) | assumption⟩ ?_
        refine hκ.runA 4 300 ?_
        simp (disch := omega) only [push_cast, simprocAttr, h3, ws, tec, lec, oec, oec2, ones_ec, cx]
        (repeat (refine ⟨by first | omega | (refine ⟨?_, ?_⟩ <;> omega) | trivial | (simp; done) | decide +kernel, fun _ => ?_⟩))
        intro i
        have hj := hj (2 + i) (by simp)
        refine Sat.via (fun i => if i = 1 then 3 else i) (hj) (by intro i j; (repeat (first | omega | split))) (by repeat' (first | exact EnvVia.nil | refine EnvVia.cons (by first | trivial | decide | (simp [SV.bnd, SV.bndL]; done)) rfl ?_)) (by repeat' (first | exact HeapVia.nil | refine HeapVia.cons (by decide) (by first | trivial | exact Blk.bnd_own0 (by assumption) | (simp [Blk.bnd, SV.bnd, SV.bndL]; done) | exact bndL_mapV _ _ _ | exact LR.bnd (by rw [l2]; simp [bndE, SV.bnd, SV.bndL]) (by rw [l6]; decide)) (by first | (rw [Blk.ren_own0 (by assumption)]; rfl) | rfl | (simp only [Blk.ren, renL_mapV]; rfl) | (rw [LR.ren (by rw [l2] <;> rfl) (by rw [l6] <;> rfl)]; rfl)) ?_)) ⟨by have := hκ.hm; (try dsimp only at this); (first | done | omega), fun i hi => by have := hκ.hm; (try dsimp only at this); (first | omega | (dsimp only; omega) | (rw [if_neg (by omega)]))⟩ ⟨by simp, rfl⟩
    intro c0 hc0
    dsimp only
    refine hκ.draw (.q 0 (.q 1 (.q 2 (.l 3 [1] (.l 4 [2] (.q 5 (.q 6 (.q 7 (.q 8 (.q 9 (.fin))))))))))) [0, 1, 2, 5, 6, 7, 8, 9] (by kernel_rfl) (by kernel_rfl) rfl ?_
    simp (disch := omega) only [push_cast, simprocAttr, tec, lec, oec, oec2, ones_ec, cx]
    refine DCall.of (Does.ret hκ.hP hκ.hgl cs ⟨trivial, by first | (simp [SV.bnd, SV.bndL]; done) | (simp [SV.bnd, SV.bndL, ec_bnd]; done), by first | (simp [SV.bnd, SV.bndL]; done) | (simp [SV.bnd, SV.bndL, ec_bnd]; done) | assumption⟩ ?_)
    simp (disch := omega) only [push_cast, simprocAttr, tec, lec, oec, oec2, ones_ec, cx]
    refine DCall.of (Does.ret hκ.hP hκ.hgl cf ⟨trivial, by first | (simp [SV.bnd, SV.bndL]; done) | (simp [SV.bnd, SV.bndL, ec_bnd]; done), by first | (simp [SV.bnd, SV.bndL]; done) | (simp [SV.bnd, SV.bndL, ec_bnd]; done) | assumption⟩ ?_)
    simp (disch := omega) only [push_cast, simprocAttr, strB_size, tec, lec, oec, oec2, ones_ec, cx]
    refine hκ.run 300 ?_
    simp (disch := omega) only [push_cast, simprocAttr, strB_size, tec, lec, oec, oec2, ones_ec, cx]
    have hlb : (headB a).length ≤ 2 := by
      rcases hk with ⟨-, -, -, hh⟩ | ⟨-, -, -, hh⟩ | ⟨-, hh⟩ <;> rw [hh] <;> simp
    refine Sat.less (Sat.loop (γ := Nat × List Int × Nat) (fun g => ([(31, I g.1), (30, I l.length), (4, .v (.string (strB l))), (3, .sl 1 1 0 g.2.1.length g.2.2), (1, .ptr 0 0 0 0)], [(0, .own (ec a) 37), (1, .row 1 g.2.2 5 (g.2.1.map (eI .u8)))], 2)) (fun g => l.length - g.1)
      (fun g => g.1 ≤ l.length ∧ g.2.1.length ≤ g.2.2 ∧ g.2.1.length ≤ 2 + 33 * g.1 ∧ g.2.1 ++ (l.drop g.1).flatMap (bytC a) = headB a ++ l.flatMap (bytC a)) ?round (0, headB a, c0) ⟨Nat.zero_le _, hc0, by simpa using hlb, rfl⟩) (by repeat' (first | exact EnvSub.nil _ | exact HeapSub.nil _ | refine EnvSub.cons rfl ?_ | refine HeapSub.cons rfl ?_ | (refine EnvSub.cons (by simp [Env.get]; done) ?_) | (refine HeapSub.cons (by simp [Heap.get]; done) ?_))) (by repeat' (first | exact EnvSub.nil _ | exact HeapSub.nil _ | refine EnvSub.cons rfl ?_ | refine HeapSub.cons rfl ?_ | (refine EnvSub.cons (by simp [Env.get]; done) ?_) | (refine HeapSub.cons (by simp [Heap.get]; done) ?_)))
    case round =>
      rintro ⟨n, pre, cp⟩ ⟨hn, hcp, hpl, ho⟩ ih
      dsimp only at hn hcp hpl ho ih ⊢
      have et : List.take pre.length (List.map (eI .u8) pre) = List.map (eI .u8) pre := List.take_of_length_le (by simp)
      by_cases hnl : n < l.length
      · have q1 : ((n : Int) < l.length) = True := by first | (simp only [eq_iff_iff, iff_true]; first | assumption | omega) | (simp; omega)
        have hc0 : l.drop n = l.getD n default :: l.drop (n + 1) := by
          rw [List.drop_eq_getElem_cons hnl, List.getD, List.getElem?_eq_getElem hnl]; rfl
        have hm : l.getD n default ∈ l := by
          rw [List.getD, List.getElem?_eq_getElem hnl]; exact List.getElem_mem _
        have hg := strB_get (fun c hc => U0_lt c (hU c hc)) hnl
        have hs := strB_size l
        have hfc := List.all_eq_true.1 hfit _ hm
        rw [hc0, List.flatMap_cons, ← List.append_assoc] at ho
        have hUc := hU _ hm
        have hbl := bytC_len a hfc
        have hz := fun c h => ih (n + 1, pre ++ bytC a (l.getD n default), c) ⟨by omega, h, by dsimp only; rw [List.length_append]; omega, ho⟩ (by dsimp only; omega)
        dsimp only at hz
        clear ih ho hfit
        generalize l.getD n default = c at *
        have c3 : ∀ x, cut (ec x) 13 2 = some [U (x.1 13), U (x.1 14)] := fun _ => rfl
        have c4 : ∀ x, cut (ec x) 24 2 = some [U (x.1 24), U (x.1 25)] := fun _ => rfl
        have c5 : ∀ x, cut (ec x) 6 1 = some [Is x.2.1] := fun _ => rfl
        have c6 : ∀ x, cut (ec x) 27 1 = some [Is x.2.2] := fun _ => rfl
        refine hκ.run 300 ?_
        simp (disch := omega) only [push_cast, simprocAttr, q1, hs, tec, lec, oec, oec2, ones_ec]
        (repeat (refine ⟨by first | omega | (refine ⟨?_, ?_⟩ <;> omega) | trivial | (simp; done) | decide +kernel, fun _ => ?_⟩))
        rw [hg]
        clear hg hm
        by_cases h109 : c = 109
        · subst h109
          have cm := mask42_ok (a.1 13) (a.1 14) (ha.u 13 (by simp)) (ha.u 14 (by simp))
          have hb : bytC a 109 = dig (a.1 13) 4 ++ dig (a.1 14) 4 := rfl
          rw [hb] at hz hbl
          generalize dig (a.1 13) 4 ++ dig (a.1 14) 4 = seg at *
          have ets : List.take seg.length (List.map (eI .u8) seg) = List.map (eI .u8) seg := List.take_of_length_le (by simp)
          simp (disch := omega) only [push_cast, simprocAttr, ets, et, c3, c4, c5, c6, tec, lec, oec, oec2, ones_ec]
          refine Does.row hκ.hP hκ.hgl cm ⟨trivial, by simp [SV.bnd, SV.bndL]⟩ fun cap1 hcap1 => ?_
          rw [List.length_map] at hcap1
          refine hκ.run 300 ?_
          simp (disch := omega) only [push_cast, simprocAttr, ets, et, c3, c4, c5, c6, tec, lec, oec, oec2, ones_ec]
          refine ⟨⟨⟨by omega, by omega, fun _ => by omega⟩, by omega, by omega, by omega⟩, fun _ => ?_⟩
          intro i
          have hy := hz (pre.length + seg.length + i) (by simp)
          simp only [List.length_append, List.length_cons, List.length_nil, List.length_singleton, List.length_map, List.length_set, List.length_replicate, Nat.zero_add, Nat.add_zero, Int.natCast_add, Int.natCast_one, Int.ofNat_eq_natCast, List.map_append, List.map_cons, List.map_nil, List.take_length, eI, eB] at hy ⊢
          refine Sat.via (fun i => if i = 1 then 3 else i) (hy) (by intro i j; (repeat (first | omega | split))) (by repeat' (first | exact EnvVia.nil | refine EnvVia.cons (by first | trivial | decide | (simp [SV.bnd, SV.bndL]; done)) rfl ?_)) (by repeat' (first | exact HeapVia.nil | refine HeapVia.cons (by decide) (by first | trivial | exact Blk.bnd_own0 (by assumption) | (simp [Blk.bnd, SV.bnd, SV.bndL]; done) | exact bndL_mapV _ _ _ | exact LR.bnd (by rw [l2]; simp [bndE, SV.bnd, SV.bndL]) (by rw [l6]; decide)) (by first | (rw [Blk.ren_own0 (by assumption)]; rfl) | rfl | (simp only [Blk.ren, renL_mapV]; rfl) | (rw [LR.ren (by rw [l2] <;> rfl) (by rw [l6] <;> rfl)]; rfl)) ?_)) ⟨by have := hκ.hm; (try dsimp only at this); (first | done | omega), fun i hi => by have := hκ.hm; (try dsimp only at this); (first | omega | (dsimp only; omega) | (rw [if_neg (by omega)]))⟩ ⟨by simp, rfl⟩
        by_cases h77 : c = 77
        · subst h77
          have cm := mask42_ok (a.1 24) (a.1 25) (ha.u 24 (by simp)) (ha.u 25 (by simp))
          have hb : bytC a 77 = dig (a.1 24) 4 ++ dig (a.1 25) 4 := rfl
          rw [hb] at hz hbl
          generalize dig (a.1 24) 4 ++ dig (a.1 25) 4 = seg at *
          have ets : List.take seg.length (List.map (eI .u8) seg) = List.map (eI .u8) seg := List.take_of_length_le (by simp)
          simp (disch := omega) only [push_cast, simprocAttr, ets, et, c3, c4, c5, c6, tec, lec, oec, oec2, ones_ec]
          refine Does.row hκ.hP hκ.hgl cm ⟨trivial, by simp [SV.bnd, SV.bndL]⟩ fun cap1 hcap1 => ?_
          rw [List.length_map] at hcap1
          refine hκ.run 300 ?_
          simp (disch := omega) only [push_cast, simprocAttr, ets, et, c3, c4, c5, c6, tec, lec, oec, oec2, ones_ec]
          refine ⟨⟨⟨by omega, by omega, fun _ => by omega⟩, by omega, by omega, by omega⟩, fun _ => ?_⟩
          intro i
          have hy := hz (pre.length + seg.length + i) (by simp)
          simp only [List.length_append, List.length_cons, List.length_nil, List.length_singleton, List.length_map, List.length_set, List.length_replicate, Nat.zero_add, Nat.add_zero, Int.natCast_add, Int.natCast_one, Int.ofNat_eq_natCast, List.map_append, List.map_cons, List.map_nil, List.take_length, eI, eB] at hy ⊢
          refine Sat.via (fun i => if i = 1 then 3 else i) (hy) (by intro i j; (repeat (first | omega | split))) (by repeat' (first | exact EnvVia.nil | refine EnvVia.cons (by first | trivial | decide | (simp [SV.bnd, SV.bndL]; done)) rfl ?_)) (by repeat' (first | exact HeapVia.nil | refine HeapVia.cons (by decide) (by first | trivial | exact Blk.bnd_own0 (by assumption) | (simp [Blk.bnd, SV.bnd, SV.bndL]; done) | exact bndL_mapV _ _ _ | exact LR.bnd (by rw [l2]; simp [bndE, SV.bnd, SV.bndL]) (by rw [l6]; decide)) (by first | (rw [Blk.ren_own0 (by assumption)]; rfl) | rfl | (simp only [Blk.ren, renL_mapV]; rfl) | (rw [LR.ren (by rw [l2] <;> rfl) (by rw [l6] <;> rfl)]; rfl)) ?_)) ⟨by have := hκ.hm; (try dsimp only at this); (first | done | omega), fun i hi => by have := hκ.hm; (try dsimp only at this); (first | omega | (dsimp only; omega) | (rw [if_neg (by omega)]))⟩ ⟨by simp, rfl⟩
        by_cases h110 : c = 110
        · subst h110
          have cm := list43_ok a.2.1 hfc
          have hb : bytC a 110 = (a.2.1.length : Int) :: a.2.1 := rfl
          rw [hb] at hz hbl
          generalize (a.2.1.length : Int) :: a.2.1 = seg at *
          have ets : List.take seg.length (List.map (eI .u8) seg) = List.map (eI .u8) seg := List.take_of_length_le (by simp)
          simp (disch := omega) only [push_cast, simprocAttr, ets, et, c3, c4, c5, c6, tec, lec, oec, oec2, ones_ec]
          refine Does.row hκ.hP hκ.hgl cm ⟨trivial, by simp [SV.bnd, SV.bndL]⟩ fun cap1 hcap1 => ?_
          rw [List.length_map] at hcap1
          refine hκ.run 300 ?_
          simp (disch := omega) only [push_cast, simprocAttr, ets, et, c3, c4, c5, c6, tec, lec, oec, oec2, ones_ec]
          refine ⟨⟨⟨by omega, by omega, fun _ => by omega⟩, by omega, by omega, by omega⟩, fun _ => ?_⟩
          intro i
          have hy := hz (pre.length + seg.length + i) (by simp)
          simp only [List.length_append, List.length_cons, List.length_nil, List.length_singleton, List.length_map, List.length_set, List.length_replicate, Nat.zero_add, Nat.add_zero, Int.natCast_add, Int.natCast_one, Int.ofNat_eq_natCast, List.map_append, List.map_cons, List.map_nil, List.take_length, eI, eB] at hy ⊢
          refine Sat.via (fun i => if i = 1 then 3 else i) (hy) (by intro i j; (repeat (first | omega | split))) (by repeat' (first | exact EnvVia.nil | refine EnvVia.cons (by first | trivial | decide | (simp [SV.bnd, SV.bndL]; done)) rfl ?_)) (by repeat' (first | exact HeapVia.nil | refine HeapVia.cons (by decide) (by first | trivial | exact Blk.bnd_own0 (by assumption) | (simp [Blk.bnd, SV.bnd, SV.bndL]; done) | exact bndL_mapV _ _ _ | exact LR.bnd (by rw [l2]; simp [bndE, SV.bnd, SV.bndL]) (by rw [l6]; decide)) (by first | (rw [Blk.ren_own0 (by assumption)]; rfl) | rfl | (simp only [Blk.ren, renL_mapV]; rfl) | (rw [LR.ren (by rw [l2] <;> rfl) (by rw [l6] <;> rfl)]; rfl)) ?_)) ⟨by have := hκ.hm; (try dsimp only at this); (first | done | omega), fun i hi => by have := hκ.hm; (try dsimp only at this); (first | omega | (dsimp only; omega) | (rw [if_neg (by omega)]))⟩ ⟨by simp, rfl⟩
        by_cases h78 : c = 78
        · subst h78
          have cm := list43_ok a.2.2 hfc
          have hb : bytC a 78 = (a.2.2.length : Int) :: a.2.2 := rfl
          rw [hb] at hz hbl
          generalize (a.2.2.length : Int) :: a.2.2 = seg at *
          have ets : List.take seg.length (List.map (eI .u8) seg) = List.map (eI .u8) seg := List.take_of_length_le (by simp)
          simp (disch := omega) only [push_cast, simprocAttr, ets, et, c3, c4, c5, c6, tec, lec, oec, oec2, ones_ec]
          refine Does.row hκ.hP hκ.hgl cm ⟨trivial, by simp [SV.bnd, SV.bndL]⟩ fun cap1 hcap1 => ?_
          rw [List.length_map] at hcap1
          refine hκ.run 300 ?_
          simp (disch := omega) only [push_cast, simprocAttr, ets, et, c3, c4, c5, c6, tec, lec, oec, oec2, ones_ec]
          refine ⟨⟨⟨by omega, by omega, fun _ => by omega⟩, by omega, by omega, by omega⟩, fun _ => ?_⟩
          intro i
          have hy := hz (pre.length + seg.length + i) (by simp)
          simp only [List.length_append, List.length_cons, List.length_nil, List.length_singleton, List.length_map, List.length_set, List.length_replicate, Nat.zero_add, Nat.add_zero, Int.natCast_add, Int.natCast_one, Int.ofNat_eq_natCast, List.map_append, List.map_cons, List.map_nil, List.take_length, eI, eB] at hy ⊢
          refine Sat.via (fun i => if i = 1 then 3 else i) (hy) (by intro i j; (repeat (first | omega | split))) (by repeat' (first | exact EnvVia.nil | refine EnvVia.cons (by first | trivial | decide | (simp [SV.bnd, SV.bndL]; done)) rfl ?_)) (by repeat' (first | exact HeapVia.nil | refine HeapVia.cons (by decide) (by first | trivial | exact Blk.bnd_own0 (by assumption) | (simp [Blk.bnd, SV.bnd, SV.bndL]; done) | exact bndL_mapV _ _ _ | exact LR.bnd (by rw [l2]; simp [bndE, SV.bnd, SV.bndL]) (by rw [l6]; decide)) (by first | (rw [Blk.ren_own0 (by assumption)]; rfl) | rfl | (simp only [Blk.ren, renL_mapV]; rfl) | (rw [LR.ren (by rw [l2] <;> rfl) (by rw [l6] <;> rfl)]; rfl)) ?_)) ⟨by have := hκ.hm; (try dsimp only at this); (first | done | omega), fun i hi => by have := hκ.hm; (try dsimp only at this); (first | omega | (dsimp only; omega) | (rw [if_neg (by omega)]))⟩ ⟨by simp, rfl⟩
        have hU1 := U01 c hUc h109 h77 h110 h78
        have cw := width_ok c hU1
        have cg := get_ok a c hU1 ha.f (ha.u 26 (by simp))
        have cn := num44_ok (uM (a.1 (cel c))) (wid c) (uM_bd _) (wid_le c)
        have hb : bytC a c = dig (uM (a.1 (cel c))) (wid c) := by
          unfold bytC; rw [if_neg h109, if_neg h77, if_neg h110, if_neg h78]
        rw [hb] at hz hbl
        have wu : IntKind.u64.wrap (a.1 (cel c)) = uM (a.1 (cel c)) := wrap_u64_mod _
        clear hb hfc
        generalize dig (uM (a.1 (cel c))) (wid c) = seg at *
        generalize uM (a.1 (cel c)) = y at *
        generalize a.1 (cel c) = x at *
        generalize wid c = w at *
        have ets : List.take seg.length (List.map (eI .u8) seg) = List.map (eI .u8) seg := List.take_of_length_le (by simp)
        have z1 : ((c : Int) = 109) = False := by first | (simp only [eq_iff_iff, iff_false]; first | assumption | omega) | (simp; omega)
        have z2 : ((c : Int) = 77) = False := by first | (simp only [eq_iff_iff, iff_false]; first | assumption | omega) | (simp; omega)
        have z3 : ((c : Int) = 110) = False := by first | (simp only [eq_iff_iff, iff_false]; first | assumption | omega) | (simp; omega)
        have z4 : ((c : Int) = 78) = False := by first | (simp only [eq_iff_iff, iff_false]; first | assumption | omega) | (simp; omega)
        simp (disch := omega) only [push_cast, simprocAttr, z1, z2, z3, z4, wu, ets, et, tec, lec, oec, oec2, ones_ec]
        refine Does.ret hκ.hP hκ.hgl cg ⟨trivial, by first | (simp [SV.bnd, SV.bndL]; done) | (simp [SV.bnd, SV.bndL, ec_bnd]; done), by first | (simp [SV.bnd, SV.bndL]; done) | (simp [SV.bnd, SV.bndL, ec_bnd]; done) | assumption⟩ ?_
        refine hκ.run 300 ?_
        simp (disch := omega) only [push_cast, simprocAttr, z1, z2, z3, z4, wu, ets, et, tec, lec, oec, oec2, ones_ec]
        refine Does.ret hκ.hP hκ.hgl cw ⟨trivial, by first | (simp [SV.bnd, SV.bndL]; done) | (simp [SV.bnd, SV.bndL, ec_bnd]; done), by first | (simp [SV.bnd, SV.bndL]; done) | (simp [SV.bnd, SV.bndL, ec_bnd]; done) | assumption⟩ ?_
        refine hκ.run 300 ?_
        simp (disch := omega) only [push_cast, simprocAttr, z1, z2, z3, z4, wu, ets, et, tec, lec, oec, oec2, ones_ec]
        refine Does.row hκ.hP hκ.hgl cn ⟨trivial, by simp [SV.bnd, SV.bndL]⟩ fun cap1 hcap1 => ?_
        rw [List.length_map] at hcap1
        refine hκ.run 300 ?_
        simp (disch := omega) only [push_cast, simprocAttr, z1, z2, z3, z4, wu, ets, et, tec, lec, oec, oec2, ones_ec]
        refine ⟨⟨⟨by omega, by omega, fun _ => by omega⟩, by omega, by omega, by omega⟩, fun _ => ?_⟩
        intro i
        have hy := hz (pre.length + seg.length + i) (by simp)
        simp only [List.length_append, List.length_cons, List.length_nil, List.length_singleton, List.length_map, List.length_set, List.length_replicate, Nat.zero_add, Nat.add_zero, Int.natCast_add, Int.natCast_one, Int.ofNat_eq_natCast, List.map_append, List.map_cons, List.map_nil, List.take_length, eI, eB] at hy ⊢
        refine Sat.via (fun i => if i = 1 then 3 else i) (hy) (by intro i j; (repeat (first | omega | split))) (by repeat' (first | exact EnvVia.nil | refine EnvVia.cons (by first | trivial | decide | (simp [SV.bnd, SV.bndL]; done)) rfl ?_)) (by repeat' (first | exact HeapVia.nil | refine HeapVia.cons (by decide) (by first | trivial | exact Blk.bnd_own0 (by assumption) | (simp [Blk.bnd, SV.bnd, SV.bndL]; done) | exact bndL_mapV _ _ _ | exact LR.bnd (by rw [l2]; simp [bndE, SV.bnd, SV.bndL]) (by rw [l6]; decide)) (by first | (rw [Blk.ren_own0 (by assumption)]; rfl) | rfl | (simp only [Blk.ren, renL_mapV]; rfl) | (rw [LR.ren (by rw [l2] <;> rfl) (by rw [l6] <;> rfl)]; rfl)) ?_)) ⟨by have := hκ.hm; (try dsimp only at this); (first | done | omega), fun i hi => by have := hκ.hm; (try dsimp only at this); (first | omega | (dsimp only; omega) | (rw [if_neg (by omega)]))⟩ ⟨by simp, rfl⟩
      · obtain rfl : n = l.length := by omega
        rw [List.drop_length, List.flatMap_nil, List.append_nil] at ho
        rw [← ho] at hκ
        have q1 : ((l.length : Int) < l.length) = False := by first | (simp only [eq_iff_iff, iff_false]; first | assumption | omega) | (simp; omega)
        refine hκ.run 300 ?_
        simp (disch := omega) only [push_cast, simprocAttr, q1, tec, lec, oec, oec2, ones_ec]
        refine hκ.ret _ _ _ _ _ _ trivial rfl ?_
        exact Post.row rfl (by simp)
end Go.Proofs.Ytmieikflcolbaaa
