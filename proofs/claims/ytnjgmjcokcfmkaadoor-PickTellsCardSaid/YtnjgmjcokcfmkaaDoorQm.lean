/- PickWaits: the walk of the law. No condition. -/
import Derived.Test.YtnjgmjcokcfmkaaDoorQl
namespace Go.Proofs.YtnjgmjcokcfmkaaDoor
open Go Go.Sy
set_option maxRecDepth 100000
set_option linter.unusedSimpArgs false
set_option linter.unusedVariables false
set_option maxHeartbeats 8000000

theorem over_bd {l : List En} {w : List Wi} (h : overB l w = false) : l.length ≤ 40 ∧ w.length ≤ 60 ∧ ∀ x ∈ l, x.ms.length ≤ 40 := by
  simp only [overB, Bool.or_eq_false_iff, decide_eq_false_iff_not, List.any_eq_false, decide_eq_true_eq] at h
  exact ⟨by omega, by omega, fun x hx => by have := h.2.2 x hx; omega⟩
abbrev inE0 (x : En) : Prop := (∀ n ∈ x.ms, inI n) ∧ x.ms.length < 2 ^ 46
theorem tk2_lt : ∀ (n : Nat) (ps : List (Int × Int)), ps.length = n → (∀ p ∈ ps, 0 ≤ p.2 ∧ p.2 < 8) → tk2 ps < 256 := by
  intro n
  induction n with
  | zero => intro ps h _; rw [List.eq_nil_of_length_eq_zero h]; decide
  | succ n ih =>
    intro ps h hp
    obtain ⟨ps', p, rfl⟩ : ∃ ps' p, ps = ps' ++ [p] := by
      rcases List.eq_nil_or_concat ps with rfl | ⟨ps', p, rfl⟩
      · simp at h
      · exact ⟨ps', p, by simp⟩
    rw [tk2_snoc]
    obtain ⟨h1, h2⟩ := hp p (by simp)
    exact Nat.or_lt_two_pow (n := 8) (ih ps' (by simpa using h) fun q hq => hp q (by simp [hq])) (pow_lt_256 (by omega))
theorem puts_rng {w : List Wi} {free : Nat} : ∀ (n : Nat) (l : List En), l.length = n → (∀ x ∈ l, (wsh w x.ms).length = x.ms.length ∧ 1 ≤ x.ms.length) → ∀ p ∈ (pickR w free l).puts, 0 ≤ p.2 ∧ p.2 < 8 := by
  intro n
  induction n with
  | zero => intro l h _ p hp; rw [List.eq_nil_of_length_eq_zero h] at hp; cases hp
  | succ n ih =>
    intro l h hw p hp
    obtain ⟨l', x, rfl⟩ : ∃ l' x, l = l' ++ [x] := by
      rcases List.eq_nil_or_concat l with rfl | ⟨l', x, rfl⟩
      · simp at h
      · exact ⟨l', x, by simp⟩
    have ih := ih l' (by simpa using h) (fun y hy => hw y (by simp [hy]))
    obtain ⟨h1, h2⟩ := hw x (by simp)
    have e : pickR w free (l' ++ [x]) = stepK w (pickR w free l') x := by simp [pickR, List.foldl_append]
    rw [e, stepK] at hp
    cases ho : tkO (wsh w x.ms) (pickR w free l').free with
    | none => rw [ho] at hp; exact ih p hp
    | some at' =>
      rw [ho] at hp
      dsimp only at hp
      rcases List.mem_append.1 hp with hp | hp
      · exact ih p hp
      · exact (tkO_ok (by omega) ho).2 _ (List.of_mem_zip hp).2
theorem alw_less {m : Msk} {free fr T : Nat} (h : ∀ i, fr.testBit i = (free.testBit i && !T.testBit i)) (h0 : alw m fr = 0) (hf : free < 256) (hfr : fr < 256) : dif (alw m free % 256) T = 0 := by
  rw [Nat.mod_eq_of_lt (alw_lt m free)]
  apply Nat.eq_of_testBit_eq
  intro i
  rw [dif_bit, Nat.zero_testBit]
  by_cases ho : okM m = true
  · rw [alw, if_pos ⟨ho, hfr⟩] at h0
    rw [alw, if_pos ⟨ho, hf⟩]
    have := congrArg (fun n => n.testBit i) h0
    simp only [Nat.testBit_and, h, Nat.zero_testBit] at this ⊢
    revert this
    cases m.1.testBit i <;> cases free.testBit i <;> cases T.testBit i <;> decide
  · rw [alw, if_neg (fun h => ho h.1), Nat.zero_testBit, Bool.false_and]
theorem wshO_in {w : List Wi} (h : ∀ x ∈ w, inW x) (v : Int) : inW (wshO w v) := by
  rw [wshO]
  cases hf : w.find? fun x => decide (x.v = v) with
  | none => decide
  | some x => exact h x (List.mem_of_find?_eq_some hf)
theorem none_alw {w : List Wi} {v : Int} {fr : Nat} (h1 : (wsh w [v]).length = 1) (h : tkO (wsh w [v]) fr = none) : alw (wshO w v).m fr = 0 := by
  rw [tkO, if_neg (by omega), filter_find h1] at h
  exact best_none (Option.map_eq_none_iff.1 h)
theorem waits_law (l : List En) (w : List Wi) (free : Nat) (hl : ∀ x ∈ l, inE0 x) (hw : ∀ x ∈ w, inW x) (hn : l.length < 2 ^ 46) (hn2 : w.length < 2 ^ 46) (hf : free < 4294967296) : Law Tryd.prog gl0 6 [Ak l w free] := by
  have co := over_ok l w free hn hn2
  refine Law.of (nt := 94) (res := [.tmp 2]) Tryd.mixed Tryd.func6 rfl rfl rfl rfl fun κ xc hκ => hκ.run 300 ?_
  simp (disch := omega) only [push_cast, simprocAttr]
  refine Does.ret hκ.hP hκ.hgl (wakes_ok) ⟨trivial, by first | (simp [SV.bnd, SV.bndL]; done) | (simp [SV.bnd, SV.bndL, ec_bnd]; done), by first | (simp [SV.bnd, SV.bndL]; done) | (simp [SV.bnd, SV.bndL, ec_bnd]; done) | assumption⟩ ?_
  refine hκ.run 300 ?_
  simp (disch := omega) only [push_cast, simprocAttr]
  refine Does.ret hκ.hP hκ.hgl co ⟨trivial, by first | (simp [SV.bnd, SV.bndL]; done) | (simp [SV.bnd, SV.bndL, ec_bnd]; done), by first | (simp [SV.bnd, SV.bndL]; done) | (simp [SV.bnd, SV.bndL, ec_bnd]; done) | assumption⟩ ?_
  cases hov : overB l w
  rotate_left
  · refine hκ.run 300 ?_
    simp (disch := omega) only [push_cast, simprocAttr]
    refine hκ.ret _ _ _ _ _ _ trivial rfl ?_
    rfl
  obtain ⟨b1, b2, b3⟩ := over_bd hov
  have hl' : ∀ x ∈ l, inE x := fun x hx => ⟨(hl x hx).1, by have := b3 x hx; omega⟩
  have cp := Pick_ok l w free hl' hw (by omega) (by omega) hf
  refine hκ.run 300 ?_
  simp (disch := omega) only [push_cast, simprocAttr]
  by_cases he : askP l w free = 0
  rotate_left
  · rw [pickV, if_neg he] at cp
    refine Does.ret hκ.hP hκ.hgl cp ⟨trivial, by first | (simp [SV.bnd, SV.bndL]; done) | (simp [SV.bnd, SV.bndL, ec_bnd]; done), by first | (simp [SV.bnd, SV.bndL]; done) | (simp [SV.bnd, SV.bndL, ec_bnd]; done) | assumption⟩ ?_
    refine hκ.run 300 ?_
    simp (disch := omega) only [push_cast, simprocAttr, he]
    refine hκ.ret _ _ _ _ _ _ trivial rfl ?_
    rfl
  rw [pickV, if_pos he] at cp
  refine Does.ret hκ.hP hκ.hgl cp ⟨trivial, by first | (simp [SV.bnd, SV.bndL]; done) | (simp [SV.bnd, SV.bndL, ec_bnd]; done), by first | (simp [SV.bnd, SV.bndL]; done) | (simp [SV.bnd, SV.bndL, ec_bnd]; done) | assumption⟩ ?_
  obtain ⟨hpe, hf8⟩ := askP_zero he
  obtain ⟨hoL, hoV, hwn, hoW⟩ := pickE_zero hpe
  have hwl : ∀ x ∈ l, (wsh w x.ms).length = x.ms.length ∧ 1 ≤ x.ms.length := fun x hx => ⟨wsh_len hoL hoV hwn hx, (okL_rng l [] hoL x hx).1.1⟩
  have hop := fun k hk j hj => on_pick (free := free) hpe (k := k) hk (j := j) hj
  generalize hPt : (pickR w free l).puts = P at *
  have hPl : P.length < 2 ^ 46 := by
    have := (pickR_bd w free hf8 l.length l rfl fun x hx => (okL_rng l [] hoL x hx).1.2).2.1
    rw [hPt] at this; omega
  refine hκ.run 300 ?_
  simp (disch := omega) only [push_cast, simprocAttr]
  refine Sat.less (Sat.loop (γ := Nat) (fun k => ([(38, I k), (37, I l.length), (36, Ens l), (3, Ps P), (6, S (tk2 (pickR w free (l.take k)).puts)), (1, .ptr 0 0 0 0)], [(0, .own [Ens l, Ws w, S free] 27)], 1)) (fun k => l.length - k) (fun k => k ≤ l.length) ?round 0 (Nat.zero_le _)) (by repeat' (first | exact EnvSub.nil _ | exact HeapSub.nil _ | refine EnvSub.cons rfl ?_ | refine HeapSub.cons rfl ?_ | (refine EnvSub.cons (by simp [Env.get]; done) ?_) | (refine HeapSub.cons (by simp [Heap.get]; done) ?_))) (by repeat' (first | exact EnvSub.nil _ | exact HeapSub.nil _ | refine EnvSub.cons rfl ?_ | refine HeapSub.cons rfl ?_ | (refine EnvSub.cons (by simp [Env.get]; done) ?_) | (refine HeapSub.cons (by simp [Heap.get]; done) ?_)))
  case round =>
    intro k hk ih
    dsimp only at hk ih ⊢
    by_cases hkl : k < l.length
    · have q1 : ((k : Int) < l.length) = True := by first | (simp only [eq_iff_iff, iff_true]; first | assumption | omega) | (simp; omega)
      have gk : (List.map eEn l).getD k [] = eEn (l.getD k default) := getD_map _ _ _ hkl
      have hop := fun j hj => hop k hkl j hj
      have hs := pickR_take (w := w) (free := free) hkl
      obtain ⟨hx8, hxr⟩ := okL_rng l [] hoL _ (getD_mem' hkl)
      obtain ⟨hwx, -⟩ := hwl _ (getD_mem' hkl)
      have hfree := free_pick (w := w) (free := free) k (l.take k) (by rw [List.length_take]; omega) (fun x hx => hwl x (List.mem_of_mem_take hx))
      have hpr := puts_rng (w := w) (free := free) k (l.take k) (by rw [List.length_take]; omega) (fun x hx => hwl x (List.mem_of_mem_take hx))
      have htk := tk2_lt _ (pickR w free (l.take k)).puts rfl hpr
      have hfr := (pickR_bd w free hf8 k (l.take k) (by rw [List.length_take]; omega) (fun y hy => (okL_rng l [] hoL y (List.mem_of_mem_take hy)).1.2)).1
      have hz := ih (k + 1) (by omega) (by omega)
      rw [hs, stepK] at hz
      clear ih hs
      generalize l.getD k default = x at *
      generalize pickR w free (l.take k) = st at *
      obtain ⟨fr, ps, ws⟩ := st
      dsimp only at hop hfree hpr htk hfr hz ⊢
      have te : takeN (eEn x) 6 = some (eEn x) := rfl
      have cm : cut (eEn x) 0 1 = some [Is x.ms] := rfl
      have t1 : takeN (eEn x) 1 = some [Is x.ms] := rfl
      have oz : over [.v (.slice none 0 0), .v (.int .u64 0), .v (.int .u64 0), .v (.int .u64 0), .v (.int .u64 0), Bo false] (eEn x) = some (eEn x) := rfl
      have on : ones (eEn x) := ⟨trivial, rfl, rfl, rfl, rfl, rfl, trivial⟩
      have le : (eEn x).length = 6 := rfl
      have tk : List.take 6 (eEn x) = eEn x := rfl
      have g0 : (List.map (eI .i64) x.ms).getD 0 [] = eI .i64 (x.ms.getD 0 default) := getD_map _ _ _ (by omega)
      have c0 := On_ok P (x.ms.getD 0 default) hPl
      rw [hop 0 (by omega)] at c0
      refine hκ.runD 300 ?_
      simp (disch := omega) only [push_cast, simprocAttr, q1, gk, te, cm, oz, on, le, tk, g0, t1]
      (repeat (refine ⟨by first | omega | (refine ⟨?_, ?_⟩ <;> omega) | trivial | (simp; done) | decide +kernel, fun _ => ?_⟩))
      have u8 : x.ms.length < 2 ^ 46 := by omega
      cases ho : tkO (wsh w x.ms) fr with
      | none =>
        rw [ho] at c0 hop hz
        dsimp only at hz
        refine Does.ret hκ.hP hκ.hgl c0 ⟨trivial, by first | (simp [SV.bnd, SV.bndL]; done) | (simp [SV.bnd, SV.bndL, ec_bnd]; done), by first | (simp [SV.bnd, SV.bndL]; done) | (simp [SV.bnd, SV.bndL, ec_bnd]; done) | assumption⟩ ?_
        refine hκ.runD 300 ?_
        simp (disch := omega) only [push_cast, simprocAttr, q1, gk, te, cm, oz, on, le, tk, g0, t1]
        by_cases h1 : x.ms.length = 1
        case' pos =>
          have q3 : ((x.ms.length : Int) = 1) = True := by first | (simp only [eq_iff_iff, iff_true]; first | assumption | omega) | (simp; omega)
          have q4 : (0 < (x.ms.length : Int)) = True := by first | (simp only [eq_iff_iff, iff_true]; first | assumption | omega) | (simp; omega)
          obtain ⟨v, hv⟩ := List.length_eq_one_iff.1 h1
          have hv0 : x.ms.getD 0 default = v := by rw [hv]; rfl
          have ha0 : alw (wshO w v).m fr = 0 := by
            rw [hv] at hwx ho
            exact none_alw hwx ho
          have hal := alw_less hfree ha0 hf8 hfr
          have hwo := wshO_in hw v
          have cw := wish_ok l w free v (by omega)
          have ca := allows_ok (wshO w v).m free hwo.2.2 (by omega)
          have ci := within_ok (alw (wshO w v).m free) (tk2 ps) (by have := alw_lt (wshO w v).m free; omega) (by omega)
          rw [decide_eq_true hal] at ci
          rw [hv0] at g0
          generalize wshO w v = wo at *
          rw [eW] at cw
          refine hκ.draw (.q 0 (.q 1 (.q 2 (.q 3 (.q 4 (.q 5 (.q 6 (.q 7 (.q 8 (.q 9 (.q 10 (.q 11 (.q 12 (.q 13 (.q 16 (.q 17 (.q 19 (.l 14 [4, 11, 17] (.q 15 (.l 18 [4, 9, 11, 13] (.l 20 [4, 9, 11, 13, 17] (.q 21 (.q 22 (.fin)))))))))))))))))))))))) [0, 1, 2, 3, 4, 5, 6, 7, 8, 9, 10, 11, 12, 13, 15, 16, 17, 19, 21, 22] (by kernel_rfl) (by kernel_rfl) rfl ?_
          simp (disch := omega) only [push_cast, simprocAttr, q1, q3, q4, te, cm, oz, on, le, tk, g0, t1]
          refine DCall.of (Does.ret hκ.hP hκ.hgl cw ⟨trivial, by first | (simp [SV.bnd, SV.bndL]; done) | (simp [SV.bnd, SV.bndL, ec_bnd]; done), by first | (simp [SV.bnd, SV.bndL]; done) | (simp [SV.bnd, SV.bndL, ec_bnd]; done) | assumption⟩ ?_)
          simp (disch := omega) only [push_cast, simprocAttr, q1, q3, q4, te, cm, oz, on, le, tk, g0, t1]
          refine DCall.of (Does.ret hκ.hP hκ.hgl ca ⟨trivial, by first | (simp [SV.bnd, SV.bndL]; done) | (simp [SV.bnd, SV.bndL, ec_bnd]; done), by first | (simp [SV.bnd, SV.bndL]; done) | (simp [SV.bnd, SV.bndL, ec_bnd]; done) | assumption⟩ ?_)
          simp (disch := omega) only [push_cast, simprocAttr, q1, q3, q4, te, cm, oz, on, le, tk, g0, t1]
          refine DCall.of (Does.ret hκ.hP hκ.hgl ci ⟨trivial, by first | (simp [SV.bnd, SV.bndL]; done) | (simp [SV.bnd, SV.bndL, ec_bnd]; done), by first | (simp [SV.bnd, SV.bndL]; done) | (simp [SV.bnd, SV.bndL, ec_bnd]; done) | assumption⟩ ?_)
          simp (disch := omega) only [push_cast, simprocAttr, q1, q3, q4, te, cm, oz, on, le, tk, g0, t1]
          refine hκ.runD 300 ?_
          simp (disch := omega) only [push_cast, simprocAttr, q1, q3, q4, te, cm, oz, on, le, tk, g0, t1]
        case' neg =>
          have q3 : ((x.ms.length : Int) = 1) = False := by first | (simp only [eq_iff_iff, iff_false]; first | assumption | omega) | (simp; omega)
          refine hκ.draw (.q 0 (.q 1 (.q 2 (.q 3 (.q 4 (.q 5 (.q 6 (.q 7 (.q 8 (.q 9 (.q 10 (.q 11 (.q 12 (.q 13 (.q 16 (.q 17 (.q 19 (.l 14 [4, 11, 17] (.q 15 (.l 18 [4, 9, 11, 13] (.l 20 [4, 9, 11, 13, 17] (.q 21 (.q 22 (.fin)))))))))))))))))))))))) [0, 1, 2, 3, 4, 5, 6, 7, 8, 9, 10, 11, 12, 13, 15, 16, 17, 19, 21, 22] (by kernel_rfl) (by kernel_rfl) rfl ?_
          simp (disch := omega) only [push_cast, simprocAttr, q1, q3, te, cm, oz, on, le, tk, g0, t1]
          refine hκ.runD 300 ?_
          simp (disch := omega) only [push_cast, simprocAttr, q1, q3, te, cm, oz, on, le, tk, g0, t1]
        all_goals
          refine Sat.less (Sat.loop (γ := Nat) (fun j => ([(77, I j), (76, I x.ms.length), (75, Is x.ms), (38, I k), (37, I l.length), (36, Ens l), (3, Ps P), (6, S (tk2 ps)), (1, .ptr 0 0 0 0)], [(0, .own [Ens l, Ws w, S free] 27)], 2)) (fun j => x.ms.length - j) (fun j => j ≤ x.ms.length) ?inner 0 (Nat.zero_le _)) (by repeat' (first | exact EnvSub.nil _ | exact HeapSub.nil _ | refine EnvSub.cons rfl ?_ | refine HeapSub.cons rfl ?_ | (refine EnvSub.cons (by simp [Env.get]; done) ?_) | (refine HeapSub.cons (by simp [Heap.get]; done) ?_))) (by repeat' (first | exact EnvSub.nil _ | exact HeapSub.nil _ | refine EnvSub.cons rfl ?_ | refine HeapSub.cons rfl ?_ | (refine EnvSub.cons (by simp [Env.get]; done) ?_) | (refine HeapSub.cons (by simp [Heap.get]; done) ?_)))
          case inner =>
            intro j hj ih2
            dsimp only at hj ih2 ⊢
            by_cases hjl : j < x.ms.length
            · have q2 : ((j : Int) < x.ms.length) = True := by first | (simp only [eq_iff_iff, iff_true]; first | assumption | omega) | (simp; omega)
              have gj : (List.map (eI .i64) x.ms).getD j [] = eI .i64 (x.ms.getD j default) := getD_map _ _ _ hjl
              have cj := On_ok P (x.ms.getD j default) hPl
              rw [hop j hjl] at cj
              dsimp only [Option.map_none, Option.getD_none, Option.isSome_none] at cj
              have hz2 := ih2 (j + 1) (by omega) (by omega)
              clear ih2 hz
              generalize x.ms.getD j default = v2 at *
              have e0 : (0 ≤ (j : Int)) = True := by first | (simp only [eq_iff_iff, iff_true]; first | assumption | omega) | (simp; omega)
              refine hκ.run 300 ?_
              simp (disch := omega) only [push_cast, simprocAttr, q1, q2, gj, e0]
              refine Does.ret hκ.hP hκ.hgl cj ⟨trivial, by first | (simp [SV.bnd, SV.bndL]; done) | (simp [SV.bnd, SV.bndL, ec_bnd]; done), by first | (simp [SV.bnd, SV.bndL]; done) | (simp [SV.bnd, SV.bndL, ec_bnd]; done) | assumption⟩ ?_
              refine hκ.run 300 ?_
              simp (disch := omega) only [push_cast, simprocAttr, q1, q2, gj, e0]
              exact hz2.less (by repeat' (first | exact EnvSub.nil _ | exact HeapSub.nil _ | refine EnvSub.cons rfl ?_ | refine HeapSub.cons rfl ?_ | (refine EnvSub.cons (by simp [Env.get]; done) ?_) | (refine HeapSub.cons (by simp [Heap.get]; done) ?_))) (by repeat' (first | exact EnvSub.nil _ | exact HeapSub.nil _ | refine EnvSub.cons rfl ?_ | refine HeapSub.cons rfl ?_ | (refine EnvSub.cons (by simp [Env.get]; done) ?_) | (refine HeapSub.cons (by simp [Heap.get]; done) ?_)))
            · obtain rfl : j = x.ms.length := by omega
              have q2 : ((x.ms.length : Int) < x.ms.length) = False := by first | (simp only [eq_iff_iff, iff_false]; first | assumption | omega) | (simp; omega)
              refine hκ.run 300 ?_
              simp (disch := omega) only [push_cast, simprocAttr, q2]
              refine Sat.via (fun i => i) (hz) (by intro i j; (repeat (first | omega | split))) (by repeat' (first | exact EnvVia.nil | refine EnvVia.cons (by first | trivial | decide | (simp [SV.bnd, SV.bndL]; done)) rfl ?_)) (by repeat' (first | exact HeapVia.nil | refine HeapVia.cons (by decide) (by first | trivial | exact Blk.bnd_own0 (by assumption) | (simp [Blk.bnd, SV.bnd, SV.bndL]; done) | exact bndL_mapV _ _ _ | exact LR.bnd (by rw [l2]; simp [bndE, SV.bnd, SV.bndL]) (by rw [l6]; decide)) (by first | (rw [Blk.ren_own0 (by assumption)]; rfl) | rfl | (simp only [Blk.ren, renL_mapV]; rfl) | (rw [LR.ren (by rw [l2] <;> rfl) (by rw [l6] <;> rfl)]; rfl)) ?_)) ⟨by have := hκ.hm; (try dsimp only at this); (first | done | omega), fun i hi => by have := hκ.hm; (try dsimp only at this); (first | omega | (dsimp only; omega) | (rw [if_neg (by omega)]))⟩ ⟨by simp, rfl⟩
      | some at' =>
        rw [ho] at c0 hop hz
        dsimp only at hz
        obtain ⟨ha, hab0⟩ := tkO_ok (by omega) ho
        have hzl : (x.ms.zip at').length = x.ms.length := by rw [List.length_zip]; omega
        refine Does.ret hκ.hP hκ.hgl c0 ⟨trivial, by first | (simp [SV.bnd, SV.bndL]; done) | (simp [SV.bnd, SV.bndL, ec_bnd]; done), by first | (simp [SV.bnd, SV.bndL]; done) | (simp [SV.bnd, SV.bndL, ec_bnd]; done) | assumption⟩ ?_
        refine hκ.runD 300 ?_
        simp (disch := omega) only [push_cast, simprocAttr, q1, gk, te, cm, oz, on, le, tk, g0, t1]
        refine hκ.draw (.q 0 (.q 1 (.q 2 (.q 3 (.q 4 (.q 5 (.q 6 (.q 7 (.q 8 (.q 9 (.q 10 (.q 11 (.q 12 (.q 13 (.q 16 (.q 17 (.q 19 (.l 14 [4, 11, 17] (.q 15 (.l 18 [4, 9, 11, 13] (.l 20 [4, 9, 11, 13, 17] (.q 21 (.q 22 (.fin)))))))))))))))))))))))) [0, 1, 2, 3, 4, 5, 6, 7, 8, 9, 10, 11, 12, 13, 15, 16, 17, 19, 21, 22] (by kernel_rfl) (by kernel_rfl) rfl ?_
        simp (disch := omega) only [push_cast, simprocAttr, q1, gk, te, cm, oz, on, le, tk, g0, t1]
        refine hκ.runD 300 ?_
        simp (disch := omega) only [push_cast, simprocAttr, q1, gk, te, cm, oz, on, le, tk, g0, t1]
        refine Sat.less (Sat.loop (γ := Nat) (fun j => ([(77, I j), (76, I x.ms.length), (75, Is x.ms), (38, I k), (37, I l.length), (36, Ens l), (3, Ps P), (6, S (tk2 (ps ++ (x.ms.zip at').take j))), (1, .ptr 0 0 0 0)], [(0, .own [Ens l, Ws w, S free] 27)], 2)) (fun j => x.ms.length - j) (fun j => j ≤ x.ms.length) ?inner 0 (Nat.zero_le _)) ?sub0 (by repeat' (first | exact EnvSub.nil _ | exact HeapSub.nil _ | refine EnvSub.cons rfl ?_ | refine HeapSub.cons rfl ?_ | (refine EnvSub.cons (by simp [Env.get]; done) ?_) | (refine HeapSub.cons (by simp [Heap.get]; done) ?_)))
        case inner =>
          intro j hj ih2
          dsimp only at hj ih2 ⊢
          by_cases hjl : j < x.ms.length
          · have q2 : ((j : Int) < x.ms.length) = True := by first | (simp only [eq_iff_iff, iff_true]; first | assumption | omega) | (simp; omega)
            have gj : (List.map (eI .i64) x.ms).getD j [] = eI .i64 (x.ms.getD j default) := getD_map _ _ _ hjl
            have cj := On_ok P (x.ms.getD j default) hPl
            rw [hop j hjl] at cj
            dsimp only [Option.map_some, Option.getD_some, Option.isSome_some] at cj
            have hz2 := ih2 (j + 1) (by omega) (by omega)
            rw [List.take_succ_eq_append_getElem (by omega), ← List.append_assoc, tk2_snoc] at hz2
            have hsn : ((x.ms.zip at')[j]'(by omega)).2 = at'.getD j default := by simp [List.getD, show j < at'.length by omega]
            rw [hsn] at hz2
            have hab := hab0 (at'.getD j default) (getD_mem' (by omega))
            have htj := tk2_lt _ (ps ++ (x.ms.zip at').take j) rfl (by
              intro p hp
              rcases List.mem_append.1 hp with hp | hp
              · exact hpr p hp
              · exact hab0 _ (List.of_mem_zip (List.mem_of_mem_take hp)).2)
            clear ih2 hz
            generalize at'.getD j default = c at *
            generalize tk2 (ps ++ (x.ms.zip at').take j) = T at *
            generalize x.ms.getD j default = v at *
            obtain ⟨c, rfl⟩ : ∃ c' : Nat, c = c' := ⟨c.toNat, by omega⟩
            rw [Int.toNat_natCast] at hz2
            have e1 := pow32 c (by omega)
            have e2 : ibits .or .u32 (T : Int) ((2 : Int) ^ c) = ((T ||| 2 ^ c : Nat) : Int) := by
              have := or32 (a := T) (b := 2 ^ c) (by omega) (by have := pow_lt_256 (c := c) (by omega); omega)
              rwa [Int.natCast_pow] at this
            have e0 : (0 ≤ (j : Int)) = True := by first | (simp only [eq_iff_iff, iff_true]; first | assumption | omega) | (simp; omega)
            refine hκ.run 300 ?_
            simp (disch := omega) only [push_cast, simprocAttr, q1, q2, gj, e1, e2, e0]
            refine Does.ret hκ.hP hκ.hgl cj ⟨trivial, by first | (simp [SV.bnd, SV.bndL]; done) | (simp [SV.bnd, SV.bndL, ec_bnd]; done), by first | (simp [SV.bnd, SV.bndL]; done) | (simp [SV.bnd, SV.bndL, ec_bnd]; done) | assumption⟩ ?_
            refine hκ.run 300 ?_
            simp (disch := omega) only [push_cast, simprocAttr, q1, q2, gj, e1, e2, e0]
            refine ⟨by omega, fun _ => ?_⟩
            exact hz2.less (by repeat' (first | exact EnvSub.nil _ | exact HeapSub.nil _ | refine EnvSub.cons rfl ?_ | refine HeapSub.cons rfl ?_ | (refine EnvSub.cons (by simp [Env.get]; done) ?_) | (refine HeapSub.cons (by simp [Heap.get]; done) ?_))) (by repeat' (first | exact EnvSub.nil _ | exact HeapSub.nil _ | refine EnvSub.cons rfl ?_ | refine HeapSub.cons rfl ?_ | (refine EnvSub.cons (by simp [Env.get]; done) ?_) | (refine HeapSub.cons (by simp [Heap.get]; done) ?_)))
          · obtain rfl : j = x.ms.length := by omega
            have q2 : ((x.ms.length : Int) < x.ms.length) = False := by first | (simp only [eq_iff_iff, iff_false]; first | assumption | omega) | (simp; omega)
            rw [List.take_of_length_le (by omega)]
            refine hκ.run 300 ?_
            simp (disch := omega) only [push_cast, simprocAttr, q2]
            refine Sat.via (fun i => i) (hz) (by intro i j; (repeat (first | omega | split))) (by repeat' (first | exact EnvVia.nil | refine EnvVia.cons (by first | trivial | decide | (simp [SV.bnd, SV.bndL]; done)) rfl ?_)) (by repeat' (first | exact HeapVia.nil | refine HeapVia.cons (by decide) (by first | trivial | exact Blk.bnd_own0 (by assumption) | (simp [Blk.bnd, SV.bnd, SV.bndL]; done) | exact bndL_mapV _ _ _ | exact LR.bnd (by rw [l2]; simp [bndE, SV.bnd, SV.bndL]) (by rw [l6]; decide)) (by first | (rw [Blk.ren_own0 (by assumption)]; rfl) | rfl | (simp only [Blk.ren, renL_mapV]; rfl) | (rw [LR.ren (by rw [l2] <;> rfl) (by rw [l6] <;> rfl)]; rfl)) ?_)) ⟨by have := hκ.hm; (try dsimp only at this); (first | done | omega), fun i hi => by have := hκ.hm; (try dsimp only at this); (first | omega | (dsimp only; omega) | (rw [if_neg (by omega)]))⟩ ⟨by simp, rfl⟩
        · dsimp only
          rw [List.take_zero, List.append_nil]
          exact (by repeat' (first | exact EnvSub.nil _ | exact HeapSub.nil _ | refine EnvSub.cons rfl ?_ | refine HeapSub.cons rfl ?_ | (refine EnvSub.cons (by simp [Env.get]; done) ?_) | (refine HeapSub.cons (by simp [Heap.get]; done) ?_)))
    · have q1 : ((k : Int) < l.length) = False := by first | (simp only [eq_iff_iff, iff_false]; first | assumption | omega) | (simp; omega)
      refine hκ.run 300 ?_
      simp (disch := omega) only [push_cast, simprocAttr, q1]
      refine hκ.ret _ _ _ _ _ _ trivial rfl ?_
      rfl
end Go.Proofs.YtnjgmjcokcfmkaaDoor
