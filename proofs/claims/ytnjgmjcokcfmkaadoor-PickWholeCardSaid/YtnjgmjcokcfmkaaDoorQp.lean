/- PickWhole: the walk of the law. No condition. -/
import Derived.Test.YtnjgmjcokcfmkaaDoorQo
namespace Go.Proofs.YtnjgmjcokcfmkaaDoor
open Go Go.Sy
set_option maxRecDepth 100000
set_option linter.unusedSimpArgs false
set_option linter.unusedVariables false
set_option maxHeartbeats 8000000

theorem tk2_free {P : List (Int × Int)} (hr : ∀ p ∈ P, 0 ≤ p.2 ∧ p.2 < 8) (hn : (P.map Prod.snd).Nodup) {k : Nat} (hk : k < P.length) : hasB (tk2 (P.take k)) (P.getD k default).2 = false := by
  rw [hasB, tk2_bit _ _ rfl, Bool.and_eq_false_iff]
  right
  rw [List.any_eq_false]
  intro p hp e
  have e := of_decide_eq_true e
  have r1 := hr p (List.mem_of_mem_take hp)
  have r2 := hr _ (getD_mem' hk)
  have e2 : p.2 = (P.getD k default).2 := by omega
  obtain ⟨i, hi, rfl⟩ := List.getElem_of_mem hp
  rw [List.length_take] at hi
  rw [List.getElem_take, List.getD, List.getElem?_eq_getElem hk, Option.getD_some] at e2
  have := List.pairwise_iff_getElem.1 hn i k (by simp; omega) (by simpa using hk) (by omega)
  simp only [List.getElem_map] at this
  exact this e2
theorem whole_law (l : List En) (w : List Wi) (free : Nat) (hl : ∀ x ∈ l, inE0 x) (hw : ∀ x ∈ w, inW x) (hn : l.length < 2 ^ 46) (hn2 : w.length < 2 ^ 46) (hf : free < 4294967296) : Law Tryd.prog gl0 8 [Ak l w free] := by
  have co := over_ok l w free hn hn2
  refine Law.of (nt := 113) (res := [.tmp 2]) Tryd.mixed Tryd.func8 rfl rfl rfl rfl fun κ xc hκ => hκ.run 300 ?_
  simp (disch := omega) only [push_cast, simprocAttr]
  refine Does.ret hκ.hP hκ.hgl (wakes_ok) ⟨trivial, by first | (simp [SV.bnd, SV.bndL]; done) | (simp [SV.bnd, SV.bndL, ec_bnd]; done), by first | (simp [SV.bnd, SV.bndL]; done) | (simp [SV.bnd, SV.bndL, ec_bnd]; done) | assumption⟩ ?_
  refine hκ.run 300 ?_
  simp (disch := omega) only [push_cast, simprocAttr]
  refine Does.ret hκ.hP hκ.hgl co ⟨trivial, by first | (simp [SV.bnd, SV.bndL]; done) | (simp [SV.bnd, SV.bndL, ec_bnd]; done), by first | (simp [SV.bnd, SV.bndL]; done) | (simp [SV.bnd, SV.bndL, ec_bnd]; done) | assumption⟩ ?_
  cases hov : overB l w
  rotate_left
  · refine hκ.run 300 ?_
    simp (disch := omega) only [push_cast, simprocAttr]
    refine hκ.ret _ _ _ _ _ _ trivial rfl ?_
    rfl
  obtain ⟨b1, b2, b3⟩ := over_bd hov
  have hl' : ∀ x ∈ l, inE x := fun x hx => ⟨(hl x hx).1, by have := b3 x hx; omega⟩
  have cp := Pick_ok l w free hl' hw (by omega) (by omega) hf
  refine hκ.run 300 ?_
  simp (disch := omega) only [push_cast, simprocAttr]
  by_cases he : askP l w free = 0
  rotate_left
  · rw [pickV, if_neg he] at cp
    refine Does.ret hκ.hP hκ.hgl cp ⟨trivial, by first | (simp [SV.bnd, SV.bndL]; done) | (simp [SV.bnd, SV.bndL, ec_bnd]; done), by first | (simp [SV.bnd, SV.bndL]; done) | (simp [SV.bnd, SV.bndL, ec_bnd]; done) | assumption⟩ ?_
    refine hκ.run 300 ?_
    simp (disch := omega) only [push_cast, simprocAttr, he]
    refine hκ.ret _ _ _ _ _ _ trivial rfl ?_
    rfl
  rw [pickV, if_pos he] at cp
  refine Does.ret hκ.hP hκ.hgl cp ⟨trivial, by first | (simp [SV.bnd, SV.bndL]; done) | (simp [SV.bnd, SV.bndL, ec_bnd]; done), by first | (simp [SV.bnd, SV.bndL]; done) | (simp [SV.bnd, SV.bndL, ec_bnd]; done) | assumption⟩ ?_
  obtain ⟨hpe, hf8⟩ := askP_zero he
  obtain ⟨hoL, hoV, hwn, hoW⟩ := pickE_zero hpe
  have hwl : ∀ x ∈ l, (wsh w x.ms).length = x.ms.length ∧ 1 ≤ x.ms.length := fun x hx => ⟨wsh_len hoL hoV hwn hx, (okL_rng l [] hoL x hx).1.1⟩
  obtain ⟨g1, g2, g3⟩ := pick_good (w := w) hf8 l.length l rfl (fun x hx => okW_of hpe hx)
  have g4 := puts_rng (w := w) (free := free) _ l rfl hwl
  have g5 := fun v hv => waits_on (w := w) (free := free) hpe (v := v) hv
  have g6 := whole_pick (free := free) hpe
  have g7 := idle_pick hpe hf8
  have hPl : (pickR w free l).puts.length < 2 ^ 46 ∧ (pickR w free l).waits.length < 2 ^ 46 := by
    have := (pickR_bd w free hf8 l.length l rfl fun x hx => (okL_rng l [] hoL x hx).1.2).2
    omega
  have ci := Idle_ok l w free (pickR w free l).puts hl' hw (by omega) (by omega) hf hPl.1 he
  have ch := Whole_ok l (pickR w free l).puts hl hn hPl.1
  rw [g7, bits_zero] at ci
  rw [g6] at ch
  clear g6 g7
  generalize (pickR w free l).puts = P at *
  generalize (pickR w free l).waits = W at *
  refine hκ.run 300 ?_
  simp (disch := omega) only [push_cast, simprocAttr]
  refine Sat.less (Sat.loop (γ := Nat) (fun k => ([(36, I k), (35, I P.length), (34, Ps P), (3, Ps P), (4, Is W), (6, S (tk2 (P.take k))), (1, .ptr 0 0 0 0)], [(0, .own [Ens l, Ws w, S free] 27)], 1)) (fun k => P.length - k) (fun k => k ≤ P.length) ?round 0 (Nat.zero_le _)) (by repeat' (first | exact EnvSub.nil _ | exact HeapSub.nil _ | refine EnvSub.cons rfl ?_ | refine HeapSub.cons rfl ?_ | (refine EnvSub.cons (by simp [Env.get]; done) ?_) | (refine HeapSub.cons (by simp [Heap.get]; done) ?_))) (by repeat' (first | exact EnvSub.nil _ | exact HeapSub.nil _ | refine EnvSub.cons rfl ?_ | refine HeapSub.cons rfl ?_ | (refine EnvSub.cons (by simp [Env.get]; done) ?_) | (refine HeapSub.cons (by simp [Heap.get]; done) ?_)))
  case round =>
    intro k hk ih
    dsimp only at hk ih ⊢
    by_cases hkl : k < P.length
    · have q1 : ((k : Int) < P.length) = True := by first | (simp only [eq_iff_iff, iff_true]; first | assumption | omega) | (simp; omega)
      have e00 : (0 ≤ (k : Int)) = True := by first | (simp only [eq_iff_iff, iff_true]; first | assumption | omega) | (simp; omega)
      have gk : (List.map eP P).getD k [] = eP (P.getD k default) := getD_map _ _ _ hkl
      have hs : P.take (k + 1) = P.take k ++ [P.getD k default] := by
        rw [List.take_succ_eq_append_getElem hkl, List.getD, List.getElem?_eq_getElem hkl]; rfl
      have hz := ih (k + 1) (by omega) (by omega)
      rw [hs, tk2_snoc] at hz
      have hfr := tk2_free g4 g1 hkl
      have hal := g2 _ (getD_mem' hkl)
      have hr := g4 _ (getD_mem' hkl)
      have hlt := tk2_lt _ (P.take k) rfl (fun p hp => g4 p (List.mem_of_mem_take hp))
      clear ih hs
      generalize P.getD k default = p at *
      generalize tk2 (P.take k) = s at *
      have hwo := wshO_in hw p.1
      have c1 := has_ok s p.2 (by omega) (by omega)
      rw [hfr] at c1
      have c2 := wish_ok l w free p.1 (by omega)
      have c3 := allows_ok (wshO w p.1).m free hwo.2.2 (by omega)
      have c4 := has_ok (alw (wshO w p.1).m free) p.2 (by have := alw_lt (wshO w p.1).m free; omega) (by omega)
      rw [hal] at c4
      generalize wshO w p.1 = wo at *
      rw [eW] at c2
      rw [eP] at gk
      have pw := pow32 p.2.toNat (by omega)
      have hp2 := pow_lt_256 (c := p.2.toNat) (by omega)
      have e2 : ibits .or .u32 (s : Int) ((2 : Int) ^ p.2.toNat) = ((s ||| 2 ^ p.2.toNat : Nat) : Int) := by
        have := or32 (a := s) (b := 2 ^ p.2.toNat) (by omega) (by omega)
        rwa [Int.natCast_pow] at this
      have q2 : ((0 : Int) ≤ p.2) = True := by first | (simp only [eq_iff_iff, iff_true]; first | assumption | omega) | (simp; omega)
      refine hκ.runD 300 ?_
      simp (disch := omega) only [push_cast, simprocAttr, q1, gk, e00, q2, pw, e2]
      refine hκ.draw (.q 0 (.q 1 (.q 2 (.l 3 [] (.q 4 (.q 5 (.q 6 (.q 7 (.q 10 (.q 11 (.q 13 (.q 14 (.l 8 [2, 11, 14] (.q 9 (.l 12 [2, 5, 7, 14] (.l 15 [2, 5, 7, 11] (.q 16 (.q 17 (.fin))))))))))))))))))) [0, 1, 2, 4, 5, 6, 7, 9, 10, 11, 13, 14, 16, 17] (by kernel_rfl) (by kernel_rfl) rfl ?_
      simp (disch := omega) only [push_cast, simprocAttr, q1, gk, e00, q2, pw, e2]
      refine DCall.of (Does.ret hκ.hP hκ.hgl c1 ⟨trivial, by first | (simp [SV.bnd, SV.bndL]; done) | (simp [SV.bnd, SV.bndL, ec_bnd]; done), by first | (simp [SV.bnd, SV.bndL]; done) | (simp [SV.bnd, SV.bndL, ec_bnd]; done) | assumption⟩ ?_)
      simp (disch := omega) only [push_cast, simprocAttr, q1, gk, e00, q2, pw, e2]
      refine DCall.of (Does.ret hκ.hP hκ.hgl c2 ⟨trivial, by first | (simp [SV.bnd, SV.bndL]; done) | (simp [SV.bnd, SV.bndL, ec_bnd]; done), by first | (simp [SV.bnd, SV.bndL]; done) | (simp [SV.bnd, SV.bndL, ec_bnd]; done) | assumption⟩ ?_)
      simp (disch := omega) only [push_cast, simprocAttr, q1, gk, e00, q2, pw, e2]
      refine DCall.of (Does.ret hκ.hP hκ.hgl c3 ⟨trivial, by first | (simp [SV.bnd, SV.bndL]; done) | (simp [SV.bnd, SV.bndL, ec_bnd]; done), by first | (simp [SV.bnd, SV.bndL]; done) | (simp [SV.bnd, SV.bndL, ec_bnd]; done) | assumption⟩ ?_)
      simp (disch := omega) only [push_cast, simprocAttr, q1, gk, e00, q2, pw, e2]
      refine DCall.of (Does.ret hκ.hP hκ.hgl c4 ⟨trivial, by first | (simp [SV.bnd, SV.bndL]; done) | (simp [SV.bnd, SV.bndL, ec_bnd]; done), by first | (simp [SV.bnd, SV.bndL]; done) | (simp [SV.bnd, SV.bndL, ec_bnd]; done) | assumption⟩ ?_)
      simp (disch := omega) only [push_cast, simprocAttr, q1, gk, e00, q2, pw, e2]
      refine hκ.run 300 ?_
      simp (disch := omega) only [push_cast, simprocAttr, q1, gk, e00, q2, pw, e2]
      refine Sat.via (fun i => i) (hz) (by intro i j; (repeat (first | omega | split))) (by repeat' (first | exact EnvVia.nil | refine EnvVia.cons (by first | trivial | decide | (simp [SV.bnd, SV.bndL]; done)) rfl ?_)) (by repeat' (first | exact HeapVia.nil | refine HeapVia.cons (by decide) (by first | trivial | exact Blk.bnd_own0 (by assumption) | (simp [Blk.bnd, SV.bnd, SV.bndL]; done) | exact bndL_mapV _ _ _ | exact LR.bnd (by rw [l2]; simp [bndE, SV.bnd, SV.bndL]) (by rw [l6]; decide)) (by first | (rw [Blk.ren_own0 (by assumption)]; rfl) | rfl | (simp only [Blk.ren, renL_mapV]; rfl) | (rw [LR.ren (by rw [l2] <;> rfl) (by rw [l6] <;> rfl)]; rfl)) ?_)) ⟨by have := hκ.hm; (try dsimp only at this); (first | done | omega), fun i hi => by have := hκ.hm; (try dsimp only at this); (first | omega | (dsimp only; omega) | (rw [if_neg (by omega)]))⟩ ⟨by simp, rfl⟩
    · obtain rfl : k = P.length := by omega
      rw [List.take_length]
      have q1 : ((P.length : Int) < P.length) = False := by first | (simp only [eq_iff_iff, iff_false]; first | assumption | omega) | (simp; omega)
      refine hκ.run 300 ?_
      simp (disch := omega) only [push_cast, simprocAttr, q1]
      refine Sat.less (Sat.loop (γ := Nat) (fun k => ([(66, I k), (65, I W.length), (64, Is W), (3, Ps P), (4, Is W), (1, .ptr 0 0 0 0)], [(0, .own [Ens l, Ws w, S free] 27)], 1)) (fun k => W.length - k) (fun k => k ≤ W.length) ?round2 0 (Nat.zero_le _)) (by repeat' (first | exact EnvSub.nil _ | exact HeapSub.nil _ | refine EnvSub.cons rfl ?_ | refine HeapSub.cons rfl ?_ | (refine EnvSub.cons (by simp [Env.get]; done) ?_) | (refine HeapSub.cons (by simp [Heap.get]; done) ?_))) (by repeat' (first | exact EnvSub.nil _ | exact HeapSub.nil _ | refine EnvSub.cons rfl ?_ | refine HeapSub.cons rfl ?_ | (refine EnvSub.cons (by simp [Env.get]; done) ?_) | (refine HeapSub.cons (by simp [Heap.get]; done) ?_)))
      case round2 =>
        intro k hk ih
        dsimp only at hk ih ⊢
        by_cases hkl : k < W.length
        · have q1 : ((k : Int) < W.length) = True := by first | (simp only [eq_iff_iff, iff_true]; first | assumption | omega) | (simp; omega)
          have e00 : (0 ≤ (k : Int)) = True := by first | (simp only [eq_iff_iff, iff_true]; first | assumption | omega) | (simp; omega)
          have gk : (List.map (eI .i64) W).getD k [] = eI .i64 (W.getD k default) := getD_map _ _ _ hkl
          have hz := ih (k + 1) (by omega) (by omega)
          have c1 := On_ok P (W.getD k default) hPl.1
          rw [g5 _ (getD_mem' hkl)] at c1
          dsimp only [Option.getD_none, Option.isSome_none] at c1
          clear ih
          generalize W.getD k default = v at *
          refine hκ.run 300 ?_
          simp (disch := omega) only [push_cast, simprocAttr, q1, gk, e00]
          refine Does.ret hκ.hP hκ.hgl c1 ⟨trivial, by first | (simp [SV.bnd, SV.bndL]; done) | (simp [SV.bnd, SV.bndL, ec_bnd]; done), by first | (simp [SV.bnd, SV.bndL]; done) | (simp [SV.bnd, SV.bndL, ec_bnd]; done) | assumption⟩ ?_
          refine hκ.run 300 ?_
          simp (disch := omega) only [push_cast, simprocAttr, q1, gk, e00]
          exact hz.less (by repeat' (first | exact EnvSub.nil _ | exact HeapSub.nil _ | refine EnvSub.cons rfl ?_ | refine HeapSub.cons rfl ?_ | (refine EnvSub.cons (by simp [Env.get]; done) ?_) | (refine HeapSub.cons (by simp [Heap.get]; done) ?_))) (by repeat' (first | exact EnvSub.nil _ | exact HeapSub.nil _ | refine EnvSub.cons rfl ?_ | refine HeapSub.cons rfl ?_ | (refine EnvSub.cons (by simp [Env.get]; done) ?_) | (refine HeapSub.cons (by simp [Heap.get]; done) ?_)))
        · obtain rfl : k = W.length := by omega
          have q1 : ((W.length : Int) < W.length) = False := by first | (simp only [eq_iff_iff, iff_false]; first | assumption | omega) | (simp; omega)
          have q2 : ((P.length : Int) + W.length = w.length) = True := by first | (simp only [eq_iff_iff, iff_true]; first | assumption | omega) | (simp; omega)
          have hov : IntKind.i64.wrap ((P.length : Int) + W.length) = (w.length : Int) := by
            have e : (P.length : Int) + W.length = w.length := by omega
            rw [e]
            exact wrap_i64 (by omega) (by omega)
          refine hκ.run 300 ?_
          simp (disch := omega) only [push_cast, simprocAttr, q1, q2, hov]
          refine Does.ret hκ.hP hκ.hgl ci ⟨trivial, by first | (simp [SV.bnd, SV.bndL]; done) | (simp [SV.bnd, SV.bndL, ec_bnd]; done), by first | (simp [SV.bnd, SV.bndL]; done) | (simp [SV.bnd, SV.bndL, ec_bnd]; done) | assumption⟩ ?_
          refine hκ.run 300 ?_
          simp (disch := omega) only [push_cast, simprocAttr, q1, q2, hov]
          refine Does.ret hκ.hP hκ.hgl ch ⟨trivial, by first | (simp [SV.bnd, SV.bndL]; done) | (simp [SV.bnd, SV.bndL, ec_bnd]; done), by first | (simp [SV.bnd, SV.bndL]; done) | (simp [SV.bnd, SV.bndL, ec_bnd]; done) | assumption⟩ ?_
          refine hκ.run 300 ?_
          simp (disch := omega) only [push_cast, simprocAttr, q1, q2, hov]
          refine hκ.ret _ _ _ _ _ _ trivial rfl ?_
          rfl
end Go.Proofs.YtnjgmjcokcfmkaaDoor
