/- The document's events of a row's bytes. No condition. -/
import Derived.Test.YtmieikflcolbaaaIb
import Derived.Test.YtmieikflcolbaaaRg
namespace Go.Proofs.Ytmieikflcolbaaa
open Go Go.Sy
set_option maxRecDepth 100000
set_option linter.unusedSimpArgs false
set_option linter.unusedVariables false
set_option maxHeartbeats 4000000
def tM : Nat → List Int × Int → List Evt × List Int × Int
  | 0, q => ([], q)
  | n + 1, q => if q.2 ≠ 0 then ([], q) else if (tA q.1).2.2 ≠ 0 then ([], (tA q.1).2) else ((tA q.1).1 :: (tM n (tA q.1).2).1, (tM n (tA q.1).2).2)
theorem tM_err {q : List Int × Int} (n : Nat) (h : q.2 ≠ 0) : tM n q = ([], q) := by
  cases n with
  | zero => rfl
  | succ n => rw [tM, if_pos h]
def RM (b : List Int) : List Evt × List Int × Int := tM (evN b) (tR b 0 2, tE b 0 2)
def SimR (b : List Int) (x : List Evt × In) (y : List Evt × List Int × Int) : Prop := x.1 = y.1 ∧ errOf x.2 = y.2.2 ∧ (y.2.2 = 0 → b.drop x.2.wk = y.2.1 ∧ x.2.wk ≤ b.length)
theorem errOf_z {s : In} (h : errOf s = 0) : s.er = 0 ∧ s.bad = false := by
  unfold errOf at h
  cases hb : s.bad
  · rw [hb, if_neg (by decide)] at h; exact ⟨h, rfl⟩
  · rw [hb, if_pos rfl] at h; cases h
theorem sim_many {b : List Int} (hb : isY b) : ∀ (n : Nat) (s : In) (q : List Int × Int), errOf s = q.2 → (q.2 = 0 → b.drop s.wk = q.1 ∧ s.wk ≤ b.length) → SimR b (many b n s) (tM n q)
  | 0, s, q, h1, h2 => ⟨rfl, h1, h2⟩
  | n + 1, s, q, h1, h2 => by
    by_cases h0 : q.2 = 0
    · obtain ⟨d1, d2⟩ := h2 h0
      obtain ⟨z1, z2⟩ := errOf_z (h1.trans h0)
      have hs := sim0 hb s ev0 z1 z2 d2
      have hY : isY q.1 := by rw [← d1]; exact fun x hx => hb x (List.mem_of_mem_drop hx)
      have ht := simTA q.1 hY
      rw [d1] at hs
      have u1 : many b (n + 1) s = if errOf (dEv b s ev0).1 ≠ 0 then ([], (dEv b s ev0).1) else ((dEv b s ev0).2 :: (many b n (dEv b s ev0).1).1, (many b n (dEv b s ev0).1).2) := by rw [many, if_neg (fun h => h (h1.trans h0))]
      have u2 : tM (n + 1) q = if (tA q.1).2.2 ≠ 0 then ([], (tA q.1).2) else ((tA q.1).1 :: (tM n (tA q.1).2).1, (tM n (tA q.1).2).2) := by rw [tM, if_neg (fun h => h h0)]
      rw [u1, u2]
      cases hp : pEv ev0 q.1 with
      | no e =>
        rw [hp] at hs ht
        rw [if_pos (by rw [hs.2]; exact hs.1), if_pos (by rw [ht.2]; exact ht.1)]
        exact ⟨rfl, by dsimp only; rw [hs.2]; exact ht.2.symm, fun h => absurd (ht.2.symm.trans h) ht.1⟩
      | ok a r =>
        rw [hp] at hs ht
        obtain ⟨g0, g1, g2, g3, g4⟩ := hs
        have ht : tA q.1 = (a, r, 0) := ht
        have he : errOf (dEv b s ev0).1 = 0 := by rw [errOf, g1, if_neg (by decide), g0]
        rw [if_neg (fun h => h he), ht, if_neg (fun h => h rfl)]
        obtain ⟨i1, i2, i3⟩ := sim_many hb n (dEv b s ev0).1 (r, 0) he fun _ => ⟨g4, g2⟩
        exact ⟨by dsimp only; rw [i1, g3], i2, i3⟩
    · rw [many_err _ (by rw [h1]; exact h0), tM_err _ h0]
      exact ⟨rfl, h1, h2⟩
theorem sim_ev {b : List Int} (hb : isY b) : SimR b (evM b) (RM b) := by
  refine sim_many hb _ _ _ ?_ ?_
  · show errOf (rdS b 2 s0) = tE b 0 2
    simp only [errOf, rdS, s0, erR, tE, Nat.zero_add]
    rfl
  · intro h
    have hl : 2 ≤ b.length := by
      have h : tE b 0 2 = 0 := h
      by_cases hl : b.length < 2
      · rw [tE, if_pos ⟨rfl, hl⟩] at h; cases h
      · omega
    have e1 : (rdS b 2 s0).wk = 2 := by
      show wkR b 0 0 2 = 2
      rw [wkR, if_pos ⟨rfl, by omega⟩]
    rw [e1]
    exact ⟨(if_pos ⟨rfl, hl⟩ : tR b 0 2 = _).symm, hl⟩
theorem evN_t (b : List Int) : evN b = (tN b 0 2).toNat := by
  rw [evN]
  congr 1
theorem evs_eq {b : List Int} (hb : isY b) : evE b = (if 2000 < evN b then 3 else if (RM b).2.2 = 0 then (if (RM b).2.1 = [] then 0 else 361) else (RM b).2.2) ∧ (evM b).1 = (RM b).1 := by
  obtain ⟨h1, h2, h3⟩ := sim_ev hb
  refine ⟨?_, h1⟩
  rw [evE, h2]
  split
  · rfl
  by_cases h : (RM b).2.2 = 0
  · obtain ⟨d1, d2⟩ := h3 h
    rw [if_neg (fun x => x h), if_pos h, ← d1]
    by_cases hl : (evM b).2.wk < b.length
    · rw [if_pos hl, if_neg (by rw [List.drop_eq_nil_iff]; omega)]
    · rw [if_neg hl, if_pos (by rw [List.drop_eq_nil_iff]; omega)]
  · rw [if_pos h, if_neg h]
theorem tA_Y {r : List Int} (h : isY r) : isY (tA r).2.1 := by
  have tk : ∀ (l : List Nat) (q : Evt × List Int × Int), isY q.2.1 → isY (tCs l q).2.1 := by
    intro l
    induction l with
    | nil => exact fun q h => h
    | cons c l ih =>
      intro q h
      rw [tCs]
      split
      · exact ih _ (tC_Y c h)
      · exact h
  refine tk _ _ ?_
  dsimp only
  rw [k2]
  split
  · exact tR_Y h
  · exact tR_Y (tR_Y h)
theorem tC_len (q : Evt × List Int × Int) (c : Nat) : (tC q c).2.1.length ≤ q.2.1.length := by
  unfold tC
  repeat' split
  · exact Nat.le_trans tR_len tR_len
  · exact Nat.le_trans tR_len tR_len
  · exact tLs_len _
  · exact tLs_len _
  · exact tR_len
  · exact tR_len
theorem tA_len (r : List Int) : (tA r).2.1.length ≤ r.length := by
  have tk : ∀ (l : List Nat) (q : Evt × List Int × Int), (tCs l q).2.1.length ≤ q.2.1.length := by
    intro l
    induction l with
    | nil => exact fun q => Nat.le_refl _
    | cons c l ih =>
      intro q
      rw [tCs]
      split
      · exact Nat.le_trans (ih _) (tC_len q c)
      · exact Nat.le_refl _
  refine Nat.le_trans (tk _ _) ?_
  dsimp only
  rw [k2]
  split
  · exact tR_len
  · exact Nat.le_trans tR_len tR_len
theorem revents_ok (b : List Int) (hb : isY b) (hn : b.length < 2 ^ 46) : Con Try.prog gl0 (fnv 24) [By b] 0 [] (Ret (.tup [Es (evL b), I (evK b), I (evE b)])) := by
  suffices H : Con Try.prog gl0 (fnv 24) [By b] 0 [] (Ret (.tup [if evE b = 0 then Es (evM b).1 else .v (.slice none 0 0), I (evK b), I (evE b)])) by
    by_cases ho : evE b = 0
    · rw [if_pos ho] at H; rw [evL, if_pos ho]; exact H
    · rw [if_neg ho] at H; rw [evL, if_neg ho]; exact Con.repR (fun ν => Rel.tupMap (RelL.mapHead fun _ => nil_rd)) H
  obtain ⟨hE, hM⟩ := evs_eq hb
  have hK : evK b = if 2000 < evN b then 0 else ((evM b).1.length : Int) := rfl
  rw [hM] at hK
  rw [hM, hK]
  have hR : RM b = tM (evN b) (tR b 0 2, tE b 0 2) := rfl
  have c1 := number48_ok b 0 2 hb hn (by decide)
  have b1 := tN_bd (e := 0) 2 hb
  simp only [Int.reducePow] at b1
  have hN : tN b 0 2 = (evN b : Nat) := by rw [evN_t]; omega
  rw [hN] at c1 b1
  have y1 := tR_Y (e := 0) (w := 2) hb
  have l1 : (tR b 0 2).length < 2 ^ 46 := Nat.lt_of_le_of_lt tR_len hn
  generalize evE b = eE at *
  clear hM hK hN
  generalize RM b = mm at *
  generalize evN b = n at *
  generalize tR b 0 2 = r1 at *
  generalize tE b 0 2 = e1 at *
  have wn : IntKind.i64.wrap (n : Int) = n := wrap_i64 (by omega) (by omega)
  refine Con.of Try.ok24 (nt := 72) (res := [.tmp 2, .tmp 3, .tmp 4]) Try.mixed Try.func24 rfl rfl rfl rfl fun κ xc hκ => hκ.run 300 ?_
  simp (disch := omega) only [push_cast, simprocAttr, wn, tec, lec, oec, ones_ec]
  refine Does.keep hκ.hP hκ.hgl 0 [.ptr 0 0 0 0, I 2] c1 rfl ⟨trivial, by first | (simp [SV.bnd, SV.bndL]; done) | (simp [SV.bnd, SV.bndL, ec_bnd]; done), by first | (simp [SV.bnd, SV.bndL]; done) | (simp [SV.bnd, SV.bndL, ec_bnd]; done) | assumption⟩ ⟨Tk.good.1, Tk.good.2, Tk.good.1⟩ rfl (by first | omega | (dsimp only; omega)) ?_
  by_cases h2 : 2000 < n
  · rw [if_pos h2] at hE
    rw [if_pos h2, hE, if_neg (show ¬(3 : Int) = 0 by decide)] at hκ
    have q1 : (2000 < (n : Int)) = True := by first | (simp only [eq_iff_iff, iff_true]; first | assumption | omega) | (simp; omega)
    refine hκ.run 300 ?_
    simp (disch := omega) only [push_cast, simprocAttr, q1, wn]
    refine Sat.enter ?_
    have q0 : ((0 : Int) < n) = True := by first | (simp only [eq_iff_iff, iff_true]; first | assumption | omega) | (simp; omega)
    refine hκ.run 300 ?_
    simp (disch := omega) only [push_cast, simprocAttr, q0, q1, wn]
    (repeat (refine ⟨by first | omega | (refine ⟨?_, ?_⟩ <;> omega) | trivial | (simp; done) | decide +kernel, fun _ => ?_⟩))
    refine hκ.ret _ _ _ _ _ _ trivial rfl ?_
    exact .ret (by simp [SV.bnd, SV.bndL])
  rw [if_neg h2] at hκ hE
  have q1 : (2000 < (n : Int)) = False := by first | (simp only [eq_iff_iff, iff_false]; first | assumption | omega) | (simp; omega)
  refine hκ.runA 6 300 ?_
  simp (disch := omega) only [push_cast, simprocAttr, q1, wn, tec, lec, oec, ones_ec]
  refine Sat.nilRow 7 29 37 rfl ?_
  apply Sat.join (κ := κ) (x := xc) (α := List Evt × List Int × Int × Nat) (nx := 2) (dfs := []) (fun g => mm = (g.1, g.2.1, g.2.2.1) ∧ g.1.length ≤ g.2.2.2 ∧ g.1.length ≤ n) (fun g => ([(7, .sl 1 29 0 g.1.length g.2.2.2), (5, .ptr 0 0 0 0)], [(1, .row 29 g.2.2.2 37 (g.1.map ec)), (0, Tk g.2.1 g.2.2.1)]))
  · intro hj
    refine Sat.less (Sat.loop (γ := List Evt × List Int × Int × Nat) (fun g => ([(7, .sl 1 29 0 g.1.length g.2.2.2), (6, I n), (5, .ptr 0 0 0 0)], [(1, .row 29 g.2.2.2 37 (g.1.map ec)), (0, Tk g.2.1 g.2.2.1)], 2))
      (fun g => (n - g.1.length) + (if g.2.2.1 = 0 then 1 else 0)) (fun g => g.1.length ≤ n ∧ isY g.2.1 ∧ g.2.1.length < 2 ^ 46 ∧ mm = (g.1 ++ (tM (n - g.1.length) (g.2.1, g.2.2.1)).1, (tM (n - g.1.length) (g.2.1, g.2.2.1)).2) ∧ g.1.length ≤ g.2.2.2) ?round ([], r1, e1, 0) ⟨Nat.zero_le _, y1, l1, by rw [hR]; rfl, Nat.le_refl _⟩) (by repeat' (first | exact EnvSub.nil _ | exact HeapSub.nil _ | refine EnvSub.cons rfl ?_ | refine HeapSub.cons rfl ?_ | (refine EnvSub.cons (by simp [Env.get]; done) ?_) | (refine HeapSub.cons (by simp [Heap.get]; done) ?_))) (by repeat' (first | exact EnvSub.nil _ | exact HeapSub.nil _ | refine EnvSub.cons rfl ?_ | refine HeapSub.cons rfl ?_ | (refine EnvSub.cons (by simp [Env.get]; done) ?_) | (refine HeapSub.cons (by simp [Heap.get]; done) ?_)))
    case round =>
      rintro ⟨pre, r, e, cp⟩ ⟨hk, hy, hl, hm, hcp⟩ ih
      dsimp only at hk hy hl hm hcp ih ⊢
      by_cases hkn : pre.length < n
      · have q2 : ((pre.length : Int) < n) = True := by first | (simp only [eq_iff_iff, iff_true]; first | assumption | omega) | (simp; omega)
        obtain ⟨m, hm2⟩ : ∃ m, n - pre.length = m + 1 := ⟨n - pre.length - 1, by omega⟩
        rw [hm2] at hm
        by_cases he : e = 0
        · subst he
          rw [tM, if_neg (fun h => h rfl)] at hm
          dsimp only at hm
          have cA := act_ok r hy hl
          have yA := tA_Y hy
          have lA : (tA r).2.1.length < 2 ^ 46 := Nat.lt_of_le_of_lt (tA_len r) hl
          generalize tA r = q at *
          obtain ⟨a2, r2, e2⟩ := q
          dsimp only at hm cA yA lA
          have hno : e2 ≠ 0 → _ := fun h => ih (pre, r2, e2, cp) ⟨hk, yA, lA, by rw [if_pos h] at hm; dsimp only; rw [tM_err _ h]; exact hm, hcp⟩ (by dsimp only; rw [if_pos rfl, if_neg h]; omega)
          have hyes : e2 = 0 → ∀ cap, (pre ++ [a2]).length ≤ cap → _ := fun h cap hc => ih (pre ++ [a2], r2, e2, cap) ⟨by simp; omega, yA, lA, by
            rw [if_neg (fun x => x h)] at hm
            have e : n - (pre ++ [a2]).length = m := by simp; omega
            dsimp only
            rw [e, hm, List.append_assoc]
            rfl, hc⟩ (by have e : (pre ++ [a2]).length = pre.length + 1 := by simp
                         dsimp only; rw [if_pos rfl, e]; split <;> omega)
          dsimp only at hno hyes
          clear ih
          have te : List.take 29 (ec a2) = ec a2 := rfl
          have tf : idFrees (ec a2) = true := rfl
          refine hκ.runA 10 300 ?_
          simp (disch := omega) only [push_cast, simprocAttr, q2, wn, tec, lec, oec, oec2, ones_ec, te, tf]
          refine Does.keep hκ.hP hκ.hgl 0 [.ptr 0 0 0 0] cA rfl ⟨trivial, by first | (simp [SV.bnd, SV.bndL]; done) | (simp [SV.bnd, SV.bndL, ec_bnd]; done), by first | (simp [SV.bnd, SV.bndL]; done) | (simp [SV.bnd, SV.bndL, ec_bnd]; done) | assumption⟩ ⟨Tk.good.1, Tk.good.2, Tk.good.1⟩ rfl (by first | omega | (dsimp only; omega)) ?_
          by_cases h0 : e2 = 0
          · have et : List.take pre.length (List.map ec pre) = List.map ec pre := List.take_of_length_le (by simp)
            refine hκ.runA 10 300 ?_
            simp (disch := omega) only [push_cast, simprocAttr, q2, h0, wn, tec, lec, oec, oec2, ones_ec, te, tf, et]
            refine ⟨⟨Nat.le_refl _, by omega, by omega⟩, fun _ => ?_⟩
            intro c
            have hy := hyes h0 (pre.length + 1 + c) (by simp)
            rw [h0] at hy
            simp only [List.length_append, List.length_cons, List.length_nil, List.length_singleton, List.length_map, List.length_set, List.length_replicate, Nat.zero_add, Nat.add_zero, Int.natCast_add, Int.natCast_one, Int.ofNat_eq_natCast, List.map_append, List.map_cons, List.map_nil, List.take_length, eI, eB] at hy ⊢
            refine Sat.via (fun i => if i = 1 then 4 else i) (hy) (by intro i j; (repeat (first | omega | split))) (by repeat' (first | exact EnvVia.nil | refine EnvVia.cons (by first | trivial | decide | (simp [SV.bnd, SV.bndL]; done)) rfl ?_)) (by repeat' (first | exact HeapVia.nil | refine HeapVia.cons (by decide) (by first | trivial | exact Blk.bnd_own0 (by assumption) | (simp [Blk.bnd, SV.bnd, SV.bndL]; done) | exact bndL_mapV _ _ _ | exact LR.bnd (by rw [l2]; simp [bndE, SV.bnd, SV.bndL]) (by rw [l6]; decide)) (by first | (rw [Blk.ren_own0 (by assumption)]; rfl) | rfl | (simp only [Blk.ren, renL_mapV]; rfl) | (rw [LR.ren (by rw [l2] <;> rfl) (by rw [l6] <;> rfl)]; rfl)) ?_)) ⟨by have := hκ.hm; (try dsimp only at this); (first | done | omega), fun i hi => by have := hκ.hm; (try dsimp only at this); (first | omega | (dsimp only; omega) | (rw [if_neg (by omega)]))⟩ ⟨by simp, rfl⟩
          · skip
            refine hκ.runA 10 300 ?_
            simp (disch := omega) only [push_cast, simprocAttr, q2, h0, wn, tec, lec, oec, oec2, ones_ec, te, tf]
            have hy := hno h0
            refine Sat.via (fun i => i) (hy) (by intro i j; (repeat (first | omega | split))) (by repeat' (first | exact EnvVia.nil | refine EnvVia.cons (by first | trivial | decide | (simp [SV.bnd, SV.bndL]; done)) rfl ?_)) (by repeat' (first | exact HeapVia.nil | refine HeapVia.cons (by decide) (by first | trivial | exact Blk.bnd_own0 (by assumption) | (simp [Blk.bnd, SV.bnd, SV.bndL]; done) | exact bndL_mapV _ _ _ | exact LR.bnd (by rw [l2]; simp [bndE, SV.bnd, SV.bndL]) (by rw [l6]; decide)) (by first | (rw [Blk.ren_own0 (by assumption)]; rfl) | rfl | (simp only [Blk.ren, renL_mapV]; rfl) | (rw [LR.ren (by rw [l2] <;> rfl) (by rw [l6] <;> rfl)]; rfl)) ?_)) ⟨by have := hκ.hm; (try dsimp only at this); (first | done | omega), fun i hi => by have := hκ.hm; (try dsimp only at this); (first | omega | (dsimp only; omega) | (rw [if_neg (by omega)]))⟩ ⟨by simp, rfl⟩
        · skip
          refine hκ.runA 10 300 ?_
          simp (disch := omega) only [push_cast, simprocAttr, q2, he, wn, tec, lec, oec, oec2, ones_ec]
          have hy := hj (pre, r, e, cp) ⟨by rw [tM_err _ he, List.append_nil] at hm; exact hm, hcp, hk⟩
          dsimp only at hy
          refine Sat.via (fun i => i) (hy) (by intro i j; (repeat (first | omega | split))) (by repeat' (first | exact EnvVia.nil | refine EnvVia.cons (by first | trivial | decide | (simp [SV.bnd, SV.bndL]; done)) rfl ?_)) (by repeat' (first | exact HeapVia.nil | refine HeapVia.cons (by decide) (by first | trivial | exact Blk.bnd_own0 (by assumption) | (simp [Blk.bnd, SV.bnd, SV.bndL]; done) | exact bndL_mapV _ _ _ | exact LR.bnd (by rw [l2]; simp [bndE, SV.bnd, SV.bndL]) (by rw [l6]; decide)) (by first | (rw [Blk.ren_own0 (by assumption)]; rfl) | rfl | (simp only [Blk.ren, renL_mapV]; rfl) | (rw [LR.ren (by rw [l2] <;> rfl) (by rw [l6] <;> rfl)]; rfl)) ?_)) ⟨by have := hκ.hm; (try dsimp only at this); (first | done | omega), fun i hi => by have := hκ.hm; (try dsimp only at this); (first | omega | (dsimp only; omega) | (rw [if_neg (by omega)]))⟩ ⟨by simp, rfl⟩
      · have hk2 : n - pre.length = 0 := by omega
        rw [hk2, tM, List.append_nil] at hm
        have hy := hj (pre, r, e, cp) ⟨hm, hcp, hk⟩
        dsimp only at hy
        have q2 : ((pre.length : Int) < n) = False := by first | (simp only [eq_iff_iff, iff_false]; first | assumption | omega) | (simp; omega)
        refine hκ.runA 10 300 ?_
        simp (disch := omega) only [push_cast, simprocAttr, q2, wn, tec, lec, oec, oec2, ones_ec]
        refine Sat.via (fun i => i) (hy) (by intro i j; (repeat (first | omega | split))) (by repeat' (first | exact EnvVia.nil | refine EnvVia.cons (by first | trivial | decide | (simp [SV.bnd, SV.bndL]; done)) rfl ?_)) (by repeat' (first | exact HeapVia.nil | refine HeapVia.cons (by decide) (by first | trivial | exact Blk.bnd_own0 (by assumption) | (simp [Blk.bnd, SV.bnd, SV.bndL]; done) | exact bndL_mapV _ _ _ | exact LR.bnd (by rw [l2]; simp [bndE, SV.bnd, SV.bndL]) (by rw [l6]; decide)) (by first | (rw [Blk.ren_own0 (by assumption)]; rfl) | rfl | (simp only [Blk.ren, renL_mapV]; rfl) | (rw [LR.ren (by rw [l2] <;> rfl) (by rw [l6] <;> rfl)]; rfl)) ?_)) ⟨by have := hκ.hm; (try dsimp only at this); (first | done | omega), fun i hi => by have := hκ.hm; (try dsimp only at this); (first | omega | (dsimp only; omega) | (rw [if_neg (by omega)]))⟩ ⟨by simp, rfl⟩
  rintro ⟨pre, r, e, cp⟩ ⟨hm, hcp, hpn⟩
  dsimp only at hm hcp hpn ⊢
  rw [hm] at hE hκ
  dsimp only at hE hκ
  have et : List.take pre.length (List.map ec pre) = List.map ec pre := List.take_of_length_le (by simp)
  by_cases he : e = 0
  · rw [if_pos he] at hE
    by_cases hr : r = []
    · rw [if_pos hr] at hE
      rw [hE, if_pos rfl] at hκ
      refine hκ.run 300 ?_
      simp (disch := omega) only [push_cast, simprocAttr, he, hr, et, tec, lec, oec, oec2, ones_ec]
      refine hκ.ret _ _ _ _ _ _ trivial rfl ?_
      refine Post.frz [1] (by first | (simp [lendPL, lendP, lendSlP, dropL, Heap.get, Heap.drop, resV]; done) | (simp [lendPL, lendP, lendSlP, dropL, Heap.get, Heap.drop, resV]; omega) | (simp [lendPL, lendP, lendSlP, dropL, Heap.get, Heap.drop, resV, -List.length_eq_zero_iff]; omega)) ?_
      simp only [resV, lendL, lendS, lendSl, dropL, Heap.drop, Heap.get, List.mem_singleton, List.mem_cons, List.not_mem_nil, or_false, or_true, true_or, List.drop_zero, Nat.reduceEqDiff, Nat.one_ne_zero, Nat.zero_ne_one, ↓reduceIte, et]
      exact .ret (by simp [SV.bnd, SV.bndL])
    · rw [if_neg hr] at hE
      rw [hE, if_neg (show ¬(361 : Int) = 0 by decide)] at hκ
      have hrl : 0 < r.length := List.length_pos_iff.2 hr
      have q3 : ((0 : Int) < r.length) = True := by first | (simp only [eq_iff_iff, iff_true]; first | assumption | omega) | (simp; omega)
      refine hκ.run 300 ?_
      simp (disch := omega) only [push_cast, simprocAttr, he, q3, tec, lec, oec, oec2, ones_ec]
      (repeat (refine ⟨by first | omega | (refine ⟨?_, ?_⟩ <;> omega) | trivial | (simp; done) | decide +kernel, fun _ => ?_⟩))
      refine hκ.ret _ _ _ _ _ _ trivial rfl ?_
      exact .ret (by simp [SV.bnd, SV.bndL])
  · rw [if_neg he] at hE
    rw [hE, if_neg he] at hκ
    refine hκ.run 300 ?_
    simp (disch := omega) only [push_cast, simprocAttr, he, tec, lec, oec, oec2, ones_ec]
    (repeat (refine ⟨by first | omega | (refine ⟨?_, ?_⟩ <;> omega) | trivial | (simp; done) | decide +kernel, fun _ => ?_⟩))
    refine hκ.ret _ _ _ _ _ _ trivial rfl ?_
    exact .ret (by simp [SV.bnd, SV.bndL])
theorem sameAll_ok (l : List Evt) (hl : ∀ a ∈ l, wf a) (hn : l.length < 2 ^ 46) : Con Try.prog gl0 (fnv 25) [Es l, Es l] 0 [] (Ret (Bo true)) := by
  refine Con.of Try.ok25 (nt := 27) (res := [.tmp 4]) Try.mixed Try.func25 rfl rfl rfl rfl fun κ xc hκ => hκ.run 300 ?_
  simp (disch := omega) only [push_cast, simprocAttr, tec, lec, oec, oec2, ones_ec]
  refine Sat.less (Sat.loop (γ := Nat) (fun k => ([(13, I k), (12, I l.length), (0, Es l), (1, Es l)], [], 0)) (fun k => l.length - k) (fun k => k ≤ l.length) ?round 0 (Nat.zero_le _)) (by repeat' (first | exact EnvSub.nil _ | exact HeapSub.nil _ | refine EnvSub.cons rfl ?_ | refine HeapSub.cons rfl ?_ | (refine EnvSub.cons (by simp [Env.get]; done) ?_) | (refine HeapSub.cons (by simp [Heap.get]; done) ?_))) (by repeat' (first | exact EnvSub.nil _ | exact HeapSub.nil _ | refine EnvSub.cons rfl ?_ | refine HeapSub.cons rfl ?_ | (refine EnvSub.cons (by simp [Env.get]; done) ?_) | (refine HeapSub.cons (by simp [Heap.get]; done) ?_)))
  case round =>
    intro k hk ih
    dsimp only at hk ih ⊢
    by_cases hkl : k < l.length
    · have q1 : ((k : Int) < l.length) = True := by first | (simp only [eq_iff_iff, iff_true]; first | assumption | omega) | (simp; omega)
      have gk : (List.map ec l).getD k [] = ec (l.getD k default) := getD_map _ _ _ hkl
      have hm : l.getD k default ∈ l := by
        rw [List.getD, List.getElem?_eq_getElem hkl]; exact List.getElem_mem _
      have hw := hl _ hm
      have hz := ih (k + 1) (by omega) (by omega)
      clear ih hm
      generalize l.getD k default = a at *
      have c1 := rsame_ok a a hw hw
      rw [(same_iff hw hw).2 rfl] at c1
      refine hκ.runD 300 ?_
      simp (disch := omega) only [push_cast, simprocAttr, q1, gk, tec, lec, oec, oec2, ones_ec]
      refine hκ.draw (.q 0 (.q 1 (.q 2 (.q 3 (.q 4 (.q 5 (.q 6 (.q 7 (.l 8 [] (.q 9 (.fin))))))))))) [0, 1, 2, 3, 4, 5, 6, 7, 9] (by kernel_rfl) (by kernel_rfl) rfl ?_
      simp (disch := omega) only [push_cast, simprocAttr, q1, gk, tec, lec, oec, oec2, ones_ec]
      (repeat (refine ⟨by first | omega | (refine ⟨?_, ?_⟩ <;> omega) | trivial | (simp; done) | decide +kernel, fun _ => ?_⟩))
      refine DCall.of (Does.ret hκ.hP hκ.hgl c1 ⟨trivial, by first | (simp [SV.bnd, SV.bndL]; done) | (simp [SV.bnd, SV.bndL, ec_bnd]; done), by first | (simp [SV.bnd, SV.bndL]; done) | (simp [SV.bnd, SV.bndL, ec_bnd]; done) | assumption⟩ ?_)
      simp (disch := omega) only [push_cast, simprocAttr, q1, gk, tec, lec, oec, oec2, ones_ec]
      refine hκ.run 300 ?_
      simp (disch := omega) only [push_cast, simprocAttr, q1, gk, tec, lec, oec, oec2, ones_ec]
      exact hz.less (by repeat' (first | exact EnvSub.nil _ | exact HeapSub.nil _ | refine EnvSub.cons rfl ?_ | refine HeapSub.cons rfl ?_ | (refine EnvSub.cons (by simp [Env.get]; done) ?_) | (refine HeapSub.cons (by simp [Heap.get]; done) ?_))) (by repeat' (first | exact EnvSub.nil _ | exact HeapSub.nil _ | refine EnvSub.cons rfl ?_ | refine HeapSub.cons rfl ?_ | (refine EnvSub.cons (by simp [Env.get]; done) ?_) | (refine HeapSub.cons (by simp [Heap.get]; done) ?_)))
    · obtain rfl : k = l.length := by omega
      have q1 : ((l.length : Int) < l.length) = False := by first | (simp only [eq_iff_iff, iff_false]; first | assumption | omega) | (simp; omega)
      refine hκ.run 300 ?_
      simp (disch := omega) only [push_cast, simprocAttr, q1]
      refine hκ.ret _ _ _ _ _ _ trivial rfl ?_
      exact .ret trivial
end Go.Proofs.Ytmieikflcolbaaa
