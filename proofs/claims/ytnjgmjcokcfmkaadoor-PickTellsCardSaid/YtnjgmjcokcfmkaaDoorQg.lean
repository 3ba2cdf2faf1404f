/- The document's choices of a member. No condition. -/
import Derived.Test.YtnjgmjcokcfmkaaDoorQf
import Derived.Test.YtnjgmjcokcfmkaaDoorR7
namespace Go.Proofs.YtnjgmjcokcfmkaaDoor
open Go Go.Sy
set_option maxRecDepth 100000
set_option linter.unusedSimpArgs false
set_option linter.unusedVariables false
set_option maxHeartbeats 4000000

def rng (n : Nat) : List Int := (List.range n).map fun c : Nat => (c : Int)
theorem rng_succ (n : Nat) : rng (n + 1) = rng n ++ [(n : Int)] := by simp [rng, List.range_succ]
theorem rng_mem {n : Nat} {c : Int} : c ∈ rng n ↔ 0 ≤ c ∧ c < n := by
  simp only [rng, List.mem_map, List.mem_range]
  constructor
  · rintro ⟨a, h, rfl⟩; omega
  · rintro ⟨h1, h2⟩; exact ⟨c.toNat, by omega, by omega⟩
theorem bits_rng (s : Nat) : bits s = (rng 8).filter fun c => hasB s c := by
  rw [bits, rng, List.filter_map]
  refine congrArg _ (List.filter_congr fun c hc => ?_)
  have : c < 8 := List.mem_range.1 hc
  show s.testBit c = hasB s (c : Int)
  rw [hasB_nat this]
/-- Those of a set that are not there yet, behind them. -/
def addB (out : List Int) (s n : Nat) : List Int := out ++ (rng n).filter fun c => hasB s c && !decide (c ∈ out)
theorem addB_succ (out : List Int) (s n : Nat) : addB out s (n + 1) = if (hasB s n && !decide ((n : Int) ∈ addB out s n)) = true then addB out s n ++ [(n : Int)] else addB out s n := by
  have hm : ((n : Int) ∈ addB out s n) ↔ (n : Int) ∈ out := by
    rw [addB, List.mem_append]
    constructor
    · rintro (h | h)
      · exact h
      · have := (rng_mem.1 (List.mem_filter.1 h).1).2; omega
    · exact Or.inl
  rw [show decide ((n : Int) ∈ addB out s n) = decide ((n : Int) ∈ out) from decide_eq_decide.2 hm, addB, rng_succ, List.filter_append, List.filter_cons, List.filter_nil, ← List.append_assoc]
  split
  · rfl
  · rw [List.append_nil]; rfl
theorem chs_add (w : Wi) (free : Nat) : chs w free = addB (addB (if hasB (alw w.m free) w.a = true then [w.a] else []) (lik w.m free) 8) (alw w.m free) 8 := by
  have hsub : ∀ c, hasB (lik w.m free) c = true → hasB (alw w.m free) c = true := fun c h => lik_sub h
  rw [chs]
  generalize alw w.m free = a at *
  generalize lik w.m free = k at *
  split
  · rename_i h
    have h8 := hasB_bd h
    rw [addB, addB, List.append_assoc, bits_rng, bits_rng]
    show w.a :: _ = [w.a] ++ _
    rw [List.cons_append, List.nil_append]
    congr 1
    congr 1
    · apply List.filter_congr
      intro c _
      rw [hasB_dif, hasB_pow h8]
      simp
    · apply List.filter_congr
      intro c hc
      rw [hasB_dif, hasB_dif, hasB_dif, hasB_pow h8]
      have e : (c ∈ [w.a] ++ (rng 8).filter fun c => hasB k c && !decide (c ∈ [w.a])) ↔ (c = w.a ∨ hasB k c = true) := by
        rw [List.mem_append, List.mem_singleton, List.mem_filter]
        constructor
        · rintro (h | ⟨_, h⟩)
          · exact Or.inl h
          · rw [Bool.and_eq_true] at h; exact Or.inr h.1
        · rintro (h | h)
          · exact Or.inl h
          · by_cases hcw : c = w.a
            · exact Or.inl hcw
            · exact Or.inr ⟨hc, by simp [h, hcw]⟩
      have e2 : decide (c ∈ [w.a] ++ (rng 8).filter fun c => hasB k c && !decide (c ∈ [w.a])) = decide (c = w.a ∨ hasB k c = true) := decide_eq_decide.2 e
      rw [e2]
      by_cases hk : hasB k c = true
      · by_cases hcw : c = w.a <;> simp [hk, hcw]
      · have hk : hasB k c = false := by simpa using hk
        by_cases hcw : c = w.a <;> simp [hk, hcw]
  · rw [addB, addB, bits_rng, bits_rng]
    simp only [List.nil_append, List.not_mem_nil, decide_false, Bool.not_false, Bool.and_true]
    congr 1
    apply List.filter_congr
    intro c hc
    rw [hasB_dif]
    have e : (c ∈ (rng 8).filter fun c => hasB k c) ↔ hasB k c = true := by
      rw [List.mem_filter]
      exact ⟨fun h => h.2, fun h => ⟨hc, h⟩⟩
    have e2 : decide (c ∈ (rng 8).filter fun c => hasB k c) = decide (hasB k c = true) := decide_eq_decide.2 e
    rw [e2]
    by_cases hk : hasB k c = true
    · simp [hk]
    · have hk : hasB k c = false := by simpa using hk
      simp [hk]
theorem has19_ok (l : List Int) (n : Int) (hn : l.length < 2 ^ 40) : Con Tryd.prog gl0 (fnv 44) [Is l, I n] 0 [] (Ret (Bo (decide (n ∈ l)))) := by
  refine Con.of Tryd.ok44 (nt := 18) (res := [.tmp 4]) Tryd.mixed Tryd.func44 rfl rfl rfl rfl fun κ xc hκ => hκ.run 300 ?_
  simp (disch := omega) only [push_cast, simprocAttr]
  refine Sat.less (Sat.loop (γ := Nat) (fun k => ([(5, I k), (0, Is l), (1, I n)], [], 0)) (fun k => l.length - k) (fun k => k ≤ l.length ∧ n ∉ l.take k) ?round 0 ⟨Nat.zero_le _, by simp⟩) (by repeat' (first | exact EnvSub.nil _ | exact HeapSub.nil _ | refine EnvSub.cons rfl ?_ | refine HeapSub.cons rfl ?_ | (refine EnvSub.cons (by simp [Env.get]; done) ?_) | (refine HeapSub.cons (by simp [Heap.get]; done) ?_))) (by repeat' (first | exact EnvSub.nil _ | exact HeapSub.nil _ | refine EnvSub.cons rfl ?_ | refine HeapSub.cons rfl ?_ | (refine EnvSub.cons (by simp [Env.get]; done) ?_) | (refine HeapSub.cons (by simp [Heap.get]; done) ?_)))
  case round =>
    rintro k ⟨hk, hl⟩ ih
    dsimp only at hk hl ih ⊢
    by_cases hkl : k < l.length
    · have q1 : ((k : Int) < l.length) = True := by first | (simp only [eq_iff_iff, iff_true]; first | assumption | omega) | (simp; omega)
      have gk : (List.map (eI .i64) l).getD k [] = eI .i64 (l.getD k default) := getD_map _ _ _ hkl
      have hs : l.take (k + 1) = l.take k ++ [l.getD k default] := by
        rw [List.take_succ_eq_append_getElem hkl, List.getD, List.getElem?_eq_getElem hkl]; rfl
      have hm := getD_mem' hkl
      have hz := fun h => ih (k + 1) ⟨by omega, h⟩ (by omega)
      rw [hs] at hz
      clear ih
      generalize l.getD k default = x at *
      by_cases hx : x = n
      · rw [decide_eq_true (hx ▸ hm)] at hκ
        refine hκ.run 300 ?_
        simp (disch := omega) only [push_cast, simprocAttr, q1, gk, hx]
        (repeat (refine ⟨by first | omega | (refine ⟨?_, ?_⟩ <;> omega) | trivial | (simp; done) | decide +kernel, fun _ => ?_⟩))
        refine hκ.ret _ _ _ _ _ _ trivial rfl ?_
        exact .ret trivial
      · have hz := hz (fun h => by
          rcases List.mem_append.1 h with h | h
          · exact hl h
          · exact hx (List.mem_singleton.1 h).symm)
        refine hκ.run 300 ?_
        simp (disch := omega) only [push_cast, simprocAttr, q1, gk, hx]
        (repeat (refine ⟨by first | omega | (refine ⟨?_, ?_⟩ <;> omega) | trivial | (simp; done) | decide +kernel, fun _ => ?_⟩))
        exact hz.less (by repeat' (first | exact EnvSub.nil _ | exact HeapSub.nil _ | refine EnvSub.cons rfl ?_ | refine HeapSub.cons rfl ?_ | (refine EnvSub.cons (by simp [Env.get]; done) ?_) | (refine HeapSub.cons (by simp [Heap.get]; done) ?_))) (by repeat' (first | exact EnvSub.nil _ | exact HeapSub.nil _ | refine EnvSub.cons rfl ?_ | refine HeapSub.cons rfl ?_ | (refine EnvSub.cons (by simp [Env.get]; done) ?_) | (refine HeapSub.cons (by simp [Heap.get]; done) ?_)))
    · obtain rfl : k = l.length := by omega
      rw [List.take_length] at hl
      rw [decide_eq_false hl] at hκ
      have q1 : ((l.length : Int) < l.length) = False := by first | (simp only [eq_iff_iff, iff_false]; first | assumption | omega) | (simp; omega)
      refine hκ.run 300 ?_
      simp (disch := omega) only [push_cast, simprocAttr, q1]
      refine hκ.ret _ _ _ _ _ _ trivial rfl ?_
      exact .ret trivial
theorem addB_len (out : List Int) (s n : Nat) : (addB out s n).length ≤ out.length + n := by
  rw [addB, List.length_append]
  have := List.length_filter_le (fun c => hasB s c && !decide (c ∈ out)) (rng n)
  simp only [rng, List.length_map, List.length_range] at this
  simp only [rng]
  omega
theorem rChoices_ok (w : Wi) (free : Nat) (hw : inW w) (hm : okM w.m = true) (hf : free < 256) : Con Tryd.prog gl0 (fnv 23) [.agg (eW w), S free] 0 [] (RetRow 3 1 ((chs w free).map (eI .i64))) := by
  rw [chs_add]
  have c1 := rallows_ok w.m free hm hf
  have c2 := rlikes_ok w.m free hm hf
  have c3 := rhas_ok (alw w.m free) w.a
  have la := alw_lt w.m free
  have ll := lik_lt w.m free
  generalize alw w.m free = a at *
  generalize lik w.m free = k at *
  refine Con.of Tryd.ok23 (nt := 62) (res := [.tmp 4]) Tryd.mixed Tryd.func23 rfl rfl rfl rfl fun κ xc hκ => hκ.run 300 ?_
  simp (disch := omega) only [push_cast, simprocAttr, eW]
  refine Does.ret hκ.hP hκ.hgl c1 ⟨trivial, by first | (simp [SV.bnd, SV.bndL]; done) | (simp [SV.bnd, SV.bndL, ec_bnd]; done), by first | (simp [SV.bnd, SV.bndL]; done) | (simp [SV.bnd, SV.bndL, ec_bnd]; done) | assumption⟩ ?_
  refine hκ.run 300 ?_
  simp (disch := omega) only [push_cast, simprocAttr, eW]
  refine Does.ret hκ.hP hκ.hgl c2 ⟨trivial, by first | (simp [SV.bnd, SV.bndL]; done) | (simp [SV.bnd, SV.bndL, ec_bnd]; done), by first | (simp [SV.bnd, SV.bndL]; done) | (simp [SV.bnd, SV.bndL, ec_bnd]; done) | assumption⟩ ?_
  refine hκ.runA 4 300 ?_
  simp (disch := omega) only [push_cast, simprocAttr, eW]
  refine Sat.nilRow 7 1 3 rfl ?_
  apply Sat.join (κ := κ) (x := xc) (α := List Int × Nat) (nx := 2) (dfs := []) (fun g => g.1 = (if hasB a w.a = true then [w.a] else []) ∧ g.1.length ≤ g.2 ∧ g.1.length ≤ 1) (fun g => ([(7, .sl 1 1 0 g.1.length g.2), (6, S k), (5, S a)], [(1, .row 1 g.2 3 (g.1.map (eI .i64)))]))
  · intro hj
    cases hh : hasB a w.a
    · rw [hh] at c3
      have hj := hj ([], 0) ⟨by rw [hh]; rfl, Nat.le_refl _, Nat.zero_le _⟩
      dsimp only at hj
      refine hκ.runA 6 300 ?_
      simp (disch := omega) only [push_cast, simprocAttr, eW]
      refine Does.ret hκ.hP hκ.hgl c3 ⟨trivial, by first | (simp [SV.bnd, SV.bndL]; done) | (simp [SV.bnd, SV.bndL, ec_bnd]; done), by first | (simp [SV.bnd, SV.bndL]; done) | (simp [SV.bnd, SV.bndL, ec_bnd]; done) | assumption⟩ ?_
      refine hκ.runA 6 300 ?_
      simp (disch := omega) only [push_cast, simprocAttr, eW]
      exact hj.less (by repeat' (first | exact EnvSub.nil _ | exact HeapSub.nil _ | refine EnvSub.cons rfl ?_ | refine HeapSub.cons rfl ?_ | (refine EnvSub.cons (by simp [Env.get]; done) ?_) | (refine HeapSub.cons (by simp [Heap.get]; done) ?_))) (by repeat' (first | exact EnvSub.nil _ | exact HeapSub.nil _ | refine EnvSub.cons rfl ?_ | refine HeapSub.cons rfl ?_ | (refine EnvSub.cons (by simp [Env.get]; done) ?_) | (refine HeapSub.cons (by simp [Heap.get]; done) ?_)))
    · rw [hh] at c3
      have hj := fun c h => hj ([w.a], c) ⟨by rw [hh]; rfl, h, Nat.le_refl _⟩
      dsimp only at hj
      refine hκ.runA 6 300 ?_
      simp (disch := omega) only [push_cast, simprocAttr, eW]
      refine Does.ret hκ.hP hκ.hgl c3 ⟨trivial, by first | (simp [SV.bnd, SV.bndL]; done) | (simp [SV.bnd, SV.bndL, ec_bnd]; done), by first | (simp [SV.bnd, SV.bndL]; done) | (simp [SV.bnd, SV.bndL, ec_bnd]; done) | assumption⟩ ?_
      refine hκ.runA 6 300 ?_
      simp (disch := omega) only [push_cast, simprocAttr, eW]
      intro i
      have hy := hj (1 + i) (by simp)
      refine Sat.via (fun i => if i = 1 then 3 else i) (hy) (by intro i j; (repeat (first | omega | split))) (by repeat' (first | exact EnvVia.nil | refine EnvVia.cons (by first | trivial | decide | (simp [SV.bnd, SV.bndL]; done)) rfl ?_)) (by repeat' (first | exact HeapVia.nil | refine HeapVia.cons (by decide) (by first | trivial | exact Blk.bnd_own0 (by assumption) | (simp [Blk.bnd, SV.bnd, SV.bndL]; done) | exact bndL_mapV _ _ _ | exact LR.bnd (by rw [l2]; simp [bndE, SV.bnd, SV.bndL]) (by rw [l6]; decide)) (by first | (rw [Blk.ren_own0 (by assumption)]; rfl) | rfl | (simp only [Blk.ren, renL_mapV]; rfl) | (rw [LR.ren (by rw [l2] <;> rfl) (by rw [l6] <;> rfl)]; rfl)) ?_)) ⟨by have := hκ.hm; (try dsimp only at this); (first | done | omega), fun i hi => by have := hκ.hm; (try dsimp only at this); (first | omega | (dsimp only; omega) | (rw [if_neg (by omega)]))⟩ ⟨by simp, rfl⟩
  rintro ⟨out, cp0⟩ ⟨ho, hc0, ho1⟩
  dsimp only at ho hc0 ho1 ⊢
  rw [← ho] at hκ
  clear ho
  refine hκ.run 300 ?_
  simp (disch := omega) only [push_cast, simprocAttr, eW]
  apply Sat.join (κ := κ) (x := xc) (α := Nat) (nx := 2) (dfs := []) (fun cp => (addB out k 8).length ≤ cp) (fun cp => ([(7, .sl 1 1 0 (addB out k 8).length cp), (5, S a)], [(1, .row 1 cp 3 ((addB out k 8).map (eI .i64)))]))
  · intro hj
    have h0 : addB out k 0 = out := by simp [addB, rng]
    refine Sat.less (Sat.loop (γ := Nat × Nat) (fun g => ([(8, I g.1), (7, .sl 1 1 0 (addB out k g.1).length g.2), (6, S k), (5, S a)], [(1, .row 1 g.2 3 ((addB out k g.1).map (eI .i64)))], 2)) (fun g => 8 - g.1)
      (fun g => g.1 ≤ 8 ∧ (addB out k g.1).length ≤ g.2) ?r1 (0, cp0) ⟨by omega, by rw [h0]; exact hc0⟩) (by rw [h0]; exact (by repeat' (first | exact EnvSub.nil _ | exact HeapSub.nil _ | refine EnvSub.cons rfl ?_ | refine HeapSub.cons rfl ?_ | (refine EnvSub.cons (by simp [Env.get]; done) ?_) | (refine HeapSub.cons (by simp [Heap.get]; done) ?_)))) (by rw [h0]; exact (by repeat' (first | exact EnvSub.nil _ | exact HeapSub.nil _ | refine EnvSub.cons rfl ?_ | refine HeapSub.cons rfl ?_ | (refine EnvSub.cons (by simp [Env.get]; done) ?_) | (refine HeapSub.cons (by simp [Heap.get]; done) ?_))))
    case r1 =>
      rintro ⟨n, cp⟩ ⟨hn, hcp⟩ ih
      dsimp only at hn hcp ih ⊢
      have et : List.take (addB out k n).length (List.map (eI .i64) (addB out k n)) = List.map (eI .i64) (addB out k n) := List.take_of_length_le (by simp)
      by_cases hn8 : n < 8
      · have q1 : ((n : Int) < 8) = True := by first | (simp only [eq_iff_iff, iff_true]; first | assumption | omega) | (simp; omega)
        have hz := fun cp h => ih (n + 1, cp) ⟨by omega, h⟩ (by dsimp only; omega)
        dsimp only at hz
        rw [addB_succ] at hz
        have hlen := addB_len out k n
        have r1 := rhas_ok k n
        generalize addB out k n = o at *
        have r2 := has19_ok o n (by omega)
        cases hh : hasB k n
        · rw [hh] at r1 hz
          simp only [Bool.false_and, Bool.false_eq_true, if_false] at hz
          have hy := hz cp hcp
          refine hκ.run 300 ?_
          simp (disch := omega) only [push_cast, simprocAttr, q1]
          refine Does.ret hκ.hP hκ.hgl r1 ⟨trivial, by first | (simp [SV.bnd, SV.bndL]; done) | (simp [SV.bnd, SV.bndL, ec_bnd]; done), by first | (simp [SV.bnd, SV.bndL]; done) | (simp [SV.bnd, SV.bndL, ec_bnd]; done) | assumption⟩ ?_
          refine hκ.run 300 ?_
          simp (disch := omega) only [push_cast, simprocAttr, q1]
          exact hy.less (by repeat' (first | exact EnvSub.nil _ | exact HeapSub.nil _ | refine EnvSub.cons rfl ?_ | refine HeapSub.cons rfl ?_ | (refine EnvSub.cons (by simp [Env.get]; done) ?_) | (refine HeapSub.cons (by simp [Heap.get]; done) ?_))) (by repeat' (first | exact EnvSub.nil _ | exact HeapSub.nil _ | refine EnvSub.cons rfl ?_ | refine HeapSub.cons rfl ?_ | (refine EnvSub.cons (by simp [Env.get]; done) ?_) | (refine HeapSub.cons (by simp [Heap.get]; done) ?_)))
        · rw [hh] at r1 hz
          simp only [Bool.true_and] at hz
          refine hκ.run 300 ?_
          simp (disch := omega) only [push_cast, simprocAttr, q1]
          refine Does.ret hκ.hP hκ.hgl r1 ⟨trivial, by first | (simp [SV.bnd, SV.bndL]; done) | (simp [SV.bnd, SV.bndL, ec_bnd]; done), by first | (simp [SV.bnd, SV.bndL]; done) | (simp [SV.bnd, SV.bndL, ec_bnd]; done) | assumption⟩ ?_
          refine hκ.run 300 ?_
          simp (disch := omega) only [push_cast, simprocAttr, q1]
          refine Does.lent hκ.hP hκ.hgl [1] [Is o, I n] r2 ⟨trivial, trivial, rfl, trivial⟩ (by simp [lendL, lendS, lendSl, Heap.get, et]) (by simp [lendPL, lendP, lendSlP, Heap.get]; omega) (by simp [SV.bnd, SV.bndL]) ?_
          rintro s H n' ⟨rfl, rfl, rfl⟩
          refine ⟨⟨by simp [SV.bnd, SV.bndL], by simp [SV.plain, SV.plainL], rfl, rfl⟩, ?_⟩
          by_cases hm : (n : Int) ∈ o
          · simp only [hm, decide_true, Bool.not_true, Bool.false_eq_true, if_false] at hz
            have hy := hz cp hcp
            simp only [hm, decide_true]
            refine hκ.run 300 ?_
            simp (disch := omega) only [push_cast, simprocAttr, q1]
            exact hy.less (by repeat' (first | exact EnvSub.nil _ | exact HeapSub.nil _ | refine EnvSub.cons rfl ?_ | refine HeapSub.cons rfl ?_ | (refine EnvSub.cons (by simp [Env.get]; done) ?_) | (refine HeapSub.cons (by simp [Heap.get]; done) ?_))) (by repeat' (first | exact EnvSub.nil _ | exact HeapSub.nil _ | refine EnvSub.cons rfl ?_ | refine HeapSub.cons rfl ?_ | (refine EnvSub.cons (by simp [Env.get]; done) ?_) | (refine HeapSub.cons (by simp [Heap.get]; done) ?_)))
          · simp only [hm, decide_false, Bool.not_false, if_true] at hz
            simp only [hm, decide_false]
            refine hκ.run 300 ?_
            simp (disch := omega) only [push_cast, simprocAttr, q1, et]
            refine ⟨⟨Nat.le_refl _, by omega, by omega⟩, fun _ => ?_⟩
            intro i
            have hy := hz (o.length + 1 + i) (by simp)
            simp only [List.length_append, List.length_cons, List.length_nil, List.length_singleton, List.length_map, List.length_set, List.length_replicate, Nat.zero_add, Nat.add_zero, Int.natCast_add, Int.natCast_one, Int.ofNat_eq_natCast, List.map_append, List.map_cons, List.map_nil, List.take_length, eI, eB] at hy ⊢
            refine Sat.via (fun i => if i = 1 then 3 else i) (hy) (by intro i j; (repeat (first | omega | split))) (by repeat' (first | exact EnvVia.nil | refine EnvVia.cons (by first | trivial | decide | (simp [SV.bnd, SV.bndL]; done)) rfl ?_)) (by repeat' (first | exact HeapVia.nil | refine HeapVia.cons (by decide) (by first | trivial | exact Blk.bnd_own0 (by assumption) | (simp [Blk.bnd, SV.bnd, SV.bndL]; done) | exact bndL_mapV _ _ _ | exact LR.bnd (by rw [l2]; simp [bndE, SV.bnd, SV.bndL]) (by rw [l6]; decide)) (by first | (rw [Blk.ren_own0 (by assumption)]; rfl) | rfl | (simp only [Blk.ren, renL_mapV]; rfl) | (rw [LR.ren (by rw [l2] <;> rfl) (by rw [l6] <;> rfl)]; rfl)) ?_)) ⟨by have := hκ.hm; (try dsimp only at this); (first | done | omega), fun i hi => by have := hκ.hm; (try dsimp only at this); (first | omega | (dsimp only; omega) | (rw [if_neg (by omega)]))⟩ ⟨by simp, rfl⟩
      · obtain rfl : n = 8 := by omega
        have q1 : ((8 : Int) < 8) = False := by first | (simp only [eq_iff_iff, iff_false]; first | assumption | omega) | (simp; omega)
        have hy := hj cp hcp
        refine hκ.runA 11 300 ?_
        simp (disch := omega) only [push_cast, simprocAttr, q1]
        exact hy.less (by repeat' (first | exact EnvSub.nil _ | exact HeapSub.nil _ | refine EnvSub.cons rfl ?_ | refine HeapSub.cons rfl ?_ | (refine EnvSub.cons (by simp [Env.get]; done) ?_) | (refine HeapSub.cons (by simp [Heap.get]; done) ?_))) (by repeat' (first | exact EnvSub.nil _ | exact HeapSub.nil _ | refine EnvSub.cons rfl ?_ | refine HeapSub.cons rfl ?_ | (refine EnvSub.cons (by simp [Env.get]; done) ?_) | (refine HeapSub.cons (by simp [Heap.get]; done) ?_)))
  intro cp1 hc1
  dsimp only
  have hlk := addB_len out k 8
  refine hκ.run 300 ?_
  simp (disch := omega) only [push_cast, simprocAttr, eW]
  refine Sat.less (Sat.loop (γ := Nat × Nat) (fun g => ([(9, I g.1), (7, .sl 1 1 0 (addB (addB out k 8) a g.1).length g.2), (5, S a)], [(1, .row 1 g.2 3 ((addB (addB out k 8) a g.1).map (eI .i64)))], 2)) (fun g => 8 - g.1)
    (fun g => g.1 ≤ 8 ∧ (addB (addB out k 8) a g.1).length ≤ g.2) ?r2 (0, cp1) ⟨by omega, by rw [show addB (addB out k 8) a 0 = addB out k 8 by simp [addB, rng]]; exact hc1⟩) (by rw [show addB (addB out k 8) a 0 = addB out k 8 by simp [addB, rng]]; exact (by repeat' (first | exact EnvSub.nil _ | exact HeapSub.nil _ | refine EnvSub.cons rfl ?_ | refine HeapSub.cons rfl ?_ | (refine EnvSub.cons (by simp [Env.get]; done) ?_) | (refine HeapSub.cons (by simp [Heap.get]; done) ?_)))) (by rw [show addB (addB out k 8) a 0 = addB out k 8 by simp [addB, rng]]; exact (by repeat' (first | exact EnvSub.nil _ | exact HeapSub.nil _ | refine EnvSub.cons rfl ?_ | refine HeapSub.cons rfl ?_ | (refine EnvSub.cons (by simp [Env.get]; done) ?_) | (refine HeapSub.cons (by simp [Heap.get]; done) ?_))))
  case r2 =>
    rintro ⟨n, cp⟩ ⟨hn, hcp⟩ ih
    dsimp only at hn hcp ih ⊢
    have et : List.take (addB (addB out k 8) a n).length (List.map (eI .i64) (addB (addB out k 8) a n)) = List.map (eI .i64) (addB (addB out k 8) a n) := List.take_of_length_le (by simp)
    by_cases hn8 : n < 8
    · have q1 : ((n : Int) < 8) = True := by first | (simp only [eq_iff_iff, iff_true]; first | assumption | omega) | (simp; omega)
      have hz := fun cp h => ih (n + 1, cp) ⟨by omega, h⟩ (by dsimp only; omega)
      dsimp only at hz
      rw [addB_succ] at hz
      have hlen := addB_len (addB out k 8) a n
      have r1 := rhas_ok a n
      generalize addB (addB out k 8) a n = o at *
      have r2 := has19_ok o n (by omega)
      cases hh : hasB a n
      · rw [hh] at r1 hz
        simp only [Bool.false_and, Bool.false_eq_true, if_false] at hz
        have hy := hz cp hcp
        refine hκ.run 300 ?_
        simp (disch := omega) only [push_cast, simprocAttr, q1]
        refine Does.ret hκ.hP hκ.hgl r1 ⟨trivial, by first | (simp [SV.bnd, SV.bndL]; done) | (simp [SV.bnd, SV.bndL, ec_bnd]; done), by first | (simp [SV.bnd, SV.bndL]; done) | (simp [SV.bnd, SV.bndL, ec_bnd]; done) | assumption⟩ ?_
        refine hκ.run 300 ?_
        simp (disch := omega) only [push_cast, simprocAttr, q1]
        exact hy.less (by repeat' (first | exact EnvSub.nil _ | exact HeapSub.nil _ | refine EnvSub.cons rfl ?_ | refine HeapSub.cons rfl ?_ | (refine EnvSub.cons (by simp [Env.get]; done) ?_) | (refine HeapSub.cons (by simp [Heap.get]; done) ?_))) (by repeat' (first | exact EnvSub.nil _ | exact HeapSub.nil _ | refine EnvSub.cons rfl ?_ | refine HeapSub.cons rfl ?_ | (refine EnvSub.cons (by simp [Env.get]; done) ?_) | (refine HeapSub.cons (by simp [Heap.get]; done) ?_)))
      · rw [hh] at r1 hz
        simp only [Bool.true_and] at hz
        refine hκ.run 300 ?_
        simp (disch := omega) only [push_cast, simprocAttr, q1]
        refine Does.ret hκ.hP hκ.hgl r1 ⟨trivial, by first | (simp [SV.bnd, SV.bndL]; done) | (simp [SV.bnd, SV.bndL, ec_bnd]; done), by first | (simp [SV.bnd, SV.bndL]; done) | (simp [SV.bnd, SV.bndL, ec_bnd]; done) | assumption⟩ ?_
        refine hκ.run 300 ?_
        simp (disch := omega) only [push_cast, simprocAttr, q1]
        refine Does.lent hκ.hP hκ.hgl [1] [Is o, I n] r2 ⟨trivial, trivial, rfl, trivial⟩ (by simp [lendL, lendS, lendSl, Heap.get, et]) (by simp [lendPL, lendP, lendSlP, Heap.get]; omega) (by simp [SV.bnd, SV.bndL]) ?_
        rintro s H n' ⟨rfl, rfl, rfl⟩
        refine ⟨⟨by simp [SV.bnd, SV.bndL], by simp [SV.plain, SV.plainL], rfl, rfl⟩, ?_⟩
        by_cases hm : (n : Int) ∈ o
        · simp only [hm, decide_true, Bool.not_true, Bool.false_eq_true, if_false] at hz
          have hy := hz cp hcp
          simp only [hm, decide_true]
          refine hκ.run 300 ?_
          simp (disch := omega) only [push_cast, simprocAttr, q1]
          exact hy.less (by repeat' (first | exact EnvSub.nil _ | exact HeapSub.nil _ | refine EnvSub.cons rfl ?_ | refine HeapSub.cons rfl ?_ | (refine EnvSub.cons (by simp [Env.get]; done) ?_) | (refine HeapSub.cons (by simp [Heap.get]; done) ?_))) (by repeat' (first | exact EnvSub.nil _ | exact HeapSub.nil _ | refine EnvSub.cons rfl ?_ | refine HeapSub.cons rfl ?_ | (refine EnvSub.cons (by simp [Env.get]; done) ?_) | (refine HeapSub.cons (by simp [Heap.get]; done) ?_)))
        · simp only [hm, decide_false, Bool.not_false, if_true] at hz
          simp only [hm, decide_false]
          refine hκ.run 300 ?_
          simp (disch := omega) only [push_cast, simprocAttr, q1, et]
          refine ⟨⟨Nat.le_refl _, by omega, by omega⟩, fun _ => ?_⟩
          intro i
          have hy := hz (o.length + 1 + i) (by simp)
          simp only [List.length_append, List.length_cons, List.length_nil, List.length_singleton, List.length_map, List.length_set, List.length_replicate, Nat.zero_add, Nat.add_zero, Int.natCast_add, Int.natCast_one, Int.ofNat_eq_natCast, List.map_append, List.map_cons, List.map_nil, List.take_length, eI, eB] at hy ⊢
          refine Sat.via (fun i => if i = 1 then 3 else i) (hy) (by intro i j; (repeat (first | omega | split))) (by repeat' (first | exact EnvVia.nil | refine EnvVia.cons (by first | trivial | decide | (simp [SV.bnd, SV.bndL]; done)) rfl ?_)) (by repeat' (first | exact HeapVia.nil | refine HeapVia.cons (by decide) (by first | trivial | exact Blk.bnd_own0 (by assumption) | (simp [Blk.bnd, SV.bnd, SV.bndL]; done) | exact bndL_mapV _ _ _ | exact LR.bnd (by rw [l2]; simp [bndE, SV.bnd, SV.bndL]) (by rw [l6]; decide)) (by first | (rw [Blk.ren_own0 (by assumption)]; rfl) | rfl | (simp only [Blk.ren, renL_mapV]; rfl) | (rw [LR.ren (by rw [l2] <;> rfl) (by rw [l6] <;> rfl)]; rfl)) ?_)) ⟨by have := hκ.hm; (try dsimp only at this); (first | done | omega), fun i hi => by have := hκ.hm; (try dsimp only at this); (first | omega | (dsimp only; omega) | (rw [if_neg (by omega)]))⟩ ⟨by simp, rfl⟩
    · obtain rfl : n = 8 := by omega
      have q1 : ((8 : Int) < 8) = False := by first | (simp only [eq_iff_iff, iff_false]; first | assumption | omega) | (simp; omega)
      refine hκ.run 300 ?_
      simp (disch := omega) only [push_cast, simprocAttr, q1]
      refine hκ.ret _ _ _ _ _ _ trivial rfl ?_
      exact Post.row rfl (by simp)
end Go.Proofs.YtnjgmjcokcfmkaaDoor
