/- The document's words on pictures: Wish, Of, Less. No condition. -/
import Derived.Test.YtnjgmjcokcfmkaaDoorQj
import Derived.Test.YtnjgmjcokcfmkaaDoorQl
namespace Go.Proofs.YtnjgmjcokcfmkaaDoor
open Go Go.Sy
set_option maxRecDepth 100000
set_option linter.unusedSimpArgs false
set_option linter.unusedVariables false
set_option maxHeartbeats 4000000

theorem rWish_ok (w : List Wi) (v : Int) (hn : w.length < 2 ^ 40) : Con Tryd.prog gl0 (fnv 68) [Ws w, I v] 0 [] (Ret (.agg (eW (wshO w v)))) := by
  have hO : wshO w v = (w.find? fun x => decide (x.v = v)).getD wiD := rfl
  rw [hO]
  clear hO
  refine Con.of Tryd.ok68 (nt := 24) (res := [.cell 4 45]) Tryd.mixed Tryd.func68 rfl rfl rfl rfl fun κ xc hκ => hκ.run 300 ?_
  simp (disch := omega) only [push_cast, simprocAttr, eW]
  refine Sat.less (Sat.loop (γ := Nat) (fun k => ([(5, I k), (4, .ptr 0 0 0 0), (0, Ws w), (1, I v)], [(0, .own [I 0, I 0, S 0, S 0] 45)], 1)) (fun k => w.length - k) (fun k => k ≤ w.length ∧ ((w.drop k).find? fun x => decide (x.v = v)) = w.find? fun x => decide (x.v = v)) ?round 0 ⟨Nat.zero_le _, rfl⟩) (by repeat' (first | exact EnvSub.nil _ | exact HeapSub.nil _ | refine EnvSub.cons rfl ?_ | refine HeapSub.cons rfl ?_ | (refine EnvSub.cons (by simp [Env.get]; done) ?_) | (refine HeapSub.cons (by simp [Heap.get]; done) ?_))) (by repeat' (first | exact EnvSub.nil _ | exact HeapSub.nil _ | refine EnvSub.cons rfl ?_ | refine HeapSub.cons rfl ?_ | (refine EnvSub.cons (by simp [Env.get]; done) ?_) | (refine HeapSub.cons (by simp [Heap.get]; done) ?_)))
  case round =>
    rintro k ⟨hk, ho⟩ ih
    dsimp only at hk ho ih ⊢
    by_cases hkl : k < w.length
    · have q3 : ((k : Int) < w.length) = True := by first | (simp only [eq_iff_iff, iff_true]; first | assumption | omega) | (simp; omega)
      have gk : (List.map eW w).getD k [] = eW (w.getD k default) := getD_map _ _ _ hkl
      rw [drop_findW hkl] at ho
      have hz := fun h => ih (k + 1) ⟨by omega, h⟩ (by omega)
      clear ih
      generalize w.getD k default = x at *
      rw [eW] at gk
      by_cases h4 : x.v = v
      · rw [if_pos (decide_eq_true h4)] at ho
        rw [← ho] at hκ
        have q4 : (x.v = v) = True := by first | (simp only [eq_iff_iff, iff_true]; first | assumption | omega) | (simp; omega)
        refine hκ.run 300 ?_
        simp (disch := omega) only [push_cast, simprocAttr, q3, gk, q4]
        (repeat (refine ⟨by first | omega | (refine ⟨?_, ?_⟩ <;> omega) | trivial | (simp; done) | decide +kernel, fun _ => ?_⟩))
        refine hκ.ret _ _ _ _ _ _ trivial rfl ?_
        exact .ret (by simp [SV.bnd, SV.bndL, eW])
      · rw [if_neg (by simpa using h4)] at ho
        have hy := hz ho
        refine hκ.run 300 ?_
        simp (disch := omega) only [push_cast, simprocAttr, q3, gk, h4]
        (repeat (refine ⟨by first | omega | (refine ⟨?_, ?_⟩ <;> omega) | trivial | (simp; done) | decide +kernel, fun _ => ?_⟩))
        exact hy.less (by repeat' (first | exact EnvSub.nil _ | exact HeapSub.nil _ | refine EnvSub.cons rfl ?_ | refine HeapSub.cons rfl ?_ | (refine EnvSub.cons (by simp [Env.get]; done) ?_) | (refine HeapSub.cons (by simp [Heap.get]; done) ?_))) (by repeat' (first | exact EnvSub.nil _ | exact HeapSub.nil _ | refine EnvSub.cons rfl ?_ | refine HeapSub.cons rfl ?_ | (refine EnvSub.cons (by simp [Env.get]; done) ?_) | (refine HeapSub.cons (by simp [Heap.get]; done) ?_)))
    · obtain rfl : k = w.length := by omega
      rw [List.drop_length, List.find?_nil] at ho
      rw [← ho] at hκ
      have q3 : ((w.length : Int) < w.length) = False := by first | (simp only [eq_iff_iff, iff_false]; first | assumption | omega) | (simp; omega)
      refine hκ.run 300 ?_
      simp (disch := omega) only [push_cast, simprocAttr, q3]
      refine hκ.ret _ _ _ _ _ _ trivial rfl ?_
      exact .ret (by simp [SV.bnd, SV.bndL, eW, wiD])
theorem add_or : ∀ s, s < 256 → ∀ c, c < 8 → (if s.testBit c = true then s else s + 2 ^ c) = s ||| 2 ^ c := by decide +kernel
theorem rOf_ok (l : List Int) (hc : ∀ c ∈ l, 0 ≤ c ∧ c < 8) (hn : l.length < 2 ^ 40) : Con Tryd.prog gl0 (fnv 74) [Is l] 0 [] (Ret (.tup [S (maskOf l), Bo true])) := by
  refine Con.of Tryd.ok74 (nt := 26) (res := [.tmp 2, .tmp 3]) Tryd.mixed Tryd.func74 rfl rfl rfl rfl fun κ xc hκ => hκ.run 300 ?_
  simp (disch := omega) only [push_cast, simprocAttr]
  refine Sat.less (Sat.loop (γ := Nat) (fun k => ([(9, I k), (8, I l.length), (7, Is l), (4, S (maskOf (l.take k)))], [], 0)) (fun k => l.length - k) (fun k => k ≤ l.length) ?round 0 (Nat.zero_le _)) (by repeat' (first | exact EnvSub.nil _ | exact HeapSub.nil _ | refine EnvSub.cons rfl ?_ | refine HeapSub.cons rfl ?_ | (refine EnvSub.cons (by simp [Env.get]; done) ?_) | (refine HeapSub.cons (by simp [Heap.get]; done) ?_))) (by repeat' (first | exact EnvSub.nil _ | exact HeapSub.nil _ | refine EnvSub.cons rfl ?_ | refine HeapSub.cons rfl ?_ | (refine EnvSub.cons (by simp [Env.get]; done) ?_) | (refine HeapSub.cons (by simp [Heap.get]; done) ?_)))
  case round =>
    intro k hk ih
    dsimp only at hk ih ⊢
    by_cases hkl : k < l.length
    · have q1 : ((k : Int) < l.length) = True := by first | (simp only [eq_iff_iff, iff_true]; first | assumption | omega) | (simp; omega)
      have e0 : (0 ≤ (k : Int)) = True := by first | (simp only [eq_iff_iff, iff_true]; first | assumption | omega) | (simp; omega)
      have gk : (List.map (eI .i64) l).getD k [] = eI .i64 (l.getD k default) := getD_map _ _ _ hkl
      have hs : l.take (k + 1) = l.take k ++ [l.getD k default] := by
        rw [List.take_succ_eq_append_getElem hkl, List.getD, List.getElem?_eq_getElem hkl]; rfl
      have hz := ih (k + 1) (by omega) (by omega)
      rw [hs, maskOf_snoc] at hz
      have h8 := hc _ (getD_mem' hkl)
      have hlt := maskOf_lt _ (l.take k) rfl
      clear ih hs
      generalize l.getD k default = c at *
      generalize maskOf (l.take k) = s at *
      obtain ⟨c, rfl⟩ := Int.eq_ofNat_of_zero_le h8.1
      have hc8 : c < 8 := by omega
      rw [bitN_of hc8, ← add_or s hlt c hc8] at hz
      have c1 := rcpu_ok (c : Int)
      rw [decide_eq_true (by omega)] at c1
      have c2 := rhas_ok s (c : Int)
      rw [hasB_nat hc8] at c2
      have hp := pow_lt_256 hc8
      have pw := pow32 c (by omega)
      have z1 : ((0 : Int) ≤ (c : Int)) = True := by first | (simp only [eq_iff_iff, iff_true]; first | assumption | omega) | (simp; omega)
      have hw : IntKind.u32.wrap ((s : Int) + (2 : Int) ^ c) = (s : Int) + (2 : Int) ^ c := by
        have e : (2 : Int) ^ c = ((2 ^ c : Nat) : Int) := (Int.natCast_pow 2 c).symm
        rw [e]
        generalize 2 ^ c = q at *
        exact wrap_u32 (by omega) (by omega)
      refine hκ.run 300 ?_
      simp (disch := omega) only [push_cast, simprocAttr, q1, gk, e0, z1, pw, hw]
      refine Does.ret hκ.hP hκ.hgl c1 ⟨trivial, by first | (simp [SV.bnd, SV.bndL]; done) | (simp [SV.bnd, SV.bndL, ec_bnd]; done), by first | (simp [SV.bnd, SV.bndL]; done) | (simp [SV.bnd, SV.bndL, ec_bnd]; done) | assumption⟩ ?_
      refine hκ.run 300 ?_
      simp (disch := omega) only [push_cast, simprocAttr, q1, gk, e0, z1, pw, hw]
      refine Does.ret hκ.hP hκ.hgl c2 ⟨trivial, by first | (simp [SV.bnd, SV.bndL]; done) | (simp [SV.bnd, SV.bndL, ec_bnd]; done), by first | (simp [SV.bnd, SV.bndL]; done) | (simp [SV.bnd, SV.bndL, ec_bnd]; done) | assumption⟩ ?_
      cases hb : s.testBit c
      · rw [hb, if_neg (by decide)] at hz
        refine hκ.run 300 ?_
        simp (disch := omega) only [push_cast, simprocAttr, q1, gk, e0, z1, pw, hw]
        exact hz.less (by repeat' (first | exact EnvSub.nil _ | exact HeapSub.nil _ | refine EnvSub.cons rfl ?_ | refine HeapSub.cons rfl ?_ | (refine EnvSub.cons (by simp [Env.get]; done) ?_) | (refine HeapSub.cons (by simp [Heap.get]; done) ?_))) (by repeat' (first | exact EnvSub.nil _ | exact HeapSub.nil _ | refine EnvSub.cons rfl ?_ | refine HeapSub.cons rfl ?_ | (refine EnvSub.cons (by simp [Env.get]; done) ?_) | (refine HeapSub.cons (by simp [Heap.get]; done) ?_)))
      · rw [hb, if_pos rfl] at hz
        refine hκ.run 300 ?_
        simp (disch := omega) only [push_cast, simprocAttr, q1, gk, e0, z1, pw, hw]
        exact hz.less (by repeat' (first | exact EnvSub.nil _ | exact HeapSub.nil _ | refine EnvSub.cons rfl ?_ | refine HeapSub.cons rfl ?_ | (refine EnvSub.cons (by simp [Env.get]; done) ?_) | (refine HeapSub.cons (by simp [Heap.get]; done) ?_))) (by repeat' (first | exact EnvSub.nil _ | exact HeapSub.nil _ | refine EnvSub.cons rfl ?_ | refine HeapSub.cons rfl ?_ | (refine EnvSub.cons (by simp [Env.get]; done) ?_) | (refine HeapSub.cons (by simp [Heap.get]; done) ?_)))
    · obtain rfl : k = l.length := by omega
      rw [List.take_length]
      have q1 : ((l.length : Int) < l.length) = False := by first | (simp only [eq_iff_iff, iff_false]; first | assumption | omega) | (simp; omega)
      refine hκ.run 300 ?_
      simp (disch := omega) only [push_cast, simprocAttr, q1]
      refine hκ.ret _ _ _ _ _ _ trivial rfl ?_
      exact .ret (by simp [SV.bnd, SV.bndL])
theorem maskOf_iff : ∀ (n : Nat) (l : List Int), l.length = n → (∀ c ∈ l, 0 ≤ c ∧ c < 8) → ∀ i : Nat, (maskOf l).testBit i = l.any fun c => decide (c.toNat = i) := by
  intro n
  induction n with
  | zero => intro l h _ i; rw [List.eq_nil_of_length_eq_zero h]; simp [maskOf]
  | succ n ih =>
    intro l h hc i
    obtain ⟨l', c, rfl⟩ : ∃ l' c, l = l' ++ [c] := by
      rcases List.eq_nil_or_concat l with rfl | ⟨l', c, rfl⟩
      · simp at h
      · exact ⟨l', c, by simp⟩
    have h8 := hc c (by simp)
    obtain ⟨c, rfl⟩ := Int.eq_ofNat_of_zero_le h8.1
    rw [maskOf_snoc, bitN_of (by omega), Nat.testBit_or, testBit_pow, ih l' (by simpa using h) (fun d hd => hc d (by simp [hd])), List.any_append]
    simp
/-- Those of a set that are not in a row, below a number. -/
def restB (s : Nat) (l : List Int) (n : Nat) : List Int := (rng n).filter fun c => hasB s c && !decide (c ∈ l)
theorem restB_succ (s : Nat) (l : List Int) (n : Nat) : restB s l (n + 1) = if (hasB s n && !decide ((n : Int) ∈ l)) = true then restB s l n ++ [(n : Int)] else restB s l n := by
  rw [restB, restB, rng_succ, List.filter_append, List.filter_cons, List.filter_nil]
  split
  · rfl
  · rw [List.append_nil]
theorem restB_len (s : Nat) (l : List Int) (n : Nat) : (restB s l n).length ≤ n := by
  have := List.length_filter_le (fun c => hasB s c && !decide (c ∈ l)) (rng n)
  simp only [rng, List.length_map, List.length_range] at this
  simp only [restB, rng]
  omega
theorem restB_less {s : Nat} {l : List Int} (hs : s < 256) (hl : ∀ c ∈ l, 0 ≤ c ∧ c < 8) : maskOf (restB s l 8) = less s l := by
  have h8 : ∀ c ∈ restB s l 8, 0 ≤ c ∧ c < 8 := fun c hc => rng_mem.1 (List.mem_filter.1 hc).1
  apply Nat.eq_of_testBit_eq
  intro i
  rw [maskOf_iff _ _ rfl h8, less_bit, Bool.eq_iff_iff, List.any_eq_true, Bool.and_eq_true, Bool.not_eq_true', List.any_eq_false]
  constructor
  · rintro ⟨c, hc, e⟩
    obtain ⟨h1, h2⟩ := List.mem_filter.1 hc
    rw [Bool.and_eq_true, hasB, Bool.and_eq_true] at h2
    have e := of_decide_eq_true e
    subst e
    refine ⟨h2.1.2, fun d hd e => ?_⟩
    have e := of_decide_eq_true e
    have := hl d hd
    have := h8 c hc
    obtain rfl : d = c := by omega
    simp [hd] at h2
  · rintro ⟨h1, h2⟩
    have hi : i < 8 := by
      by_cases h : i < 8
      · exact h
      · rw [Nat.testBit_lt_two_pow (Nat.lt_of_lt_of_le hs (Nat.pow_le_pow_right (n := 2) (by decide) (show 8 ≤ i by omega)))] at h1; cases h1
    refine ⟨(i : Int), List.mem_filter.2 ⟨rng_mem.2 (by omega), ?_⟩, by simp⟩
    rw [hasB_nat hi, h1, Bool.true_and, Bool.not_eq_true', decide_eq_false_iff_not]
    exact fun h => h2 _ h (by simp)
theorem rLess_ok (s : Nat) (l : List Int) (hs : s < 256) (hl : ∀ c ∈ l, 0 ≤ c ∧ c < 8) (hn : l.length < 2 ^ 40) : Con Tryd.prog gl0 (fnv 47) [S s, Is l] 0 [] (Ret (S (less s l))) := by
  have cO := rOf_ok (restB s l 8) (fun c hc => rng_mem.1 (List.mem_filter.1 hc).1) (by have := restB_len s l 8; omega)
  rw [restB_less hs hl] at cO
  have hl8 := restB_len s l 8
  refine Con.of Tryd.ok47 (nt := 32) (res := [.tmp 4]) Tryd.mixed Tryd.func47 rfl rfl rfl rfl fun κ xc hκ => hκ.run 300 ?_
  simp (disch := omega) only [push_cast, simprocAttr]
  refine hκ.runA 2 300 ?_
  simp (disch := omega) only [push_cast, simprocAttr]
  refine Sat.nilRow 5 1 3 rfl ?_
  refine hκ.run 300 ?_
  simp (disch := omega) only [push_cast, simprocAttr]
  refine Sat.less (Sat.loop (γ := Nat × Nat) (fun g => ([(6, I g.1), (5, .sl 0 1 0 (restB s l g.1).length g.2), (0, S s), (1, Is l)], [(0, .row 1 g.2 3 ((restB s l g.1).map (eI .i64)))], 1)) (fun g => 8 - g.1)
    (fun g => g.1 ≤ 8 ∧ (restB s l g.1).length ≤ g.2) ?round (0, 0) ⟨by omega, by simp [restB, rng]⟩) (by repeat' (first | exact EnvSub.nil _ | exact HeapSub.nil _ | refine EnvSub.cons rfl ?_ | refine HeapSub.cons rfl ?_ | (refine EnvSub.cons (by simp [Env.get]; done) ?_) | (refine HeapSub.cons (by simp [Heap.get]; done) ?_))) (by repeat' (first | exact EnvSub.nil _ | exact HeapSub.nil _ | refine EnvSub.cons rfl ?_ | refine HeapSub.cons rfl ?_ | (refine EnvSub.cons (by simp [Env.get]; done) ?_) | (refine HeapSub.cons (by simp [Heap.get]; done) ?_)))
  case round =>
    rintro ⟨n, cp⟩ ⟨hn8, hcp⟩ ih
    dsimp only at hn8 hcp ih ⊢
    by_cases hn9 : n < 8
    · have q1 : ((n : Int) < 8) = True := by first | (simp only [eq_iff_iff, iff_true]; first | assumption | omega) | (simp; omega)
      have hz := fun cp h => ih (n + 1, cp) ⟨by omega, h⟩ (by dsimp only; omega)
      dsimp only at hz
      rw [restB_succ] at hz
      have hlen := restB_len s l n
      have r1 := rhas_ok s n
      have r2 := has19_ok l n hn
      have et : List.take (restB s l n).length (List.map (eI .i64) (restB s l n)) = List.map (eI .i64) (restB s l n) := List.take_of_length_le (by simp)
      generalize restB s l n = o at *
      cases hh : hasB s n
      · rw [hh] at r1 hz
        simp only [Bool.false_and, Bool.false_eq_true, if_false] at hz
        have hy := hz cp hcp
        refine hκ.run 300 ?_
        simp (disch := omega) only [push_cast, simprocAttr, q1]
        refine Does.ret hκ.hP hκ.hgl r1 ⟨trivial, by first | (simp [SV.bnd, SV.bndL]; done) | (simp [SV.bnd, SV.bndL, ec_bnd]; done), by first | (simp [SV.bnd, SV.bndL]; done) | (simp [SV.bnd, SV.bndL, ec_bnd]; done) | assumption⟩ ?_
        refine hκ.run 300 ?_
        simp (disch := omega) only [push_cast, simprocAttr, q1]
        exact hy.less (by repeat' (first | exact EnvSub.nil _ | exact HeapSub.nil _ | refine EnvSub.cons rfl ?_ | refine HeapSub.cons rfl ?_ | (refine EnvSub.cons (by simp [Env.get]; done) ?_) | (refine HeapSub.cons (by simp [Heap.get]; done) ?_))) (by repeat' (first | exact EnvSub.nil _ | exact HeapSub.nil _ | refine EnvSub.cons rfl ?_ | refine HeapSub.cons rfl ?_ | (refine EnvSub.cons (by simp [Env.get]; done) ?_) | (refine HeapSub.cons (by simp [Heap.get]; done) ?_)))
      · rw [hh] at r1 hz
        simp only [Bool.true_and] at hz
        refine hκ.run 300 ?_
        simp (disch := omega) only [push_cast, simprocAttr, q1]
        refine Does.ret hκ.hP hκ.hgl r1 ⟨trivial, by first | (simp [SV.bnd, SV.bndL]; done) | (simp [SV.bnd, SV.bndL, ec_bnd]; done), by first | (simp [SV.bnd, SV.bndL]; done) | (simp [SV.bnd, SV.bndL, ec_bnd]; done) | assumption⟩ ?_
        refine hκ.run 300 ?_
        simp (disch := omega) only [push_cast, simprocAttr, q1]
        by_cases hm : (n : Int) ∈ l
        · simp only [hm, decide_true, Bool.not_true, Bool.false_eq_true, if_false] at hz
          rw [decide_eq_true hm] at r2
          have hy := hz cp hcp
          refine Does.ret hκ.hP hκ.hgl r2 ⟨trivial, by first | (simp [SV.bnd, SV.bndL]; done) | (simp [SV.bnd, SV.bndL, ec_bnd]; done), by first | (simp [SV.bnd, SV.bndL]; done) | (simp [SV.bnd, SV.bndL, ec_bnd]; done) | assumption⟩ ?_
          refine hκ.run 300 ?_
          simp (disch := omega) only [push_cast, simprocAttr, q1]
          exact hy.less (by repeat' (first | exact EnvSub.nil _ | exact HeapSub.nil _ | refine EnvSub.cons rfl ?_ | refine HeapSub.cons rfl ?_ | (refine EnvSub.cons (by simp [Env.get]; done) ?_) | (refine HeapSub.cons (by simp [Heap.get]; done) ?_))) (by repeat' (first | exact EnvSub.nil _ | exact HeapSub.nil _ | refine EnvSub.cons rfl ?_ | refine HeapSub.cons rfl ?_ | (refine EnvSub.cons (by simp [Env.get]; done) ?_) | (refine HeapSub.cons (by simp [Heap.get]; done) ?_)))
        · simp only [hm, decide_false, Bool.not_false, if_true] at hz
          rw [decide_eq_false hm] at r2
          refine Does.ret hκ.hP hκ.hgl r2 ⟨trivial, by first | (simp [SV.bnd, SV.bndL]; done) | (simp [SV.bnd, SV.bndL, ec_bnd]; done), by first | (simp [SV.bnd, SV.bndL]; done) | (simp [SV.bnd, SV.bndL, ec_bnd]; done) | assumption⟩ ?_
          refine hκ.run 300 ?_
          simp (disch := omega) only [push_cast, simprocAttr, q1, et]
          refine ⟨⟨Nat.le_refl _, by omega, by omega⟩, fun _ => ?_⟩
          intro i
          have hy := hz (o.length + 1 + i) (by simp)
          simp only [List.length_append, List.length_cons, List.length_nil, List.length_singleton, List.length_map, List.length_set, List.length_replicate, Nat.zero_add, Nat.add_zero, Int.natCast_add, Int.natCast_one, Int.ofNat_eq_natCast, List.map_append, List.map_cons, List.map_nil, List.take_length, eI, eB] at hy ⊢
          refine Sat.via (fun i => if i = 0 then 2 else i) (hy) (by intro i j; (repeat (first | omega | split))) (by repeat' (first | exact EnvVia.nil | refine EnvVia.cons (by first | trivial | decide | (simp [SV.bnd, SV.bndL]; done)) rfl ?_)) (by repeat' (first | exact HeapVia.nil | refine HeapVia.cons (by decide) (by first | trivial | exact Blk.bnd_own0 (by assumption) | (simp [Blk.bnd, SV.bnd, SV.bndL]; done) | exact bndL_mapV _ _ _ | exact LR.bnd (by rw [l2]; simp [bndE, SV.bnd, SV.bndL]) (by rw [l6]; decide)) (by first | (rw [Blk.ren_own0 (by assumption)]; rfl) | rfl | (simp only [Blk.ren, renL_mapV]; rfl) | (rw [LR.ren (by rw [l2] <;> rfl) (by rw [l6] <;> rfl)]; rfl)) ?_)) ⟨by have := hκ.hm; (try dsimp only at this); (first | done | omega), fun i hi => by have := hκ.hm; (try dsimp only at this); (first | omega | (dsimp only; omega) | (rw [if_neg (by omega)]))⟩ ⟨by simp, rfl⟩
    · obtain rfl : n = 8 := by omega
      have q1 : ((8 : Int) < 8) = False := by first | (simp only [eq_iff_iff, iff_false]; first | assumption | omega) | (simp; omega)
      generalize restB s l 8 = o at *
      refine hκ.runA 7 300 ?_
      simp (disch := omega) only [push_cast, simprocAttr, q1]
      refine Sat.frz [0] 5 _ rfl (by first | (simp [lendPL, lendP, lendSlP, Heap.get]; done) | (simp only [lendPL, lendP, lendSlP, Heap.get, List.mem_singleton, List.mem_cons, List.not_mem_nil, or_false, or_true, true_or, Nat.reduceEqDiff, Nat.one_ne_zero, Nat.zero_ne_one, ↓reduceIte, and_true, true_and, List.length_map, List.length_append, List.length_cons, List.length_nil, List.length_replicate]; omega)) ?_
      simp only [lendL, lendS, lendSl, Heap.get, without, List.mem_singleton, List.mem_cons, List.not_mem_nil, or_false, or_true, true_or, List.drop_zero, List.take_length, List.take_succ_cons, List.take_zero, Nat.reduceAdd, Nat.reduceEqDiff, Nat.one_ne_zero, Nat.zero_ne_one, ↓reduceIte]
      rw [List.take_of_length_le (by simp)]
      refine hκ.run 300 ?_
      simp (disch := omega) only [push_cast, simprocAttr, q1]
      refine Does.ret hκ.hP hκ.hgl cO ⟨trivial, by first | (simp [SV.bnd, SV.bndL]; done) | (simp [SV.bnd, SV.bndL, ec_bnd]; done), by first | (simp [SV.bnd, SV.bndL]; done) | (simp [SV.bnd, SV.bndL, ec_bnd]; done) | assumption⟩ ?_
      refine hκ.run 300 ?_
      simp (disch := omega) only [push_cast, simprocAttr, q1]
      refine hκ.ret _ _ _ _ _ _ trivial rfl ?_
      exact .ret trivial
end Go.Proofs.YtnjgmjcokcfmkaaDoor
