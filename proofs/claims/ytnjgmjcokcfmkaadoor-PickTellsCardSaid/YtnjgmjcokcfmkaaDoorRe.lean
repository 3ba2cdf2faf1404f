/- pick.Changed$1: it goes over the map, whatever order comes, and sorts. No condition. -/
import Derived.Test.YtnjgmjcokcfmkaaDoorRd
namespace Go.Proofs.YtnjgmjcokcfmkaaDoor
open Go Go.Sy
set_option maxRecDepth 100000
set_option linter.unusedSimpArgs false
set_option linter.unusedVariables false
set_option maxHeartbeats 8000000

def outL (q : Int → Bool → Int → Bool → Bool) (was is : List (Int × Int)) (l : List MapEntry) : List Int := (l.map kE).filter (chB q was is)
theorem outL_snoc (q : Int → Bool → Int → Bool → Bool) (was is : List (Int × Int)) (l : List MapEntry) (e : MapEntry) : outL q was is (l ++ [e]) = if chB q was is (kE e) = true then outL q was is l ++ [kE e] else outL q was is l := by
  rw [outL, List.map_append, List.filter_append, List.map_cons, List.map_nil, List.filter_cons, List.filter_nil, ← outL]
  split
  · rfl
  · rw [List.append_nil]
theorem outL_all {q : Int → Bool → Int → Bool → Bool} {was is : List (Int × Int)} {es l : List MapEntry} (hkp : KP es ((was ++ is).map Prod.fst)) (hp : l.Perm es) : sortI (outL q was is l) = chgL q was is := by
  exact sortI_perm (((hp.map kE).filter _).trans (((List.perm_ext_iff_of_nodup hkp.nd (uq_nodup ((was ++ is).map Prod.fst))).2 fun a => by rw [hkp.mem, mem_uq]).filter _))
theorem those_ok (g : FuncId) (q : Int → Bool → Int → Bool → Bool) (hq : ∀ a f b t, Con Tryd.prog gl0 (fnv g) [I a, Bo f, I b, Bo t] 0 [] (Ret (Bo (q a f b t)))) (was is : List (Int × Int)) (hn : was.length < 2 ^ 40) (hn2 : is.length < 2 ^ 40)
    (es : Array MapEntry) (clock : Nat) (hkp : KP es.toList ((was ++ is).map Prod.fst)) (hbd : ∀ e ∈ es.toList, e.born < clock) (hbn : (es.toList.map (·.born)).Nodup) :
    Con Tryd.prog gl0 (.fn (.func 62) [] [.ptr 3 0 0 0, .ptr 0 0 0 0, .ptr 1 0 0 0]) [fnv g] 4 [(0, .own [Ps was] 30), (1, .own [Ps is] 30), (2, .obj (.map es clock)), (3, .own [.mp 2] 91)]
      (RetS (Is (chgL q was is)) [(0, .own [Ps was] 30), (1, .own [Ps is] 30), (2, .obj (.map es clock)), (3, .own [.mp 2] 91)] 4) := by
  have hsz : es.toList.length < 2 ^ 42 := by
    have h1 := ((List.perm_ext_iff_of_nodup hkp.nd (uq_nodup ((was ++ is).map Prod.fst))).2 fun a => by rw [hkp.mem, mem_uq]).length_eq
    have h3 : ∀ l : List Int, (uq l).length ≤ l.length := fun l => by
      induction l with
      | nil => exact Nat.le_refl _
      | cons x l ih =>
        rw [uq]
        split <;> simp only [List.length_cons] <;> omega
    have h4 := h3 ((was ++ is).map Prod.fst)
    simp only [List.length_map, List.length_append] at h1 h4
    omega
  have hlen : ∀ l : List MapEntry, (outL q was is l).length ≤ l.length := fun l => by
    have := List.length_filter_le (chB q was is) (l.map kE)
    rw [List.length_map] at this
    exact this
  refine Con.clo Tryd.ok62 (nt := 43) (res := [.tmp 5]) Tryd.mixed Tryd.func62 rfl rfl rfl rfl fun κ xc hκ => ?_
  have hu : κ.P.underlying 91 = some (.map 3 4) := by rw [hκ.hP]; exact Tryd.underlying91
  refine hκ.runO 1 2 300 ?_
  simp (disch := omega) only [push_cast, simprocAttr]
  refine Sat.rangeMap (m := 2) (d := 13) rfl rfl rfl hu rfl rfl rfl (by rw [hκ.hn]; decide) ?_
  refine Sat.nilRow 6 1 3 rfl ?_
  refine hκ.run 300 ?_
  simp (disch := omega) only [push_cast, simprocAttr]
  refine Sat.less (Sat.loop (γ := List MapEntry × Nat) (fun g' => ([(13, .ptr 4 0 0 0), (0, fnv g), (2, .ptr 0 0 0 0), (3, .ptr 1 0 0 0), (6, .sl 5 1 0 (outL q was is g'.1).length g'.2)],
      [(5, .row 1 g'.2 3 ((outL q was is g'.1).map (eI .i64))), (4, .iter 2 clock (g'.1.map (·.born)).toArray), (0, .own [Ps was] 30), (1, .own [Ps is] 30), (2, .obj (.map es clock)), (3, .own [.mp 2] 91)], 6))
    (fun g' => leftN es.toList g'.1) (fun g' => (∀ e ∈ g'.1, e ∈ es.toList) ∧ (g'.1.map (·.born)).Nodup ∧ (outL q was is g'.1).length ≤ g'.2 ∧ leftN es.toList g'.1 + g'.1.length ≤ es.toList.length) ?round ([], 0) ⟨by simp, List.nodup_nil, Nat.zero_le _, List.length_filter_le _ _⟩) (by repeat' (first | exact EnvSub.nil _ | exact HeapSub.nil _ | refine EnvSub.cons rfl ?_ | refine HeapSub.cons rfl ?_ | (refine EnvSub.cons (by simp [Env.get]; done) ?_) | (refine HeapSub.cons (by simp [Heap.get]; done) ?_))) (by repeat' (first | exact EnvSub.nil _ | exact HeapSub.nil _ | refine EnvSub.cons rfl ?_ | refine HeapSub.cons rfl ?_ | (refine EnvSub.cons (by simp [Env.get]; done) ?_) | (refine HeapSub.cons (by simp [Heap.get]; done) ?_)))
  case round =>
    rintro ⟨l, cp⟩ ⟨i1, i2, i3, i4⟩ ih
    dsimp only at i1 i2 i3 i4 ih ⊢
    have hl := hlen l
    have et : List.take (outL q was is l).length (List.map (eI .i64) (outL q was is l)) = List.map (eI .i64) (outL q was is l) := List.take_of_length_le (by simp)
    refine hκ.runO 0 2 300 ?_
    simp (disch := omega) only [push_cast, simprocAttr]
    refine Sat.nextMap (m := 2) (id := 4) (d := 14) rfl rfl rfl rfl rfl rfl hbd rfl (by rw [hκ.hn]; decide) ?done ?more
    case done =>
      intro hall
      have hp := seen_all hbn i1 i2 (by simpa using hall)
      have hs := outL_all (q := q) hkp hp
      clear ih hall
      rw [← hs] at hκ
      generalize outL q was is l = xs at *
      by_cases h0 : 0 < xs.length
      · refine hκ.run 300 ?_
        simp (disch := omega) only [push_cast, simprocAttr]
        refine Does.fn hκ.hP hκ.hgl 1 (fun _ => 5) [5] (fnv 63) [.sl 0 1 0 xs.length cp] [(0, .row 1 cp 3 (xs.map (eI .i64)))] (sort_ok xs cp 3 h0 (by omega)) rfl rfl trivial ⟨Nat.lt_succ_self 0, trivial⟩ (fun _ _ => (by show 5 < 6; omega)) (fun i j hi hj _ => by omega) (by repeat' (first | exact HeapIn.nil | refine HeapIn.cons (by decide) trivial (by simp) rfl ?_)) ?_
        rintro s H n' ⟨rfl, rfl, rfl⟩
        refine ⟨(by repeat' (first | exact Once.nil | refine Once.cons (by simp) ?_)), fun _ => ?_⟩
        simp only [renH, Blk.ren, SV.renL, SV.ren, tau, without, List.mem_singleton, List.mem_cons, List.not_mem_nil, or_false, or_true, true_or, Nat.reduceEqDiff, Nat.reduceLT, Nat.zero_lt_one, Nat.one_ne_zero, Nat.zero_ne_one, Nat.zero_lt_succ, ↓reduceIte, List.cons_append, List.nil_append, List.append_nil]
        refine hκ.run 300 ?_
        simp (disch := omega) only [push_cast, simprocAttr]
        refine hκ.ret _ _ _ _ _ _ trivial rfl ?_
        have e2 : List.take xs.length (List.map (eI .i64) (sortI xs)) = List.map (eI .i64) (sortI xs) := List.take_of_length_le (by simp [sortI_len])
        refine Post.frz [5] (by simp [lendPL, lendP, lendSlP, dropL, Heap.get, resV, sortI_len]; omega) ?_
        simp only [resV, dropL]
        simp only [lendL, lendS, lendSl, Heap.get, without, List.mem_singleton, List.mem_cons, List.not_mem_nil, or_false, or_true, true_or, List.drop_zero, List.take_length, List.take_succ_cons, List.take_zero, Nat.reduceAdd, Nat.reduceEqDiff, Nat.one_ne_zero, Nat.zero_ne_one, ↓reduceIte]
        rw [e2]
        exact Post.look (by simp [SV.bnd]) (by repeat' (first | exact HeapVia.nil | refine HeapVia.cons (by decide) (by first | trivial | exact Blk.bnd_own0 (by assumption) | (simp [Blk.bnd, SV.bnd, SV.bndL]; done) | exact bndL_mapV _ _ _ | exact LR.bnd (by rw [l2]; simp [bndE, SV.bnd, SV.bndL]) (by rw [l6]; decide)) (by first | (rw [Blk.ren_own0 (by assumption)]; rfl) | rfl | (simp only [Blk.ren, renL_mapV]; rfl) | (rw [LR.ren (by rw [l2] <;> rfl) (by rw [l6] <;> rfl)]; rfl)) ?_))
      · obtain rfl := List.eq_nil_of_length_eq_zero (show xs.length = 0 by omega)
        rw [show sortI [] = [] by simp [sortI]] at hκ
        refine Sat.frz [5] 6 _ rfl (by first | (simp [lendPL, lendP, lendSlP, Heap.get]; done) | (simp only [lendPL, lendP, lendSlP, Heap.get, List.mem_singleton, List.mem_cons, List.not_mem_nil, or_false, or_true, true_or, Nat.reduceEqDiff, Nat.one_ne_zero, Nat.zero_ne_one, ↓reduceIte, and_true, true_and, List.length_map, List.length_append, List.length_cons, List.length_nil, List.length_replicate]; omega)) ?_
        simp only [lendL, lendS, lendSl, Heap.get, without, List.mem_singleton, List.mem_cons, List.not_mem_nil, or_false, or_true, true_or, List.drop_zero, List.take_length, List.take_succ_cons, List.take_zero, Nat.reduceAdd, Nat.reduceEqDiff, Nat.one_ne_zero, Nat.zero_ne_one, ↓reduceIte]
        refine hκ.run 300 ?_
        simp (disch := omega) only [push_cast, simprocAttr]
        refine Does.ret hκ.hP hκ.hgl sort0_ok ⟨trivial, by first | (simp [SV.bnd, SV.bndL]; done) | (simp [SV.bnd, SV.bndL, ec_bnd]; done), by first | (simp [SV.bnd, SV.bndL]; done) | (simp [SV.bnd, SV.bndL, ec_bnd]; done) | assumption⟩ ?_
        refine hκ.run 300 ?_
        simp (disch := omega) only [push_cast, simprocAttr]
        refine hκ.ret _ _ _ _ _ _ trivial rfl ?_
        exact Post.look (by simp [SV.bnd]) (by repeat' (first | exact HeapVia.nil | refine HeapVia.cons (by decide) (by first | trivial | exact Blk.bnd_own0 (by assumption) | (simp [Blk.bnd, SV.bnd, SV.bndL]; done) | exact bndL_mapV _ _ _ | exact LR.bnd (by rw [l2]; simp [bndE, SV.bnd, SV.bndL]) (by rw [l6]; decide)) (by first | (rw [Blk.ren_own0 (by assumption)]; rfl) | rfl | (simp only [Blk.ren, renL_mapV]; rfl) | (rw [LR.ren (by rw [l2] <;> rfl) (by rw [l6] <;> rfl)]; rfl)) ?_))
    case more =>
      intro e he hnew
      have hnew' : e.born ∉ l.map (·.born) := by simpa using hnew
      have hz := fun cp h => ih (l ++ [e], cp) ⟨fun x hx => (List.mem_append.1 hx).elim (i1 x) (fun hx => by rw [List.mem_singleton.1 hx]; exact he), by
        rw [List.map_append, List.nodup_append]
        exact ⟨i2, by simp, fun a ha b hb e' => by simp only [List.map_cons, List.map_nil, List.mem_singleton] at hb; exact hnew' (by rw [← hb, ← e']; exact ha)⟩, h, by dsimp only; have := left_lt he hnew'; rw [List.length_append, List.length_singleton]; omega⟩ (left_lt he hnew')
      dsimp only at hz
      clear ih
      refine hκ.runO 0 3 300 ?_
      simp (disch := omega) only [push_cast, simprocAttr]
      refine Sat.entryMap (m := 2) (id := 4) (d := 16) rfl rfl rfl rfl rfl rfl he hbn rfl (by rw [hκ.hn]; decide) ?_
      have hpush : (l.map (·.born)).toArray.push e.born = ((l ++ [e]).map (·.born)).toArray := by simp
      rw [hpush, hkp.key e he]
      have c1 := On_ok was (kE e) (by omega)
      have c2 := On_ok is (kE e) (by omega)
      have c3 := hq ((onP was (kE e)).getD 0) (onP was (kE e)).isSome ((onP is (kE e)).getD 0) (onP is (kE e)).isSome
      have hb : chB q was is (kE e) = q ((onP was (kE e)).getD 0) (onP was (kE e)).isSome ((onP is (kE e)).getD 0) (onP is (kE e)).isSome := rfl
      rw [← hb] at c3
      rw [outL_snoc] at hz
      clear hb hpush
      generalize chB q was is (kE e) = b at *
      generalize hlb : (List.map (fun x => x.born) (l ++ [e])).toArray = sn at *
      generalize kE e = v at *
      generalize e.val = ev' at *
      generalize outL q was is l = o at *
      refine hκ.run 300 ?_
      simp (disch := omega) only [push_cast, simprocAttr]
      refine Does.ret hκ.hP hκ.hgl c1 ⟨trivial, by first | (simp [SV.bnd, SV.bndL]; done) | (simp [SV.bnd, SV.bndL, ec_bnd]; done), by first | (simp [SV.bnd, SV.bndL]; done) | (simp [SV.bnd, SV.bndL, ec_bnd]; done) | assumption⟩ ?_
      refine hκ.run 300 ?_
      simp (disch := omega) only [push_cast, simprocAttr]
      refine Does.ret hκ.hP hκ.hgl c2 ⟨trivial, by first | (simp [SV.bnd, SV.bndL]; done) | (simp [SV.bnd, SV.bndL, ec_bnd]; done), by first | (simp [SV.bnd, SV.bndL]; done) | (simp [SV.bnd, SV.bndL, ec_bnd]; done) | assumption⟩ ?_
      refine hκ.run 300 ?_
      simp (disch := omega) only [push_cast, simprocAttr]
      refine Does.ret hκ.hP hκ.hgl c3 ⟨trivial, by first | (simp [SV.bnd, SV.bndL]; done) | (simp [SV.bnd, SV.bndL, ec_bnd]; done), by first | (simp [SV.bnd, SV.bndL]; done) | (simp [SV.bnd, SV.bndL, ec_bnd]; done) | assumption⟩ ?_
      cases b
      · simp only [Bool.false_eq_true, if_false] at hz
        have hy := hz cp i3
        refine hκ.run 300 ?_
        simp (disch := omega) only [push_cast, simprocAttr]
        exact hy.less (by repeat' (first | exact EnvSub.nil _ | exact HeapSub.nil _ | refine EnvSub.cons rfl ?_ | refine HeapSub.cons rfl ?_ | (refine EnvSub.cons (by simp [Env.get]; done) ?_) | (refine HeapSub.cons (by simp [Heap.get]; done) ?_))) (by repeat' (first | exact EnvSub.nil _ | exact HeapSub.nil _ | refine EnvSub.cons rfl ?_ | refine HeapSub.cons rfl ?_ | (refine EnvSub.cons (by simp [Env.get]; done) ?_) | (refine HeapSub.cons (by simp [Heap.get]; done) ?_)))
      · simp only [if_true] at hz
        refine hκ.run 300 ?_
        simp (disch := omega) only [push_cast, simprocAttr, et]
        refine ⟨⟨Nat.le_refl _, by omega, by omega⟩, fun _ => ?_⟩
        intro i
        have hy := hz (o.length + 1 + i) (by simp)
        simp only [List.length_append, List.length_cons, List.length_nil, List.length_singleton, List.length_map, List.length_set, List.length_replicate, Nat.zero_add, Nat.add_zero, Int.natCast_add, Int.natCast_one, Int.ofNat_eq_natCast, List.map_append, List.map_cons, List.map_nil, List.take_length, eI, eB] at hy ⊢
        refine Sat.via (fun i => if i = 5 then 7 else i) (hy) (by intro i j; (repeat (first | omega | split))) (by repeat' (first | exact EnvVia.nil | refine EnvVia.cons (by first | trivial | decide | (simp [SV.bnd, SV.bndL]; done)) rfl ?_)) (by repeat' (first | exact HeapVia.nil | refine HeapVia.cons (by decide) (by first | trivial | exact Blk.bnd_own0 (by assumption) | (simp [Blk.bnd, SV.bnd, SV.bndL]; done) | exact bndL_mapV _ _ _ | exact LR.bnd (by rw [l2]; simp [bndE, SV.bnd, SV.bndL]) (by rw [l6]; decide)) (by first | (rw [Blk.ren_own0 (by assumption)]; rfl) | rfl | (simp only [Blk.ren, renL_mapV]; rfl) | (rw [LR.ren (by rw [l2] <;> rfl) (by rw [l6] <;> rfl)]; rfl)) ?_)) ⟨by have := hκ.hm; (try dsimp only at this); (first | done | omega), fun i hi => by have := hκ.hm; (try dsimp only at this); (first | omega | (dsimp only; omega) | (rw [if_neg (by omega)]))⟩ ⟨by simp, rfl⟩
end Go.Proofs.YtnjgmjcokcfmkaaDoor
