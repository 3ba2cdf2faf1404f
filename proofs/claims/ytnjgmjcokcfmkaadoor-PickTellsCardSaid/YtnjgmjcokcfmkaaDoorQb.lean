/- A member's choices, of the code. No condition. -/
import Derived.Test.YtnjgmjcokcfmkaaDoorQa
namespace Go.Proofs.YtnjgmjcokcfmkaaDoor
open Go Go.Sy
set_option maxRecDepth 100000
set_option linter.unusedSimpArgs false
set_option linter.unusedVariables false
set_option maxHeartbeats 4000000

/-- A member's choices. -/
def chs (w : Wi) (free : Nat) : List Int := if hasB (alw w.m free) w.a = true then
    w.a :: (bits (dif (lik w.m free) (2 ^ w.a.toNat)) ++ bits (dif (dif (alw w.m free) (2 ^ w.a.toNat)) (dif (lik w.m free) (2 ^ w.a.toNat))))
  else bits (lik w.m free) ++ bits (dif (alw w.m free) (lik w.m free))
theorem Choices_ok (w : Wi) (free : Nat) (hw : inW w) (hf : free < 4294967296) : Con Tryd.prog gl0 (fnv 20) [.agg (eW w), S free] 0 [] (RetRow 3 1 ((chs w free).map (eI .i64))) := by
  obtain ⟨hv, ha, hm⟩ := hw
  have c1 := allows_ok w.m free hm hf
  have c2 := likes_ok w.m free hm hf
  have la := alw_lt w.m free
  have ll := lik_lt w.m free
  have c3 := has_ok (alw w.m free) w.a (by omega) ha
  have hb : hasB (alw w.m free) w.a = true → 0 ≤ w.a ∧ w.a < 8 := hasB_bd
  have hch : chs w free = if hasB (alw w.m free) w.a = true then
    w.a :: (bits (dif (lik w.m free) (2 ^ w.a.toNat)) ++ bits (dif (dif (alw w.m free) (2 ^ w.a.toNat)) (dif (lik w.m free) (2 ^ w.a.toNat))))
    else bits (lik w.m free) ++ bits (dif (alw w.m free) (lik w.m free)) := rfl
  rw [hch]
  clear hch
  generalize alw w.m free = a at *
  generalize lik w.m free = k at *
  refine Con.of Tryd.ok20 (nt := 45) (res := [.tmp 4]) Tryd.mixed Tryd.func20 rfl rfl rfl rfl fun κ xc hκ => hκ.run 300 ?_
  simp (disch := omega) only [push_cast, simprocAttr, eW]
  refine Does.ret hκ.hP hκ.hgl c1 ⟨trivial, by first | (simp [SV.bnd, SV.bndL]; done) | (simp [SV.bnd, SV.bndL, ec_bnd]; done), by first | (simp [SV.bnd, SV.bndL]; done) | (simp [SV.bnd, SV.bndL, ec_bnd]; done) | assumption⟩ ?_
  refine hκ.run 300 ?_
  simp (disch := omega) only [push_cast, simprocAttr, eW]
  refine Does.ret hκ.hP hκ.hgl c2 ⟨trivial, by first | (simp [SV.bnd, SV.bndL]; done) | (simp [SV.bnd, SV.bndL, ec_bnd]; done), by first | (simp [SV.bnd, SV.bndL]; done) | (simp [SV.bnd, SV.bndL, ec_bnd]; done) | assumption⟩ ?_
  refine hκ.runA 4 300 ?_
  simp (disch := omega) only [push_cast, simprocAttr, eW]
  refine Sat.nilRow 7 1 3 rfl ?_
  generalize hspec : (if hasB a w.a = true then w.a :: (bits (dif k (2 ^ w.a.toNat)) ++ bits (dif (dif a (2 ^ w.a.toNat)) (dif k (2 ^ w.a.toNat)))) else bits k ++ bits (dif a k)) = spec at *
  apply Sat.join (κ := κ) (x := xc) (α := List Int × Nat × Nat × Nat) (nx := 2) (dfs := []) (fun g => spec = g.1 ++ bits g.2.2.1 ++ bits (dif g.2.1 g.2.2.1) ∧ g.1.length ≤ 1 ∧ g.1.length ≤ g.2.2.2 ∧ g.2.1 < 256 ∧ g.2.2.1 < 256) (fun g => ([(7, .sl 1 1 0 g.1.length g.2.2.2), (6, S g.2.2.1), (5, S g.2.1)], [(1, .row 1 g.2.2.2 3 (g.1.map (eI .i64)))]))
  · intro hj
    cases hh : hasB a w.a
    · rw [hh] at c3 hspec
      rw [if_neg (by decide)] at hspec
      have hj := hj ([], a, k, 0) ⟨hspec.symm, Nat.zero_le _, Nat.le_refl _, la, ll⟩
      dsimp only at hj
      refine hκ.runA 8 300 ?_
      simp (disch := omega) only [push_cast, simprocAttr, eW]
      refine Does.ret hκ.hP hκ.hgl c3 ⟨trivial, by first | (simp [SV.bnd, SV.bndL]; done) | (simp [SV.bnd, SV.bndL, ec_bnd]; done), by first | (simp [SV.bnd, SV.bndL]; done) | (simp [SV.bnd, SV.bndL, ec_bnd]; done) | assumption⟩ ?_
      refine hκ.runA 8 300 ?_
      simp (disch := omega) only [push_cast, simprocAttr, eW]
      exact hj.less (by repeat' (first | exact EnvSub.nil _ | exact HeapSub.nil _ | refine EnvSub.cons rfl ?_ | refine HeapSub.cons rfl ?_ | (refine EnvSub.cons (by simp [Env.get]; done) ?_) | (refine HeapSub.cons (by simp [Heap.get]; done) ?_))) (by repeat' (first | exact EnvSub.nil _ | exact HeapSub.nil _ | refine EnvSub.cons rfl ?_ | refine HeapSub.cons rfl ?_ | (refine EnvSub.cons (by simp [Env.get]; done) ?_) | (refine HeapSub.cons (by simp [Heap.get]; done) ?_)))
    · rw [hh] at c3 hspec
      rw [if_pos rfl] at hspec
      obtain ⟨a0, a8⟩ := hb hh
      have pw := pow32 w.a.toNat (by omega)
      have hp := pow_lt_256 (c := w.a.toNat) (by omega)
      have an := andNot32 (a := a) (b := 2 ^ w.a.toNat) (by omega) (by omega)
      have kn := andNot32 (a := k) (b := 2 ^ w.a.toNat) (by omega) (by omega)
      have hj := fun cp h => hj ([w.a], dif a (2 ^ w.a.toNat), dif k (2 ^ w.a.toNat), cp) ⟨hspec.symm, Nat.le_refl _, h, Nat.lt_of_le_of_lt (dif_le _ _) la, Nat.lt_of_le_of_lt (dif_le _ _) ll⟩
      dsimp only at hj
      clear hspec
      refine hκ.runA 8 300 ?_
      simp (disch := omega) only [push_cast, simprocAttr, eW]
      refine Does.ret hκ.hP hκ.hgl c3 ⟨trivial, by first | (simp [SV.bnd, SV.bndL]; done) | (simp [SV.bnd, SV.bndL, ec_bnd]; done), by first | (simp [SV.bnd, SV.bndL]; done) | (simp [SV.bnd, SV.bndL, ec_bnd]; done) | assumption⟩ ?_
      refine hκ.runA 8 300 ?_
      simp (disch := omega) only [push_cast, simprocAttr, eW]
      intro i
      refine ⟨a0, fun _ => ⟨a0, fun _ => ?_⟩⟩
      rw [pw, an, kn]
      have hy := hj (1 + i) (by simp)
      refine Sat.via (fun i => if i = 1 then 3 else i) (hy) (by intro i j; (repeat (first | omega | split))) (by repeat' (first | exact EnvVia.nil | refine EnvVia.cons (by first | trivial | decide | (simp [SV.bnd, SV.bndL]; done)) rfl ?_)) (by repeat' (first | exact HeapVia.nil | refine HeapVia.cons (by decide) (by first | trivial | exact Blk.bnd_own0 (by assumption) | (simp [Blk.bnd, SV.bnd, SV.bndL]; done) | exact bndL_mapV _ _ _ | exact LR.bnd (by rw [l2]; simp [bndE, SV.bnd, SV.bndL]) (by rw [l6]; decide)) (by first | (rw [Blk.ren_own0 (by assumption)]; rfl) | rfl | (simp only [Blk.ren, renL_mapV]; rfl) | (rw [LR.ren (by rw [l2] <;> rfl) (by rw [l6] <;> rfl)]; rfl)) ?_)) ⟨by have := hκ.hm; (try dsimp only at this); (first | done | omega), fun i hi => by have := hκ.hm; (try dsimp only at this); (first | omega | (dsimp only; omega) | (rw [if_neg (by omega)]))⟩ ⟨by simp, rfl⟩
  rintro ⟨pre, a', k', cp⟩ ⟨hsp, hpl, hcp, la', lk'⟩
  dsimp only at hsp hpl hcp la' lk' ⊢
  rw [hsp] at hκ
  have l1 := (list_ok k' (by omega)).toRd
  have l2 := (list_ok (dif a' k') (by have := dif_le a' k'; omega)).toRd
  have an := andNot32 (a := a') (b := k') (by omega) (by omega)
  have b1 := bits_len k'
  have b2 := bits_len (dif a' k')
  generalize bits k' = x at *
  generalize bits (dif a' k') = y at *
  have et : List.take pre.length (List.map (eI .i64) pre) = List.map (eI .i64) pre := List.take_of_length_le (by simp)
  have et2 : List.take (pre.length + x.length) (List.map (eI .i64) pre ++ List.map (eI .i64) x) = List.map (eI .i64) pre ++ List.map (eI .i64) x := List.take_of_length_le (by simp)
  refine hκ.run 300 ?_
  simp (disch := omega) only [push_cast, simprocAttr, eW, an, et, et2]
  refine Does.ret hκ.hP hκ.hgl l1 ⟨trivial, by first | (simp [SV.bnd, SV.bndL]; done) | (simp [SV.bnd, SV.bndL, ec_bnd]; done), by first | (simp [SV.bnd, SV.bndL]; done) | (simp [SV.bnd, SV.bndL, ec_bnd]; done) | assumption⟩ ?_
  refine hκ.run 300 ?_
  simp (disch := omega) only [push_cast, simprocAttr, eW, an, et, et2]
  refine ⟨⟨by omega, by omega, by omega⟩, fun _ => ?_⟩
  intro i
  refine Does.ret hκ.hP hκ.hgl l2 ⟨trivial, by first | (simp [SV.bnd, SV.bndL]; done) | (simp [SV.bnd, SV.bndL, ec_bnd]; done), by first | (simp [SV.bnd, SV.bndL]; done) | (simp [SV.bnd, SV.bndL, ec_bnd]; done) | assumption⟩ ?_
  refine hκ.run 300 ?_
  simp (disch := omega) only [push_cast, simprocAttr, eW, an, et, et2]
  refine ⟨⟨by omega, by omega, by omega⟩, fun _ => ?_⟩
  intro i2
  refine hκ.ret _ _ _ _ _ _ trivial rfl ?_
  exact Post.row (by rw [List.map_append, List.map_append]; rfl) (by simp [Nat.add_assoc])
end Go.Proofs.YtnjgmjcokcfmkaaDoor
