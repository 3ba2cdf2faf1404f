/- An event's bytes: Encode; Check. No condition. -/
import Derived.Test.YtmieikflcolbaaaHq
import Derived.Test.YtmieikflcolbaaaHc
import Derived.Test.YtmieikflcolbaaaVe
import Derived.Test.YtmieikflcolbaaaVd
namespace Go.Proofs.Ytmieikflcolbaaa
open Go Go.Sy
set_option maxRecDepth 100000
set_option linter.unusedSimpArgs false
set_option linter.unusedVariables false
theorem ones_ec (x : Evt) : ones (ec x) := ⟨rfl, rfl, rfl, rfl, rfl, rfl, trivial, rfl, rfl, rfl, rfl, rfl, rfl, rfl, rfl, rfl, rfl, rfl, rfl, rfl, rfl, rfl, rfl, rfl, rfl, rfl, rfl, trivial, rfl, trivial⟩
def encE (a : Evt) : Int := if (encP a).2 = true then 360 else if decE (encP a).1 ≠ 0 then 360 else if sameE (decA (encP a).1) a = true then 0 else 360
def encB (a : Evt) : List Int := if encE a = 0 then (encP a).1 else []
theorem encode_ok (a : Evt) (ha : wf a) : Con Try.prog gl0 (fnv 14) [Ev a] 0 [] (Ret (.tup [By (encB a), I (encE a)])) := by
  suffices H : Con Try.prog gl0 (fnv 14) [Ev a] 0 [] (Ret (.tup [if encE a = 0 then By (encP a).1 else .v (.slice none 0 0), I (encE a)])) by
    by_cases ho : encE a = 0
    · rw [if_pos ho] at H; rw [encB, if_pos ho]; exact H
    · rw [if_neg ho] at H; rw [encB, if_neg ho]; exact Con.repR (fun ν => Rel.tupMap (RelL.mapHead fun _ => nil_rd)) H
  have hE : encE a = if (encP a).2 = true then 360 else if decE (encP a).1 ≠ 0 then 360 else if sameE (decA (encP a).1) a = true then 0 else 360 := rfl
  have hev := eventE a ha.f (by have := ha.nl; omega) (by have := ha.ml; omega) ([], false) 0 (by simp) (by simp)
  rw [show eEv a ([], false) = encP a from rfl] at hev
  have hY := encP_Y a
  have hL := encP_len ha
  have hbl := wf_decA hY
  rw [hE]
  clear hE
  generalize encP a = s at *
  have tec : ∀ x, takeN (ec x) 29 = some (ec x) := fun _ => rfl
  have lec : ∀ x, (ec x).length = 29 := fun _ => rfl
  have oec : ∀ x, over [I 0, I 0, I 0, I 0, I 0, Bo false, .v (.slice none 0 0), I 0, I 0, I 0, I 0, I 0, I 0, U 0, U 0, I 0, I 0, I 0, I 0, I 0, I 0, I 0, I 0, I 0, U 0, U 0, U 0, .v (.slice none 0 0), I 0] (ec x) = some (ec x) := fun _ => rfl
  have c1 := decode_ok s.1 hY (by omega)
  have c2 := same_ok (decA s.1) a ⟨by have := hbl.nl; omega, by have := hbl.ml; omega⟩
  refine Con.of Try.ok14 (nt := 28) (res := [.tmp 2, .tmp 3]) Try.mixed Try.func14 rfl rfl rfl rfl fun κ xc hκ => hκ.runA 3 300 ?_
  simp (disch := omega) only [push_cast, simprocAttr, tec, lec, oec, ones_ec]
  refine Sat.nilCell 1 1 5 65 [.v (.pointer none)] [Bo false] rfl ?_
  simp only [Heap.set, List.nil_append, List.cons_append, Nat.reduceEqDiff, ↓reduceIte]
  refine hκ.run 300 ?_
  simp (disch := omega) only [push_cast, simprocAttr, tec, lec, oec, ones_ec]
  refine (Does.E hκ.hP hκ.hgl _ (fun i => if i = 0 then 1 else if i = 1 then 2 else if i = 2 then 3 else i) [1, 2, 3] _ _ (hev) (by rfl) ⟨trivial, by simp [SV.bnd, SV.bndL], by simp [SV.bnd, SV.bndL]⟩ (by first | assumption | exact ec_bnd _ _ | (simp [SV.bnd, SV.bndL]; done)) (by decide) (by intro i hi; (repeat (first | omega | (dsimp only [id]; omega) | split))) (by intro i j; (repeat (first | omega | (dsimp only [id]; omega) | split))) (by repeat' (first | exact HeapIn.nil | refine HeapIn.cons (by decide) (by first | exact Blk.bnd_own0 (by assumption) | exact ec_bnd _ _ | (simp [Blk.bnd, SV.bnd, SV.bndL]; done)) (by simp) (by first | rfl | (rw [Blk.ren_own0 (by assumption)]; rfl)) ?_)) ?_)
  intro cap hcap
  simp only [renH, Blk.ren, SV.renL, SV.ren, tau, without, List.mem_singleton, List.mem_cons, List.not_mem_nil, or_false, or_true, true_or, Nat.reduceEqDiff, Nat.reduceLT, Nat.zero_lt_one, Nat.one_ne_zero, Nat.zero_ne_one, Nat.zero_lt_succ, ↓reduceIte, List.cons_append, List.nil_append, List.append_nil, id]
  obtain ⟨out, bad⟩ := s
  dsimp only at *
  cases bad
  · rw [if_neg (show ¬(false = true) by decide)] at hκ
    refine hκ.runA 6 300 ?_
    simp (disch := omega) only [push_cast, simprocAttr, tec, lec, oec, ones_ec]
    have et : List.take out.length (List.map (eI .u8) out) = List.map (eI .u8) out := List.take_of_length_le (by simp)
    refine Sat.frzOwn [4] 1 _ _ rfl (by decide) (by first | (simp [lendPL, lendP, lendSlP, Heap.get]; done) | (simp only [lendPL, lendP, lendSlP, Heap.get, List.mem_singleton, List.mem_cons, List.not_mem_nil, or_false, or_true, true_or, Nat.reduceEqDiff, Nat.one_ne_zero, Nat.zero_ne_one, ↓reduceIte, and_true, true_and, List.length_map, List.length_append, List.length_cons, List.length_nil, List.length_replicate]; omega)) ?_
    simp only [lendL, lendS, lendSl, Heap.get, without, List.mem_singleton, List.mem_cons, List.not_mem_nil, or_false, or_true, true_or, List.drop_zero, List.take_length, List.take_succ_cons, List.take_zero, Nat.reduceAdd, Nat.reduceEqDiff, Nat.one_ne_zero, Nat.zero_ne_one, ↓reduceIte]
    simp only [Heap.set, Nat.reduceEqDiff, ↓reduceIte, et]
    refine hκ.run 300 ?_
    simp (disch := omega) only [push_cast, simprocAttr, tec, lec, oec, ones_ec]
    refine Does.ret hκ.hP hκ.hgl c1 ⟨trivial, by simp [SV.bnd, SV.bndL], by simp [SV.bnd, SV.bndL, ec]⟩ ?_
    by_cases he : decE out = 0
    · rw [if_neg (show ¬(decE out ≠ 0) from fun h => h he)] at hκ
      rw [he]
      refine hκ.run 300 ?_
      simp (disch := omega) only [push_cast, simprocAttr, tec, lec, oec, ones_ec]
      refine Does.ret hκ.hP hκ.hgl c2 ⟨trivial, by simp [SV.bnd, SV.bndL, ec], by simp [SV.bnd, SV.bndL]⟩ ?_
      cases hs : sameE (decA out) a
      · rw [hs, if_neg (show ¬(false = true) by decide), if_neg (show ¬((360 : Int) = 0) by decide)] at hκ
        refine hκ.run 300 ?_
        simp (disch := omega) only [push_cast, simprocAttr, tec, lec, oec, ones_ec]
        refine hκ.ret _ _ _ _ _ _ trivial rfl ?_
        exact .ret (by simp [SV.bnd, SV.bndL])
      · rw [hs, if_pos rfl, if_pos rfl] at hκ
        refine hκ.run 300 ?_
        simp (disch := omega) only [push_cast, simprocAttr, tec, lec, oec, ones_ec]
        refine hκ.ret _ _ _ _ _ _ trivial rfl ?_
        exact .ret (by simp [SV.bnd, SV.bndL])
    · rw [if_pos (show decE out ≠ 0 from he), if_neg (show ¬((360 : Int) = 0) by decide)] at hκ
      refine hκ.run 300 ?_
      simp (disch := omega) only [push_cast, simprocAttr, he, tec, lec, oec, ones_ec]
      refine hκ.ret _ _ _ _ _ _ trivial rfl ?_
      exact .ret (by simp [SV.bnd, SV.bndL])
  · rw [if_pos rfl, if_neg (show ¬((360 : Int) = 0) by decide)] at hκ
    refine hκ.run 300 ?_
    simp (disch := omega) only [push_cast, simprocAttr, tec, lec, oec, ones_ec]
    refine hκ.ret _ _ _ _ _ _ trivial rfl ?_
    exact .ret (by simp [SV.bnd, SV.bndL])
end Go.Proofs.Ytmieikflcolbaaa
