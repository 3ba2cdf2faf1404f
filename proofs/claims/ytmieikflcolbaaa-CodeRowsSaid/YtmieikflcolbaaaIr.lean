/- A row's bytes, of a row that may be written afterwards: Row, and the document's. No condition. -/
import Derived.Test.YtmieikflcolbaaaIa
import Derived.Test.YtmieikflcolbaaaRi
import Derived.Test.YtmieikflcolbaaaHq
namespace Go.Proofs.Ytmieikflcolbaaa
open Go Go.Sy
set_option maxRecDepth 100000
set_option linter.unusedSimpArgs false
set_option linter.unusedVariables false
set_option maxHeartbeats 4000000
abbrev RwE (l : List Evt) (cap : Nat) : Blk := .row 29 cap 37 (l.map ec)
theorem rowS_ok (l : List Evt) (cap : Nat) (hcl : l.length ≤ cap) (hw : ∀ a ∈ l, wf a) (hn : l.length < 2 ^ 40) : Con Try.prog gl0 (fnv 21) [.sl 0 29 0 l.length cap] 1 [(0, RwE l cap)] (RetS (.tup [By (rowB l), I (rowAt l), I (rowE l)]) [(0, RwE l cap)] 1) := by
  suffices H : Con Try.prog gl0 (fnv 21) [.sl 0 29 0 l.length cap] 1 [(0, RwE l cap)] (RetS (.tup [if rowE l = 0 then By (bytesF l.length 2 ++ l.flatMap encB) else .v (.slice none 0 0), I (rowAt l), I (rowE l)]) [(0, RwE l cap)] 1) by
    by_cases ho : rowE l = 0
    · rw [if_pos ho] at H; rw [rowB, if_pos ho]; exact H
    · rw [if_neg ho] at H; rw [rowB, if_neg ho]; exact Con.repS (fun ν => Rel.tupMap (RelL.mapHead fun _ => nil_rd)) H
  have hE : rowE l = if 2000 < l.length then 3 else if badAt l < l.length then 360 else 0 := rfl
  have hA : rowAt l = if 2000 < l.length then (0 : Int) else if badAt l < l.length then (badAt l : Int) else 0 := rfl
  by_cases h2 : 2000 < l.length
  · rw [if_pos h2] at hE hA
    rw [hE, hA, if_neg (show ¬(3 : Int) = 0 by decide)]
    have q1 : (2000 < (l.length : Int)) = True := by first | (simp only [eq_iff_iff, iff_true]; first | assumption | omega) | (simp; omega)
    refine Con.of Try.ok21 (nt := 38) (res := [.tmp 2, .tmp 3, .tmp 4]) Try.mixed Try.func21 rfl rfl rfl rfl fun κ xc hκ => hκ.run 300 ?_
    simp (disch := omega) only [push_cast, simprocAttr, q1]
    refine hκ.ret _ _ _ _ _ _ trivial rfl ?_
    exact Post.look (by simp [SV.bnd, SV.bndL]) (by repeat' (first | exact HeapVia.nil | refine HeapVia.cons (by decide) (by first | trivial | exact Blk.bnd_own0 (by assumption) | (simp [Blk.bnd, SV.bnd, SV.bndL]; done) | exact bndL_mapV _ _ _ | exact LR.bnd (by rw [l2]; simp [bndE, SV.bnd, SV.bndL]) (by rw [l6]; decide)) (by first | (rw [Blk.ren_own0 (by assumption)]; rfl) | rfl | (simp only [Blk.ren, renL_mapV]; rfl) | (rw [LR.ren (by rw [l2] <;> rfl) (by rw [l6] <;> rfl)]; rfl)) ?_))
  rw [if_neg h2] at hE hA
  have hp := put16n l.length (by omega) (by omega)
  have q1 : (2000 < (l.length : Int)) = False := by first | (simp only [eq_iff_iff, iff_false]; first | assumption | omega) | (simp; omega)
  have w16 : IntKind.u16.wrap (l.length : Int) = l.length := by rw [wrap_u16_mod]; omega
  refine Con.of Try.ok21 (nt := 38) (res := [.tmp 2, .tmp 3, .tmp 4]) Try.mixed Try.func21 rfl rfl rfl rfl fun κ xc hκ => hκ.run 300 ?_
  simp (disch := omega) only [push_cast, simprocAttr, q1, w16, tec, lec, oec, ones_ec]
  refine Does.row hκ.hP hκ.hgl hp ⟨trivial, by simp [SV.bnd, SV.bndL]⟩ fun cap0 hcap0 => ?_
  rw [List.length_map, bytesF_length] at hcap0
  refine hκ.run 300 ?_
  simp (disch := omega) only [push_cast, simprocAttr, q1, w16, tec, lec, oec, ones_ec]
  refine Sat.less (Sat.loop (γ := Nat × Nat) (fun g => ([(19, I g.1), (18, I l.length), (17, .sl 0 29 0 l.length cap), (5, .sl 1 1 0 (bytesF l.length 2 ++ (l.take g.1).flatMap encB).length g.2)], [(0, RwE l cap), (1, .row 1 g.2 5 ((bytesF l.length 2 ++ (l.take g.1).flatMap encB).map (eI .u8)))], 2))
    (fun g => l.length - g.1) (fun g => g.1 ≤ l.length ∧ (∀ a ∈ l.take g.1, encE a = 0) ∧ (bytesF l.length 2 ++ (l.take g.1).flatMap encB).length ≤ g.2) ?round (0, cap0) ⟨Nat.zero_le _, by simp, by simpa [bytesF_length] using hcap0⟩) (by repeat' (first | exact EnvSub.nil _ | exact HeapSub.nil _ | refine EnvSub.cons rfl ?_ | refine HeapSub.cons rfl ?_ | (refine EnvSub.cons (by simp [Env.get]; done) ?_) | (refine HeapSub.cons (by simp [Heap.get]; done) ?_))) (by simp only [List.take_zero, List.flatMap_nil, List.append_nil]; exact (by repeat' (first | exact EnvSub.nil _ | exact HeapSub.nil _ | refine EnvSub.cons rfl ?_ | refine HeapSub.cons rfl ?_ | (refine EnvSub.cons (by simp [Env.get]; done) ?_) | (refine HeapSub.cons (by simp [Heap.get]; done) ?_))))
  case round =>
    rintro ⟨k, cp⟩ ⟨hk, hz, hcp⟩ ih
    dsimp only at hk hz hcp ih ⊢
    by_cases hkl : k < l.length
    · have q2 : ((k : Int) < l.length) = True := by first | (simp only [eq_iff_iff, iff_true]; first | assumption | omega) | (simp; omega)
      have gk : (List.map ec l).getD k [] = ec (l.getD k default) := getD_map _ _ _ hkl
      have hm : l.getD k default ∈ l := by
        rw [List.getD, List.getElem?_eq_getElem hkl]; exact List.getElem_mem _
      have htk : l.take (k + 1) = l.take k ++ [l.getD k default] := by
        rw [List.take_succ_eq_append_getElem hkl, List.getD, List.getElem?_eq_getElem hkl]; rfl
      have hd : l.drop k = l.getD k default :: l.drop (k + 1) := by
        rw [List.drop_eq_getElem_cons hkl, List.getD, List.getElem?_eq_getElem hkl]; rfl
      have hbd := badAt_drop l k hk hz
      rw [hd] at hbd
      have hlen := flatE_len (l.take k) fun x hx => hw x (List.mem_of_mem_take hx)
      rw [List.length_take] at hlen
      have hwa := hw _ hm
      have e1 := encode_ok _ hwa
      have ha2 := encB_len _ hwa
      clear hm hd
      generalize l.getD k default = a at *
      have hz1 : encE a = 0 → ∀ cap, (bytesF l.length 2 ++ (l.take (k + 1)).flatMap encB).length ≤ cap → _ := fun h0 cap h => ih (k + 1, cap) ⟨by dsimp only; omega, by
        intro x hx
        rw [htk, List.mem_append] at hx
        rcases hx with hx | hx
        · exact hz x hx
        · rw [List.mem_singleton.1 hx]; exact h0, h⟩ (by dsimp only; omega)
      dsimp only at hz1
      rw [htk, List.flatMap_append, List.flatMap_cons, List.flatMap_nil, List.append_nil, ← List.append_assoc] at hz1
      have hpl : (bytesF (l.length : Int) 2 ++ (l.take k).flatMap encB).length ≤ 2 + 2000 * 140 := by
        rw [List.length_append, bytesF_length]
        omega
      clear ih htk
      generalize bytesF (l.length : Int) 2 ++ (l.take k).flatMap encB = pre at *
      generalize encB a = ys at *
      refine hκ.run 300 ?_
      simp (disch := omega) only [push_cast, simprocAttr, q2, gk, tec, lec, oec, ones_ec]
      (repeat (refine ⟨by first | omega | (refine ⟨?_, ?_⟩ <;> omega) | trivial | (simp; done) | decide +kernel, fun _ => ?_⟩))
      rcases encE_or hwa with h0 | h0
      · rw [h0] at e1
        have hz1 := hz1 h0
        have et : List.take pre.length (List.map (eI .u8) pre) = List.map (eI .u8) pre := List.take_of_length_le (by simp)
        refine Does.ret hκ.hP hκ.hgl (e1) ⟨trivial, by first | (simp [SV.bnd, SV.bndL]; done) | (simp [SV.bnd, SV.bndL, ec_bnd]; done), by first | (simp [SV.bnd, SV.bndL]; done) | (simp [SV.bnd, SV.bndL, ec_bnd]; done) | assumption⟩ ?_
        refine hκ.run 300 ?_
        simp (disch := omega) only [push_cast, simprocAttr, q2, gk, tec, lec, oec, ones_ec]
        (repeat (refine ⟨by first | omega | (refine ⟨?_, ?_⟩ <;> omega) | trivial | (simp; done) | decide +kernel, fun _ => ?_⟩))
        intro c
        rw [et]
        have hy := hz1 (pre.length + ys.length + c) (by simp)
        simp only [List.length_append, List.length_cons, List.length_nil, List.length_singleton, List.length_map, List.length_set, List.length_replicate, Nat.zero_add, Nat.add_zero, Int.natCast_add, Int.natCast_one, Int.ofNat_eq_natCast, List.map_append, List.map_cons, List.map_nil, List.take_length, eI, eB] at hy ⊢
        refine Sat.via (fun i => if i = 1 then 3 else i) (hy) (by intro i j; (repeat (first | omega | split))) (by repeat' (first | exact EnvVia.nil | refine EnvVia.cons (by first | trivial | decide | (simp [SV.bnd, SV.bndL]; done)) rfl ?_)) (by repeat' (first | exact HeapVia.nil | refine HeapVia.cons (by decide) (by first | trivial | exact Blk.bnd_own0 (by assumption) | (simp [Blk.bnd, SV.bnd, SV.bndL]; done) | exact bndL_mapV _ _ _ | exact LR.bnd (by rw [l2]; simp [bndE, SV.bnd, SV.bndL]) (by rw [l6]; decide)) (by first | (rw [Blk.ren_own0 (by assumption)]; rfl) | rfl | (simp only [Blk.ren, renL_mapV]; rfl) | (rw [LR.ren (by rw [l2] <;> rfl) (by rw [l6] <;> rfl)]; rfl)) ?_)) ⟨by have := hκ.hm; (try dsimp only at this); (first | done | omega), fun i hi => by have := hκ.hm; (try dsimp only at this); (first | omega | (dsimp only; omega) | (rw [if_neg (by omega)]))⟩ ⟨by simp, rfl⟩
      · have hbk : badAt l = k := by rw [hbd, badAt, if_neg (by rw [h0]; decide), Nat.add_zero]
        rw [hE, hA, hbk, if_pos hkl, if_pos hkl, if_neg (show ¬(360 : Int) = 0 by decide)] at hκ
        rw [h0] at e1
        refine Does.ret hκ.hP hκ.hgl (e1) ⟨trivial, by first | (simp [SV.bnd, SV.bndL]; done) | (simp [SV.bnd, SV.bndL, ec_bnd]; done), by first | (simp [SV.bnd, SV.bndL]; done) | (simp [SV.bnd, SV.bndL, ec_bnd]; done) | assumption⟩ ?_
        refine hκ.run 300 ?_
        simp (disch := omega) only [push_cast, simprocAttr, q2, gk, tec, lec, oec, ones_ec]
        refine hκ.ret _ _ _ _ _ _ trivial rfl ?_
        exact Post.look (by simp [SV.bnd, SV.bndL]) (by repeat' (first | exact HeapVia.nil | refine HeapVia.cons (by decide) (by first | trivial | exact Blk.bnd_own0 (by assumption) | (simp [Blk.bnd, SV.bnd, SV.bndL]; done) | exact bndL_mapV _ _ _ | exact LR.bnd (by rw [l2]; simp [bndE, SV.bnd, SV.bndL]) (by rw [l6]; decide)) (by first | (rw [Blk.ren_own0 (by assumption)]; rfl) | rfl | (simp only [Blk.ren, renL_mapV]; rfl) | (rw [LR.ren (by rw [l2] <;> rfl) (by rw [l6] <;> rfl)]; rfl)) ?_))
    · obtain rfl : k = l.length := by omega
      have hbd := badAt_drop l l.length (Nat.le_refl _) hz
      rw [List.drop_length, badAt, Nat.add_zero] at hbd
      have hE0 : rowE l = 0 := by rw [hE, hbd, if_neg (Nat.lt_irrefl _)]
      have hA0 : rowAt l = 0 := by rw [hA, hbd, if_neg (Nat.lt_irrefl _)]
      rw [hE0, hA0, if_pos rfl] at hκ
      simp only [List.take_length] at *
      have q2 : ((l.length : Int) < l.length) = False := by first | (simp only [eq_iff_iff, iff_false]; first | assumption | omega) | (simp; omega)
      refine hκ.run 300 ?_
      simp (disch := omega) only [push_cast, simprocAttr, q2]
      have el : (bytesF (l.length : Int) 2).length + (l.flatMap encB).length = (bytesF (l.length : Int) 2 ++ l.flatMap encB).length := List.length_append.symm
      rw [el]
      generalize bytesF (l.length : Int) 2 ++ l.flatMap encB = out at *
      have et : List.take out.length (List.map (eI .u8) out) = List.map (eI .u8) out := List.take_of_length_le (by simp)
      refine hκ.ret _ _ _ _ _ _ trivial rfl ?_
      refine Post.frz [1] (by first | (simp [lendPL, lendP, lendSlP, dropL, Heap.get, Heap.drop, resV]; done) | (simp [lendPL, lendP, lendSlP, dropL, Heap.get, Heap.drop, resV]; omega) | (simp [lendPL, lendP, lendSlP, dropL, Heap.get, Heap.drop, resV, -List.length_eq_zero_iff]; omega)) ?_
      simp only [resV, lendL, lendS, lendSl, dropL, Heap.drop, Heap.get, List.mem_singleton, List.mem_cons, List.not_mem_nil, or_false, or_true, true_or, List.drop_zero, Nat.reduceEqDiff, Nat.one_ne_zero, Nat.zero_ne_one, ↓reduceIte, et]
      exact Post.look (by simp [SV.bnd, SV.bndL]) (by repeat' (first | exact HeapVia.nil | refine HeapVia.cons (by decide) (by first | trivial | exact Blk.bnd_own0 (by assumption) | (simp [Blk.bnd, SV.bnd, SV.bndL]; done) | exact bndL_mapV _ _ _ | exact LR.bnd (by rw [l2]; simp [bndE, SV.bnd, SV.bndL]) (by rw [l6]; decide)) (by first | (rw [Blk.ren_own0 (by assumption)]; rfl) | rfl | (simp only [Blk.ren, renL_mapV]; rfl) | (rw [LR.ren (by rw [l2] <;> rfl) (by rw [l6] <;> rfl)]; rfl)) ?_))
theorem dig2 (n : Int) : dig n 2 = bytesF n 2 := by
  simp only [dig, bytesF, Int.pow_one, Int.pow_zero, Int.ediv_one]
  have : n % 256 % 256 = n % 256 := by omega
  rw [this]
theorem rrowS_ok (l : List Evt) (cap : Nat) (hcl : l.length ≤ cap) (hw : ∀ a ∈ l, wf a) (hn : l.length < 2 ^ 40) : Con Try.prog gl0 (fnv 22) [.sl 0 29 0 l.length cap] 1 [(0, RwE l cap)] (RetS (.tup [By (rowB l), I (rowAt l), I (rowE l)]) [(0, RwE l cap)] 1) := by
  suffices H : Con Try.prog gl0 (fnv 22) [.sl 0 29 0 l.length cap] 1 [(0, RwE l cap)] (RetS (.tup [if rowE l = 0 then By (bytesF l.length 2 ++ l.flatMap encB) else .v (.slice none 0 0), I (rowAt l), I (rowE l)]) [(0, RwE l cap)] 1) by
    by_cases ho : rowE l = 0
    · rw [if_pos ho] at H; rw [rowB, if_pos ho]; exact H
    · rw [if_neg ho] at H; rw [rowB, if_neg ho]; exact Con.repS (fun ν => Rel.tupMap (RelL.mapHead fun _ => nil_rd)) H
  have hE : rowE l = if 2000 < l.length then 3 else if badAt l < l.length then 360 else 0 := rfl
  have hA : rowAt l = if 2000 < l.length then (0 : Int) else if badAt l < l.length then (badAt l : Int) else 0 := rfl
  by_cases h2 : 2000 < l.length
  · rw [if_pos h2] at hE hA
    rw [hE, hA, if_neg (show ¬(3 : Int) = 0 by decide)]
    have q1 : (2000 < (l.length : Int)) = True := by first | (simp only [eq_iff_iff, iff_true]; first | assumption | omega) | (simp; omega)
    refine Con.of Try.ok22 (nt := 32) (res := [.tmp 2, .tmp 3, .tmp 4]) Try.mixed Try.func22 rfl rfl rfl rfl fun κ xc hκ => hκ.run 300 ?_
    simp (disch := omega) only [push_cast, simprocAttr, q1]
    refine hκ.ret _ _ _ _ _ _ trivial rfl ?_
    exact Post.look (by simp [SV.bnd, SV.bndL]) (by repeat' (first | exact HeapVia.nil | refine HeapVia.cons (by decide) (by first | trivial | exact Blk.bnd_own0 (by assumption) | (simp [Blk.bnd, SV.bnd, SV.bndL]; done) | exact bndL_mapV _ _ _ | exact LR.bnd (by rw [l2]; simp [bndE, SV.bnd, SV.bndL]) (by rw [l6]; decide)) (by first | (rw [Blk.ren_own0 (by assumption)]; rfl) | rfl | (simp only [Blk.ren, renL_mapV]; rfl) | (rw [LR.ren (by rw [l2] <;> rfl) (by rw [l6] <;> rfl)]; rfl)) ?_))
  rw [if_neg h2] at hE hA
  have hp := num44_ok l.length 2 (by omega) (by decide)
  rw [dig2] at hp
  have q1 : (2000 < (l.length : Int)) = False := by first | (simp only [eq_iff_iff, iff_false]; first | assumption | omega) | (simp; omega)
  have w16 : IntKind.u64.wrap (l.length : Int) = l.length := by rw [wrap_u64_mod]; omega
  refine Con.of Try.ok22 (nt := 32) (res := [.tmp 2, .tmp 3, .tmp 4]) Try.mixed Try.func22 rfl rfl rfl rfl fun κ xc hκ => hκ.run 300 ?_
  simp (disch := omega) only [push_cast, simprocAttr, q1, w16, tec, lec, oec, ones_ec]
  refine Does.row hκ.hP hκ.hgl hp ⟨trivial, by simp [SV.bnd, SV.bndL]⟩ fun cap0 hcap0 => ?_
  rw [List.length_map, bytesF_length] at hcap0
  refine hκ.run 300 ?_
  simp (disch := omega) only [push_cast, simprocAttr, q1, w16, tec, lec, oec, ones_ec]
  refine Sat.less (Sat.loop (γ := Nat × Nat) (fun g => ([(17, I g.1), (16, I l.length), (15, .sl 0 29 0 l.length cap), (5, .sl 1 1 0 (bytesF l.length 2 ++ (l.take g.1).flatMap encB).length g.2)], [(0, RwE l cap), (1, .row 1 g.2 5 ((bytesF l.length 2 ++ (l.take g.1).flatMap encB).map (eI .u8)))], 2))
    (fun g => l.length - g.1) (fun g => g.1 ≤ l.length ∧ (∀ a ∈ l.take g.1, encE a = 0) ∧ (bytesF l.length 2 ++ (l.take g.1).flatMap encB).length ≤ g.2) ?round (0, cap0) ⟨Nat.zero_le _, by simp, by simpa [bytesF_length] using hcap0⟩) (by repeat' (first | exact EnvSub.nil _ | exact HeapSub.nil _ | refine EnvSub.cons rfl ?_ | refine HeapSub.cons rfl ?_ | (refine EnvSub.cons (by simp [Env.get]; done) ?_) | (refine HeapSub.cons (by simp [Heap.get]; done) ?_))) (by simp only [List.take_zero, List.flatMap_nil, List.append_nil]; exact (by repeat' (first | exact EnvSub.nil _ | exact HeapSub.nil _ | refine EnvSub.cons rfl ?_ | refine HeapSub.cons rfl ?_ | (refine EnvSub.cons (by simp [Env.get]; done) ?_) | (refine HeapSub.cons (by simp [Heap.get]; done) ?_))))
  case round =>
    rintro ⟨k, cp⟩ ⟨hk, hz, hcp⟩ ih
    dsimp only at hk hz hcp ih ⊢
    by_cases hkl : k < l.length
    · have q2 : ((k : Int) < l.length) = True := by first | (simp only [eq_iff_iff, iff_true]; first | assumption | omega) | (simp; omega)
      have gk : (List.map ec l).getD k [] = ec (l.getD k default) := getD_map _ _ _ hkl
      have hm : l.getD k default ∈ l := by
        rw [List.getD, List.getElem?_eq_getElem hkl]; exact List.getElem_mem _
      have htk : l.take (k + 1) = l.take k ++ [l.getD k default] := by
        rw [List.take_succ_eq_append_getElem hkl, List.getD, List.getElem?_eq_getElem hkl]; rfl
      have hd : l.drop k = l.getD k default :: l.drop (k + 1) := by
        rw [List.drop_eq_getElem_cons hkl, List.getD, List.getElem?_eq_getElem hkl]; rfl
      have hbd := badAt_drop l k hk hz
      rw [hd] at hbd
      have hlen := flatE_len (l.take k) fun x hx => hw x (List.mem_of_mem_take hx)
      rw [List.length_take] at hlen
      have hwa := hw _ hm
      have e1 := right_ok _ hwa
      have e2 := rbytes_ok _ hwa
      have ha2 := encB_len _ hwa
      clear hm hd
      generalize l.getD k default = a at *
      have hz1 : encE a = 0 → ∀ cap, (bytesF l.length 2 ++ (l.take (k + 1)).flatMap encB).length ≤ cap → _ := fun h0 cap h => ih (k + 1, cap) ⟨by dsimp only; omega, by
        intro x hx
        rw [htk, List.mem_append] at hx
        rcases hx with hx | hx
        · exact hz x hx
        · rw [List.mem_singleton.1 hx]; exact h0, h⟩ (by dsimp only; omega)
      dsimp only at hz1
      rw [htk, List.flatMap_append, List.flatMap_cons, List.flatMap_nil, List.append_nil, ← List.append_assoc] at hz1
      have hpl : (bytesF (l.length : Int) 2 ++ (l.take k).flatMap encB).length ≤ 2 + 2000 * 140 := by
        rw [List.length_append, bytesF_length]
        omega
      clear ih htk
      generalize bytesF (l.length : Int) 2 ++ (l.take k).flatMap encB = pre at *
      generalize encB a = ys at *
      refine hκ.run 300 ?_
      simp (disch := omega) only [push_cast, simprocAttr, q2, gk, tec, lec, oec, ones_ec]
      (repeat (refine ⟨by first | omega | (refine ⟨?_, ?_⟩ <;> omega) | trivial | (simp; done) | decide +kernel, fun _ => ?_⟩))
      rcases encE_or hwa with h0 | h0
      · rw [h0, decide_eq_true rfl] at e1
        have hz1 := hz1 h0
        have e2 := e2 h0
        have et : List.take pre.length (List.map (eI .u8) pre) = List.map (eI .u8) pre := List.take_of_length_le (by simp)
        have et2 : List.take ys.length (List.map (eI .u8) ys) = List.map (eI .u8) ys := List.take_of_length_le (by simp)
        refine Does.ret hκ.hP hκ.hgl (e1) ⟨trivial, by first | (simp [SV.bnd, SV.bndL]; done) | (simp [SV.bnd, SV.bndL, ec_bnd]; done), by first | (simp [SV.bnd, SV.bndL]; done) | (simp [SV.bnd, SV.bndL, ec_bnd]; done) | assumption⟩ ?_
        refine hκ.run 300 ?_
        simp (disch := omega) only [push_cast, simprocAttr, q2, gk, et, et2, tec, lec, oec, ones_ec]
        refine Does.row hκ.hP hκ.hgl e2 ⟨trivial, by simp [SV.bnd, SV.bndL, ec_bnd]⟩ fun cap1 hcap1 => ?_
        rw [List.length_map] at hcap1
        refine hκ.run 300 ?_
        simp (disch := omega) only [push_cast, simprocAttr, q2, gk, et, et2, tec, lec, oec, ones_ec]
        refine ⟨⟨⟨by omega, by omega, fun _ => by omega⟩, by omega, by omega, by omega⟩, fun _ => ?_⟩
        intro c
        have hy := hz1 (pre.length + ys.length + c) (by simp)
        simp only [List.length_append, List.length_cons, List.length_nil, List.length_singleton, List.length_map, List.length_set, List.length_replicate, Nat.zero_add, Nat.add_zero, Int.natCast_add, Int.natCast_one, Int.ofNat_eq_natCast, List.map_append, List.map_cons, List.map_nil, List.take_length, eI, eB] at hy ⊢
        refine Sat.via (fun i => if i = 1 then 4 else i) (hy) (by intro i j; (repeat (first | omega | split))) (by repeat' (first | exact EnvVia.nil | refine EnvVia.cons (by first | trivial | decide | (simp [SV.bnd, SV.bndL]; done)) rfl ?_)) (by repeat' (first | exact HeapVia.nil | refine HeapVia.cons (by decide) (by first | trivial | exact Blk.bnd_own0 (by assumption) | (simp [Blk.bnd, SV.bnd, SV.bndL]; done) | exact bndL_mapV _ _ _ | exact LR.bnd (by rw [l2]; simp [bndE, SV.bnd, SV.bndL]) (by rw [l6]; decide)) (by first | (rw [Blk.ren_own0 (by assumption)]; rfl) | rfl | (simp only [Blk.ren, renL_mapV]; rfl) | (rw [LR.ren (by rw [l2] <;> rfl) (by rw [l6] <;> rfl)]; rfl)) ?_)) ⟨by have := hκ.hm; (try dsimp only at this); (first | done | omega), fun i hi => by have := hκ.hm; (try dsimp only at this); (first | omega | (dsimp only; omega) | (rw [if_neg (by omega)]))⟩ ⟨by simp, rfl⟩
      · have hbk : badAt l = k := by rw [hbd, badAt, if_neg (by rw [h0]; decide), Nat.add_zero]
        rw [hE, hA, hbk, if_pos hkl, if_pos hkl, if_neg (show ¬(360 : Int) = 0 by decide)] at hκ
        rw [h0, decide_eq_false (by decide)] at e1
        refine Does.ret hκ.hP hκ.hgl (e1) ⟨trivial, by first | (simp [SV.bnd, SV.bndL]; done) | (simp [SV.bnd, SV.bndL, ec_bnd]; done), by first | (simp [SV.bnd, SV.bndL]; done) | (simp [SV.bnd, SV.bndL, ec_bnd]; done) | assumption⟩ ?_
        refine hκ.run 300 ?_
        simp (disch := omega) only [push_cast, simprocAttr, q2, gk, tec, lec, oec, ones_ec]
        refine hκ.ret _ _ _ _ _ _ trivial rfl ?_
        exact Post.look (by simp [SV.bnd, SV.bndL]) (by repeat' (first | exact HeapVia.nil | refine HeapVia.cons (by decide) (by first | trivial | exact Blk.bnd_own0 (by assumption) | (simp [Blk.bnd, SV.bnd, SV.bndL]; done) | exact bndL_mapV _ _ _ | exact LR.bnd (by rw [l2]; simp [bndE, SV.bnd, SV.bndL]) (by rw [l6]; decide)) (by first | (rw [Blk.ren_own0 (by assumption)]; rfl) | rfl | (simp only [Blk.ren, renL_mapV]; rfl) | (rw [LR.ren (by rw [l2] <;> rfl) (by rw [l6] <;> rfl)]; rfl)) ?_))
    · obtain rfl : k = l.length := by omega
      have hbd := badAt_drop l l.length (Nat.le_refl _) hz
      rw [List.drop_length, badAt, Nat.add_zero] at hbd
      have hE0 : rowE l = 0 := by rw [hE, hbd, if_neg (Nat.lt_irrefl _)]
      have hA0 : rowAt l = 0 := by rw [hA, hbd, if_neg (Nat.lt_irrefl _)]
      rw [hE0, hA0, if_pos rfl] at hκ
      simp only [List.take_length] at *
      have q2 : ((l.length : Int) < l.length) = False := by first | (simp only [eq_iff_iff, iff_false]; first | assumption | omega) | (simp; omega)
      refine hκ.run 300 ?_
      simp (disch := omega) only [push_cast, simprocAttr, q2]
      have el : (bytesF (l.length : Int) 2).length + (l.flatMap encB).length = (bytesF (l.length : Int) 2 ++ l.flatMap encB).length := List.length_append.symm
      rw [el]
      generalize bytesF (l.length : Int) 2 ++ l.flatMap encB = out at *
      have et : List.take out.length (List.map (eI .u8) out) = List.map (eI .u8) out := List.take_of_length_le (by simp)
      refine hκ.ret _ _ _ _ _ _ trivial rfl ?_
      refine Post.frz [1] (by first | (simp [lendPL, lendP, lendSlP, dropL, Heap.get, Heap.drop, resV]; done) | (simp [lendPL, lendP, lendSlP, dropL, Heap.get, Heap.drop, resV]; omega) | (simp [lendPL, lendP, lendSlP, dropL, Heap.get, Heap.drop, resV, -List.length_eq_zero_iff]; omega)) ?_
      simp only [resV, lendL, lendS, lendSl, dropL, Heap.drop, Heap.get, List.mem_singleton, List.mem_cons, List.not_mem_nil, or_false, or_true, true_or, List.drop_zero, Nat.reduceEqDiff, Nat.one_ne_zero, Nat.zero_ne_one, ↓reduceIte, et]
      exact Post.look (by simp [SV.bnd, SV.bndL]) (by repeat' (first | exact HeapVia.nil | refine HeapVia.cons (by decide) (by first | trivial | exact Blk.bnd_own0 (by assumption) | (simp [Blk.bnd, SV.bnd, SV.bndL]; done) | exact bndL_mapV _ _ _ | exact LR.bnd (by rw [l2]; simp [bndE, SV.bnd, SV.bndL]) (by rw [l6]; decide)) (by first | (rw [Blk.ren_own0 (by assumption)]; rfl) | rfl | (simp only [Blk.ren, renL_mapV]; rfl) | (rw [LR.ren (by rw [l2] <;> rfl) (by rw [l6] <;> rfl)]; rfl)) ?_))
end Go.Proofs.Ytmieikflcolbaaa
