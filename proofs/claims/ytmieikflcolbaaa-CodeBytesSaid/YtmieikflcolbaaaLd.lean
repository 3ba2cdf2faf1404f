/- CodeBytes: the walk of the law. No condition. -/
import Derived.Test.YtmieikflcolbaaaLa
import Derived.Test.YtmieikflcolbaaaRg
import Derived.Test.YtmieikflcolbaaaHq
namespace Go.Proofs.Ytmieikflcolbaaa
open Go Go.Sy
set_option maxRecDepth 100000
set_option linter.unusedSimpArgs false
set_option linter.unusedVariables false
set_option maxHeartbeats 4000000

def eBy (b : List Int) : List SV := [By b]
abbrev Bys (l : List (List Int)) : SV := .rd 1 (l.map eBy)
theorem wf_dec {b : List Int} (hb : isY b) : wf (decA b) := by
  by_cases h : decE b = 0
  · exact (enc_dec hb h).1
  · rw [(dec_err hb h).2]; exact wf_ev0
theorem getD_mem' {α : Type} [Inhabited α] {l : List α} {k : Nat} (h : k < l.length) : l.getD k default ∈ l := by
  rw [List.getD, List.getElem?_eq_getElem h]; exact List.getElem_mem _
theorem bytes_law (rs : List (List Int)) (hr : ∀ b ∈ rs, isY b ∧ b.length < 2 ^ 47) (hn2 : rs.length < 2 ^ 62) : Law Try.prog gl0 3 [Bys rs] := by
  refine Law.of (nt := 67) (res := [.tmp 2]) Try.mixed Try.func3 rfl rfl rfl rfl fun κ xc hκ => hκ.run 300 ?_
  simp (disch := omega) only [push_cast, simprocAttr, tec, lec, oec, oec2, ones_ec]
  refine Does.ret hκ.hP hκ.hgl (wakes_ok) ⟨trivial, by first | (simp [SV.bnd, SV.bndL]; done) | (simp [SV.bnd, SV.bndL, ec_bnd]; done), by first | (simp [SV.bnd, SV.bndL]; done) | (simp [SV.bnd, SV.bndL, ec_bnd]; done) | assumption⟩ ?_
  refine hκ.run 300 ?_
  simp (disch := omega) only [push_cast, simprocAttr, tec, lec, oec, oec2, ones_ec]
  refine Sat.less (Sat.loop (γ := Nat) (fun k => ([(15, I k), (14, I rs.length), (13, Bys rs)], [], 0)) (fun k => rs.length - k) (fun k => k ≤ rs.length) ?rows 0 (Nat.zero_le _)) (by repeat' (first | exact EnvSub.nil _ | exact HeapSub.nil _ | refine EnvSub.cons rfl ?_ | refine HeapSub.cons rfl ?_ | (refine EnvSub.cons (by simp [Env.get]; done) ?_) | (refine HeapSub.cons (by simp [Heap.get]; done) ?_))) (by repeat' (first | exact EnvSub.nil _ | exact HeapSub.nil _ | refine EnvSub.cons rfl ?_ | refine HeapSub.cons rfl ?_ | (refine EnvSub.cons (by simp [Env.get]; done) ?_) | (refine HeapSub.cons (by simp [Heap.get]; done) ?_)))
  case rows =>
    intro k hk ih
    dsimp only at hk ih ⊢
    by_cases hkl : k < rs.length
    · have q0 : ((k : Int) < rs.length) = True := by first | (simp only [eq_iff_iff, iff_true]; first | assumption | omega) | (simp; omega)
      have hz := ih (k + 1) (by omega) (by omega)
      clear ih
      have hx := hr _ (getD_mem' hkl)
      have gk : (List.map eBy rs).getD k [] = eBy (rs.getD k default) := getD_map _ _ _ (by omega)
      generalize rs.getD k default = x at gk hx
      rw [eBy] at gk
      by_cases h20 : k = 16
      · have e0 : ((k : Int) = 16) = True := by first | (simp only [eq_iff_iff, iff_true]; first | assumption | omega) | (simp; omega)
        refine hκ.run 300 ?_
        simp (disch := omega) only [push_cast, simprocAttr, e0, q0, gk]
        (repeat (refine ⟨by first | omega | (refine ⟨?_, ?_⟩ <;> omega) | trivial | (simp; done) | decide +kernel, fun _ => ?_⟩))
        refine hκ.ret _ _ _ _ _ _ trivial rfl ?_
        rfl
      have e0 : ((k : Int) = 16) = False := by first | (simp only [eq_iff_iff, iff_false]; first | assumption | omega) | (simp; omega)
      have etk : List.take (min (x.length : Int) 300).toNat (List.map (eI .u8) x) = List.map (eI .u8) (x.take 300) := by
        rw [List.map_take, show (min (x.length : Int) 300).toNat = min 300 (List.map (eI .u8) x).length by rw [List.length_map]; omega, ← List.take_take, List.take_length]
      have hyB : isY (x.take 300) := fun b hb => hx.1 b (List.mem_of_mem_take hb)
      have hyl : (x.take 300).length ≤ 300 := by rw [List.length_take]; omega
      generalize x.take 300 = y at etk hyB hyl
      have cS := fun cap hc => decodeS_ok y cap hc hyB (by omega)
      have c2 := rdecode_ok y hyB (by omega)
      have c3 := rsame_ok (decA y) (decA y) (wf_dec hyB) (wf_dec hyB)
      rw [(same_iff (wf_dec hyB) (wf_dec hyB)).2 rfl] at c3
      generalize decA y = d at cS c2 c3
      generalize decE y = e at cS c2
      have ety : List.take y.length (List.map (eI .u8) y) = List.map (eI .u8) y := List.take_of_length_le (by simp)
      refine hκ.run 300 ?_
      simp (disch := omega) only [push_cast, simprocAttr, e0, q0, gk, etk, ety, tec, lec, oec, oec2, ones_ec]
      (repeat (refine ⟨by first | omega | (refine ⟨?_, ?_⟩ <;> omega) | trivial | (simp; done) | decide +kernel, fun _ => ?_⟩))
      intro cp
      refine (Does.look hκ.hP hκ.hgl 1 (fun _ => 1) [1] [.sl 0 1 0 y.length (y.length + cp)] [(0, RwB y (y.length + cp))] (cS (y.length + cp) (by omega)) rfl ⟨trivial, by simp [SV.bnd, SV.bndL, ec_bnd], by simp [SV.bnd, SV.bndL, ec_bnd]⟩ (by intro i hi; (repeat (first | omega | (dsimp only; omega) | split))) (by intro i j; (repeat (first | omega | split))) (by repeat' (first | exact HeapIn.nil | refine HeapIn.cons (by decide) (by simp [Blk.bnd, SV.bnd, SV.bndL, ec_bnd]) (by simp) rfl ?_)) (by repeat' (first | exact Once.nil | refine Once.cons (by simp) ?_)) ?_)
      simp only [renH, Blk.ren, SV.renL, SV.ren, tau, without, List.mem_singleton, List.mem_cons, List.not_mem_nil, or_false, or_true, true_or, Nat.reduceEqDiff, Nat.reduceLT, Nat.zero_lt_one, Nat.one_ne_zero, Nat.zero_ne_one, Nat.zero_lt_succ, ↓reduceIte, List.cons_append, List.nil_append, List.append_nil]
      refine hκ.run 300 ?_
      simp (disch := omega) only [push_cast, simprocAttr, e0, q0, gk, etk, ety, tec, lec, oec, oec2, ones_ec]
      (repeat (refine ⟨by first | omega | (refine ⟨?_, ?_⟩ <;> omega) | trivial | (simp; done) | decide +kernel, fun _ => ?_⟩))
      intro cq
      refine Does.frz [4] ⟨trivial, rfl⟩ (by first | (simp [lendPL, lendP, lendSlP, Heap.get]; done) | (simp only [lendPL, lendP, lendSlP, Heap.get, List.mem_singleton, List.mem_cons, List.not_mem_nil, or_false, or_true, true_or, Nat.reduceEqDiff, Nat.one_ne_zero, Nat.zero_ne_one, ↓reduceIte, and_true, true_and, List.length_map, List.length_append, List.length_cons, List.length_nil, List.length_replicate]; omega)) ?_
      simp only [lendL, lendS, lendSl, Heap.get, without, List.mem_singleton, List.mem_cons, List.not_mem_nil, or_false, or_true, true_or, List.drop_zero, List.take_length, List.take_succ_cons, List.take_zero, Nat.reduceAdd, Nat.reduceEqDiff, Nat.one_ne_zero, Nat.zero_ne_one, ↓reduceIte]
      rw [ety]
      refine Does.ret hκ.hP hκ.hgl (c2) ⟨trivial, by first | (simp [SV.bnd, SV.bndL]; done) | (simp [SV.bnd, SV.bndL, ec_bnd]; done), by first | (simp [SV.bnd, SV.bndL]; done) | (simp [SV.bnd, SV.bndL, ec_bnd]; done) | assumption⟩ ?_
      refine hκ.run 300 ?_
      simp (disch := omega) only [push_cast, simprocAttr, e0, q0, gk, etk, ety, tec, lec, oec, oec2, ones_ec]
      refine Does.ret hκ.hP hκ.hgl (c3) ⟨trivial, by first | (simp [SV.bnd, SV.bndL]; done) | (simp [SV.bnd, SV.bndL, ec_bnd]; done), by first | (simp [SV.bnd, SV.bndL]; done) | (simp [SV.bnd, SV.bndL, ec_bnd]; done) | assumption⟩ ?_
      refine hκ.run 300 ?_
      simp (disch := omega) only [push_cast, simprocAttr, e0, q0, gk, etk, ety, tec, lec, oec, oec2, ones_ec]
      refine Sat.less (Sat.loop (γ := Nat × List Int) (fun g => ([(52, I g.1), (51, I y.length), (5, .sl 1 1 0 y.length (y.length + cp)), (8, .ptr 5 0 0 0), (6, .ptr 2 0 0 0), (15, I k), (14, I rs.length), (13, Bys rs)], [(5, .own (ec d) 37), (2, .own (ec d) 37), (1, RwB g.2 (y.length + cp))], 6)) (fun g => y.length - g.1)
        (fun g => g.1 ≤ y.length ∧ g.2.length = y.length) ?round2 (0, y) ⟨Nat.zero_le _, rfl⟩) (by repeat' (first | exact EnvSub.nil _ | exact HeapSub.nil _ | refine EnvSub.cons rfl ?_ | refine HeapSub.cons rfl ?_ | (refine EnvSub.cons (by simp [Env.get]; done) ?_) | (refine HeapSub.cons (by simp [Heap.get]; done) ?_))) (by repeat' (first | exact EnvSub.nil _ | exact HeapSub.nil _ | refine EnvSub.cons rfl ?_ | refine HeapSub.cons rfl ?_ | (refine EnvSub.cons (by simp [Env.get]; done) ?_) | (refine HeapSub.cons (by simp [Heap.get]; done) ?_)))
      case round2 =>
        rintro ⟨j, r⟩ ⟨hj, hr⟩ ih2
        dsimp only at hj hr ih2 ⊢
        by_cases hjl : j < y.length
        · have q2 : ((j : Int) < y.length) = True := by first | (simp only [eq_iff_iff, iff_true]; first | assumption | omega) | (simp; omega)
          have gj : (List.map (eI .u8) r).getD j [] = eI .u8 (r.getD j default) := getD_map _ _ _ (by omega)
          refine hκ.run 300 ?_
          simp (disch := omega) only [push_cast, simprocAttr, q2, gj, tec, lec, oec, oec2, ones_ec]
          have hw := ih2 (j + 1, r.set j (ibits .xor .u8 (r.getD j default) 238)) ⟨by omega, by simp [hr]⟩ (by dsimp only; omega)
          dsimp only at hw
          have e1 : (r.set j (ibits .xor .u8 (r.getD j default) 238)).map (eI .u8) = (r.map (eI .u8)).set j [.v (.int .u8 (ibits .xor .u8 (r.getD j default) 238))] := by rw [List.map_set]; rfl
          simp only [RwB, e1] at hw
          (repeat (refine ⟨by first | omega | (refine ⟨?_, ?_⟩ <;> omega) | trivial | (simp; done) | decide +kernel, fun _ => ?_⟩))
          exact hw.less (by repeat' (first | exact EnvSub.nil _ | exact HeapSub.nil _ | refine EnvSub.cons rfl ?_ | refine HeapSub.cons rfl ?_ | (refine EnvSub.cons (by simp [Env.get]; done) ?_) | (refine HeapSub.cons (by simp [Heap.get]; done) ?_))) (by repeat' (first | exact EnvSub.nil _ | exact HeapSub.nil _ | refine EnvSub.cons rfl ?_ | refine HeapSub.cons rfl ?_ | (refine EnvSub.cons (by simp [Env.get]; done) ?_) | (refine HeapSub.cons (by simp [Heap.get]; done) ?_)))
        · have q2 : ((j : Int) < y.length) = False := by first | (simp only [eq_iff_iff, iff_false]; first | assumption | omega) | (simp; omega)
          refine hκ.run 300 ?_
          simp (disch := omega) only [push_cast, simprocAttr, q2, tec, lec, oec, oec2, ones_ec]
          refine Does.ret hκ.hP hκ.hgl (c3) ⟨trivial, by first | (simp [SV.bnd, SV.bndL]; done) | (simp [SV.bnd, SV.bndL, ec_bnd]; done), by first | (simp [SV.bnd, SV.bndL]; done) | (simp [SV.bnd, SV.bndL, ec_bnd]; done) | assumption⟩ ?_
          refine hκ.run 300 ?_
          simp (disch := omega) only [push_cast, simprocAttr, q2, tec, lec, oec, oec2, ones_ec]
          refine Sat.via (fun i => i) (hz) (by intro i j; (repeat (first | omega | split))) (by repeat' (first | exact EnvVia.nil | refine EnvVia.cons (by first | trivial | decide | (simp [SV.bnd, SV.bndL]; done)) rfl ?_)) (by repeat' (first | exact HeapVia.nil | refine HeapVia.cons (by decide) (by first | trivial | exact Blk.bnd_own0 (by assumption) | (simp [Blk.bnd, SV.bnd, SV.bndL]; done) | exact bndL_mapV _ _ _ | exact LR.bnd (by rw [l2]; simp [bndE, SV.bnd, SV.bndL]) (by rw [l6]; decide)) (by first | (rw [Blk.ren_own0 (by assumption)]; rfl) | rfl | (simp only [Blk.ren, renL_mapV]; rfl) | (rw [LR.ren (by rw [l2] <;> rfl) (by rw [l6] <;> rfl)]; rfl)) ?_)) ⟨by have := hκ.hm; (try dsimp only at this); (first | done | omega), fun i hi => by have := hκ.hm; (try dsimp only at this); (first | omega | (dsimp only; omega) | (rw [if_neg (by omega)]))⟩ ⟨by simp, rfl⟩
    · have q0 : ((k : Int) < rs.length) = False := by first | (simp only [eq_iff_iff, iff_false]; first | assumption | omega) | (simp; omega)
      refine hκ.run 300 ?_
      simp (disch := omega) only [push_cast, simprocAttr, q0]
      refine hκ.ret _ _ _ _ _ _ trivial rfl ?_
      rfl
end Go.Proofs.Ytmieikflcolbaaa
