/- Which events are the same. No condition. Printed by gen_hc.py. -/
import Derived.Test.YtmieikflcolbaaaHb
namespace Go.Proofs.Ytmieikflcolbaaa
open Go Go.Sy
set_option maxRecDepth 100000
set_option linter.unusedSimpArgs false
set_option linter.unusedVariables false
set_option maxHeartbeats 4000000
theorem ones_cE (x : Evt) : ones (cE x) := ⟨rfl, rfl, rfl, rfl, rfl, trivial, rfl, rfl, rfl, rfl, rfl, rfl, rfl, rfl, trivial⟩
theorem ones_hE (x : Evt) : ones (hE x) := ⟨rfl, rfl, rfl, rfl, rfl, rfl, rfl, rfl, rfl, rfl, rfl, rfl, trivial, trivial⟩
theorem same_ok (a b : Evt) (ha : a.2.1.length < 2 ^ 40 ∧ a.2.2.length < 2 ^ 40) : Con Try.prog gl0 (fnv 16) [Ev a, Ev b] 0 [] (Ret (Bo (sameE a b))) := by
  have ca : cut (ec a) 1 14 = some (cE a) := rfl
  have cb : cut (ec b) 1 14 = some (cE b) := rfl
  have da : cut (ec a) 15 13 = some (hE a) := rfl
  have db : cut (ec b) 15 13 = some (hE b) := rfl
  have oc : ∀ x, over [I 0, I 0, I 0, I 0, Bo false, .v (.slice none 0 0), I 0, I 0, I 0, I 0, I 0, I 0, U 0, U 0] (cE x) = some (cE x) := fun _ => rfl
  have b1 : SV.bndL 0 (ec a) := ec_bnd _ _
  have b2 : SV.bndL 0 (ec b) := ec_bnd _ _
  have b3 : SV.bndL 0 (cE a) := by simp [cE, SV.bndL, SV.bnd]
  have b4 : SV.bndL 0 (cE b) := by simp [cE, SV.bndL, SV.bnd]
  have b5 : SV.bndL 0 (hE a) := by simp [hE, SV.bndL, SV.bnd]
  have b6 : SV.bndL 0 (hE b) := by simp [hE, SV.bndL, SV.bnd]
  have lc : ∀ x, (cE x).length = 14 := fun _ => rfl
  have lh : ∀ x, (hE x).length = 13 := fun _ => rfl
  have oh : ∀ x, over [I 0, I 0, I 0, I 0, I 0, I 0, I 0, I 0, I 0, U 0, U 0, U 0, .v (.slice none 0 0)] (hE x) = some (hE x) := fun _ => rfl
  refine Con.of Try.ok16 (nt := 189) (res := [.tmp 4]) Try.mixed Try.func16 rfl rfl rfl rfl fun κ xc hκ => hκ.runD 300 ?_
  simp (disch := omega) only [push_cast, simprocAttr, ca, cb, da, db, oc, oh, ones_cE, ones_hE, lc, lh]
  apply Sat.join (α := Unit) (nx := 6) (dfs := []) (fun _ => True) (fun _ => ([(8, .ptr 5 0 0 0), (7, .ptr 4 0 0 0), (6, .ptr 3 0 0 0), (5, .ptr 2 0 0 0), (3, .ptr 1 0 0 0), (2, .ptr 0 0 0 0)], [(5, .own (hE b) 35), (4, .own (hE a) 35), (3, .own (cE b) 33), (2, .own (cE a) 33), (1, .own (ec b) 37), (0, .own (ec a) 37)]))
  · intro hj
    have hj := hj () trivial
    dsimp only at hj
    refine hκ.draw (.q 0 (.q 1 (.q 2 (.q 3 (.q 4 (.q 5 (.q 6 (.q 7 (.or (.m 8 [1, 3, 5, 7] (.or (.m 9 [1, 3, 5, 7] (.or (.m 10 [1, 3, 5, 7] (.l 11 [1, 3, 5, 7] (.l 12 [3, 5, 7] (.l 13 [5, 7] (.l 14 [7] (.l 15 [] (.fin))))))) (.m 11 [1, 3, 5, 7] (.l 10 [1, 3, 5, 7] (.l 12 [3, 5, 7] (.l 13 [5, 7] (.l 14 [7] (.l 15 [] (.fin))))))))) (.or (.m 10 [1, 3, 5, 7] (.or (.m 9 [1, 3, 5, 7] (.l 11 [1, 3, 5, 7] (.l 12 [3, 5, 7] (.l 13 [5, 7] (.l 14 [7] (.l 15 [] (.fin))))))) (.m 11 [1, 3, 5, 7] (.l 9 [1, 3, 5, 7] (.l 12 [3, 5, 7] (.l 13 [5, 7] (.l 14 [7] (.l 15 [] (.fin))))))))) (.m 11 [1, 3, 5, 7] (.or (.m 9 [1, 3, 5, 7] (.l 10 [1, 3, 5, 7] (.l 12 [3, 5, 7] (.l 13 [5, 7] (.l 14 [7] (.l 15 [] (.fin))))))) (.m 10 [1, 3, 5, 7] (.l 9 [1, 3, 5, 7] (.l 12 [3, 5, 7] (.l 13 [5, 7] (.l 14 [7] (.l 15 [] (.fin)))))))))))) (.or (.m 9 [1, 3, 5, 7] (.or (.m 8 [1, 3, 5, 7] (.or (.m 10 [1, 3, 5, 7] (.l 11 [1, 3, 5, 7] (.l 12 [3, 5, 7] (.l 13 [5, 7] (.l 14 [7] (.l 15 [] (.fin))))))) (.m 11 [1, 3, 5, 7] (.l 10 [1, 3, 5, 7] (.l 12 [3, 5, 7] (.l 13 [5, 7] (.l 14 [7] (.l 15 [] (.fin))))))))) (.or (.m 10 [1, 3, 5, 7] (.or (.m 8 [1, 3, 5, 7] (.l 11 [1, 3, 5, 7] (.l 12 [3, 5, 7] (.l 13 [5, 7] (.l 14 [7] (.l 15 [] (.fin))))))) (.m 11 [1, 3, 5, 7] (.l 8 [1, 3, 5, 7] (.l 12 [3, 5, 7] (.l 13 [5, 7] (.l 14 [7] (.l 15 [] (.fin))))))))) (.m 11 [1, 3, 5, 7] (.or (.m 8 [1, 3, 5, 7] (.l 10 [1, 3, 5, 7] (.l 12 [3, 5, 7] (.l 13 [5, 7] (.l 14 [7] (.l 15 [] (.fin))))))) (.m 10 [1, 3, 5, 7] (.l 8 [1, 3, 5, 7] (.l 12 [3, 5, 7] (.l 13 [5, 7] (.l 14 [7] (.l 15 [] (.fin)))))))))))) (.or (.m 10 [1, 3, 5, 7] (.or (.m 8 [1, 3, 5, 7] (.or (.m 9 [1, 3, 5, 7] (.l 11 [1, 3, 5, 7] (.l 12 [3, 5, 7] (.l 13 [5, 7] (.l 14 [7] (.l 15 [] (.fin))))))) (.m 11 [1, 3, 5, 7] (.l 9 [1, 3, 5, 7] (.l 12 [3, 5, 7] (.l 13 [5, 7] (.l 14 [7] (.l 15 [] (.fin))))))))) (.or (.m 9 [1, 3, 5, 7] (.or (.m 8 [1, 3, 5, 7] (.l 11 [1, 3, 5, 7] (.l 12 [3, 5, 7] (.l 13 [5, 7] (.l 14 [7] (.l 15 [] (.fin))))))) (.m 11 [1, 3, 5, 7] (.l 8 [1, 3, 5, 7] (.l 12 [3, 5, 7] (.l 13 [5, 7] (.l 14 [7] (.l 15 [] (.fin))))))))) (.m 11 [1, 3, 5, 7] (.or (.m 8 [1, 3, 5, 7] (.l 9 [1, 3, 5, 7] (.l 12 [3, 5, 7] (.l 13 [5, 7] (.l 14 [7] (.l 15 [] (.fin))))))) (.m 9 [1, 3, 5, 7] (.l 8 [1, 3, 5, 7] (.l 12 [3, 5, 7] (.l 13 [5, 7] (.l 14 [7] (.l 15 [] (.fin)))))))))))) (.m 11 [1, 3, 5, 7] (.or (.m 8 [1, 3, 5, 7] (.or (.m 9 [1, 3, 5, 7] (.l 10 [1, 3, 5, 7] (.l 12 [3, 5, 7] (.l 13 [5, 7] (.l 14 [7] (.l 15 [] (.fin))))))) (.m 10 [1, 3, 5, 7] (.l 9 [1, 3, 5, 7] (.l 12 [3, 5, 7] (.l 13 [5, 7] (.l 14 [7] (.l 15 [] (.fin))))))))) (.or (.m 9 [1, 3, 5, 7] (.or (.m 8 [1, 3, 5, 7] (.l 10 [1, 3, 5, 7] (.l 12 [3, 5, 7] (.l 13 [5, 7] (.l 14 [7] (.l 15 [] (.fin))))))) (.m 10 [1, 3, 5, 7] (.l 8 [1, 3, 5, 7] (.l 12 [3, 5, 7] (.l 13 [5, 7] (.l 14 [7] (.l 15 [] (.fin))))))))) (.m 10 [1, 3, 5, 7] (.or (.m 8 [1, 3, 5, 7] (.l 9 [1, 3, 5, 7] (.l 12 [3, 5, 7] (.l 13 [5, 7] (.l 14 [7] (.l 15 [] (.fin))))))) (.m 9 [1, 3, 5, 7] (.l 8 [1, 3, 5, 7] (.l 12 [3, 5, 7] (.l 13 [5, 7] (.l 14 [7] (.l 15 [] (.fin))))))))))))))))))))))) [0, 1, 2, 3, 4, 5, 6, 7] (by kernel_rfl) (by kernel_rfl) rfl ?_
    simp (disch := omega) only [push_cast, simprocAttr, ca, cb, da, db, oc, oh, ones_cE, ones_hE, lc, lh]
    repeat' (refine And.intro ?_ ?_)
    · refine Sat.via (fun i => if i = 2 then 2 else if i = 3 then 3 else if i = 4 then 4 else if i = 5 then 5 else i) (hj) (by intro i j; (repeat (first | omega | split))) (by repeat' (first | exact EnvVia.nil | refine EnvVia.cons (by first | trivial | decide | (simp [SV.bnd, SV.bndL]; done)) rfl ?_)) (by repeat' (first | exact HeapVia.nil | refine HeapVia.cons (by decide) (by first | trivial | exact Blk.bnd_own0 (by assumption) | (simp [Blk.bnd, SV.bnd, SV.bndL]; done) | exact bndL_mapV _ _ _ | exact LR.bnd (by rw [l2]; simp [bndE, SV.bnd, SV.bndL]) (by rw [l6]; decide)) (by first | (rw [Blk.ren_own0 (by assumption)]; rfl) | rfl | (simp only [Blk.ren, renL_mapV]; rfl) | (rw [LR.ren (by rw [l2] <;> rfl) (by rw [l6] <;> rfl)]; rfl)) ?_)) ⟨by have := hκ.hm; (try dsimp only at this); (first | done | omega), fun i hi => by have := hκ.hm; (try dsimp only at this); (first | omega | (dsimp only; omega) | (rw [if_neg (by omega)]))⟩ ⟨by simp, rfl⟩
    · refine Sat.via (fun i => if i = 2 then 2 else if i = 3 then 3 else if i = 4 then 5 else if i = 5 then 4 else i) (hj) (by intro i j; (repeat (first | omega | split))) (by repeat' (first | exact EnvVia.nil | refine EnvVia.cons (by first | trivial | decide | (simp [SV.bnd, SV.bndL]; done)) rfl ?_)) (by repeat' (first | exact HeapVia.nil | refine HeapVia.cons (by decide) (by first | trivial | exact Blk.bnd_own0 (by assumption) | (simp [Blk.bnd, SV.bnd, SV.bndL]; done) | exact bndL_mapV _ _ _ | exact LR.bnd (by rw [l2]; simp [bndE, SV.bnd, SV.bndL]) (by rw [l6]; decide)) (by first | (rw [Blk.ren_own0 (by assumption)]; rfl) | rfl | (simp only [Blk.ren, renL_mapV]; rfl) | (rw [LR.ren (by rw [l2] <;> rfl) (by rw [l6] <;> rfl)]; rfl)) ?_)) ⟨by have := hκ.hm; (try dsimp only at this); (first | done | omega), fun i hi => by have := hκ.hm; (try dsimp only at this); (first | omega | (dsimp only; omega) | (rw [if_neg (by omega)]))⟩ ⟨by simp, rfl⟩
    · refine Sat.via (fun i => if i = 2 then 2 else if i = 3 then 4 else if i = 4 then 3 else if i = 5 then 5 else i) (hj) (by intro i j; (repeat (first | omega | split))) (by repeat' (first | exact EnvVia.nil | refine EnvVia.cons (by first | trivial | decide | (simp [SV.bnd, SV.bndL]; done)) rfl ?_)) (by repeat' (first | exact HeapVia.nil | refine HeapVia.cons (by decide) (by first | trivial | exact Blk.bnd_own0 (by assumption) | (simp [Blk.bnd, SV.bnd, SV.bndL]; done) | exact bndL_mapV _ _ _ | exact LR.bnd (by rw [l2]; simp [bndE, SV.bnd, SV.bndL]) (by rw [l6]; decide)) (by first | (rw [Blk.ren_own0 (by assumption)]; rfl) | rfl | (simp only [Blk.ren, renL_mapV]; rfl) | (rw [LR.ren (by rw [l2] <;> rfl) (by rw [l6] <;> rfl)]; rfl)) ?_)) ⟨by have := hκ.hm; (try dsimp only at this); (first | done | omega), fun i hi => by have := hκ.hm; (try dsimp only at this); (first | omega | (dsimp only; omega) | (rw [if_neg (by omega)]))⟩ ⟨by simp, rfl⟩
    · refine Sat.via (fun i => if i = 2 then 2 else if i = 3 then 5 else if i = 4 then 3 else if i = 5 then 4 else i) (hj) (by intro i j; (repeat (first | omega | split))) (by repeat' (first | exact EnvVia.nil | refine EnvVia.cons (by first | trivial | decide | (simp [SV.bnd, SV.bndL]; done)) rfl ?_)) (by repeat' (first | exact HeapVia.nil | refine HeapVia.cons (by decide) (by first | trivial | exact Blk.bnd_own0 (by assumption) | (simp [Blk.bnd, SV.bnd, SV.bndL]; done) | exact bndL_mapV _ _ _ | exact LR.bnd (by rw [l2]; simp [bndE, SV.bnd, SV.bndL]) (by rw [l6]; decide)) (by first | (rw [Blk.ren_own0 (by assumption)]; rfl) | rfl | (simp only [Blk.ren, renL_mapV]; rfl) | (rw [LR.ren (by rw [l2] <;> rfl) (by rw [l6] <;> rfl)]; rfl)) ?_)) ⟨by have := hκ.hm; (try dsimp only at this); (first | done | omega), fun i hi => by have := hκ.hm; (try dsimp only at this); (first | omega | (dsimp only; omega) | (rw [if_neg (by omega)]))⟩ ⟨by simp, rfl⟩
    · refine Sat.via (fun i => if i = 2 then 2 else if i = 3 then 4 else if i = 4 then 5 else if i = 5 then 3 else i) (hj) (by intro i j; (repeat (first | omega | split))) (by repeat' (first | exact EnvVia.nil | refine EnvVia.cons (by first | trivial | decide | (simp [SV.bnd, SV.bndL]; done)) rfl ?_)) (by repeat' (first | exact HeapVia.nil | refine HeapVia.cons (by decide) (by first | trivial | exact Blk.bnd_own0 (by assumption) | (simp [Blk.bnd, SV.bnd, SV.bndL]; done) | exact bndL_mapV _ _ _ | exact LR.bnd (by rw [l2]; simp [bndE, SV.bnd, SV.bndL]) (by rw [l6]; decide)) (by first | (rw [Blk.ren_own0 (by assumption)]; rfl) | rfl | (simp only [Blk.ren, renL_mapV]; rfl) | (rw [LR.ren (by rw [l2] <;> rfl) (by rw [l6] <;> rfl)]; rfl)) ?_)) ⟨by have := hκ.hm; (try dsimp only at this); (first | done | omega), fun i hi => by have := hκ.hm; (try dsimp only at this); (first | omega | (dsimp only; omega) | (rw [if_neg (by omega)]))⟩ ⟨by simp, rfl⟩
    · refine Sat.via (fun i => if i = 2 then 2 else if i = 3 then 5 else if i = 4 then 4 else if i = 5 then 3 else i) (hj) (by intro i j; (repeat (first | omega | split))) (by repeat' (first | exact EnvVia.nil | refine EnvVia.cons (by first | trivial | decide | (simp [SV.bnd, SV.bndL]; done)) rfl ?_)) (by repeat' (first | exact HeapVia.nil | refine HeapVia.cons (by decide) (by first | trivial | exact Blk.bnd_own0 (by assumption) | (simp [Blk.bnd, SV.bnd, SV.bndL]; done) | exact bndL_mapV _ _ _ | exact LR.bnd (by rw [l2]; simp [bndE, SV.bnd, SV.bndL]) (by rw [l6]; decide)) (by first | (rw [Blk.ren_own0 (by assumption)]; rfl) | rfl | (simp only [Blk.ren, renL_mapV]; rfl) | (rw [LR.ren (by rw [l2] <;> rfl) (by rw [l6] <;> rfl)]; rfl)) ?_)) ⟨by have := hκ.hm; (try dsimp only at this); (first | done | omega), fun i hi => by have := hκ.hm; (try dsimp only at this); (first | omega | (dsimp only; omega) | (rw [if_neg (by omega)]))⟩ ⟨by simp, rfl⟩
    · refine Sat.via (fun i => if i = 2 then 3 else if i = 3 then 2 else if i = 4 then 4 else if i = 5 then 5 else i) (hj) (by intro i j; (repeat (first | omega | split))) (by repeat' (first | exact EnvVia.nil | refine EnvVia.cons (by first | trivial | decide | (simp [SV.bnd, SV.bndL]; done)) rfl ?_)) (by repeat' (first | exact HeapVia.nil | refine HeapVia.cons (by decide) (by first | trivial | exact Blk.bnd_own0 (by assumption) | (simp [Blk.bnd, SV.bnd, SV.bndL]; done) | exact bndL_mapV _ _ _ | exact LR.bnd (by rw [l2]; simp [bndE, SV.bnd, SV.bndL]) (by rw [l6]; decide)) (by first | (rw [Blk.ren_own0 (by assumption)]; rfl) | rfl | (simp only [Blk.ren, renL_mapV]; rfl) | (rw [LR.ren (by rw [l2] <;> rfl) (by rw [l6] <;> rfl)]; rfl)) ?_)) ⟨by have := hκ.hm; (try dsimp only at this); (first | done | omega), fun i hi => by have := hκ.hm; (try dsimp only at this); (first | omega | (dsimp only; omega) | (rw [if_neg (by omega)]))⟩ ⟨by simp, rfl⟩
    · refine Sat.via (fun i => if i = 2 then 3 else if i = 3 then 2 else if i = 4 then 5 else if i = 5 then 4 else i) (hj) (by intro i j; (repeat (first | omega | split))) (by repeat' (first | exact EnvVia.nil | refine EnvVia.cons (by first | trivial | decide | (simp [SV.bnd, SV.bndL]; done)) rfl ?_)) (by repeat' (first | exact HeapVia.nil | refine HeapVia.cons (by decide) (by first | trivial | exact Blk.bnd_own0 (by assumption) | (simp [Blk.bnd, SV.bnd, SV.bndL]; done) | exact bndL_mapV _ _ _ | exact LR.bnd (by rw [l2]; simp [bndE, SV.bnd, SV.bndL]) (by rw [l6]; decide)) (by first | (rw [Blk.ren_own0 (by assumption)]; rfl) | rfl | (simp only [Blk.ren, renL_mapV]; rfl) | (rw [LR.ren (by rw [l2] <;> rfl) (by rw [l6] <;> rfl)]; rfl)) ?_)) ⟨by have := hκ.hm; (try dsimp only at this); (first | done | omega), fun i hi => by have := hκ.hm; (try dsimp only at this); (first | omega | (dsimp only; omega) | (rw [if_neg (by omega)]))⟩ ⟨by simp, rfl⟩
    · refine Sat.via (fun i => if i = 2 then 4 else if i = 3 then 2 else if i = 4 then 3 else if i = 5 then 5 else i) (hj) (by intro i j; (repeat (first | omega | split))) (by repeat' (first | exact EnvVia.nil | refine EnvVia.cons (by first | trivial | decide | (simp [SV.bnd, SV.bndL]; done)) rfl ?_)) (by repeat' (first | exact HeapVia.nil | refine HeapVia.cons (by decide) (by first | trivial | exact Blk.bnd_own0 (by assumption) | (simp [Blk.bnd, SV.bnd, SV.bndL]; done) | exact bndL_mapV _ _ _ | exact LR.bnd (by rw [l2]; simp [bndE, SV.bnd, SV.bndL]) (by rw [l6]; decide)) (by first | (rw [Blk.ren_own0 (by assumption)]; rfl) | rfl | (simp only [Blk.ren, renL_mapV]; rfl) | (rw [LR.ren (by rw [l2] <;> rfl) (by rw [l6] <;> rfl)]; rfl)) ?_)) ⟨by have := hκ.hm; (try dsimp only at this); (first | done | omega), fun i hi => by have := hκ.hm; (try dsimp only at this); (first | omega | (dsimp only; omega) | (rw [if_neg (by omega)]))⟩ ⟨by simp, rfl⟩
    · refine Sat.via (fun i => if i = 2 then 5 else if i = 3 then 2 else if i = 4 then 3 else if i = 5 then 4 else i) (hj) (by intro i j; (repeat (first | omega | split))) (by repeat' (first | exact EnvVia.nil | refine EnvVia.cons (by first | trivial | decide | (simp [SV.bnd, SV.bndL]; done)) rfl ?_)) (by repeat' (first | exact HeapVia.nil | refine HeapVia.cons (by decide) (by first | trivial | exact Blk.bnd_own0 (by assumption) | (simp [Blk.bnd, SV.bnd, SV.bndL]; done) | exact bndL_mapV _ _ _ | exact LR.bnd (by rw [l2]; simp [bndE, SV.bnd, SV.bndL]) (by rw [l6]; decide)) (by first | (rw [Blk.ren_own0 (by assumption)]; rfl) | rfl | (simp only [Blk.ren, renL_mapV]; rfl) | (rw [LR.ren (by rw [l2] <;> rfl) (by rw [l6] <;> rfl)]; rfl)) ?_)) ⟨by have := hκ.hm; (try dsimp only at this); (first | done | omega), fun i hi => by have := hκ.hm; (try dsimp only at this); (first | omega | (dsimp only; omega) | (rw [if_neg (by omega)]))⟩ ⟨by simp, rfl⟩
    · refine Sat.via (fun i => if i = 2 then 4 else if i = 3 then 2 else if i = 4 then 5 else if i = 5 then 3 else i) (hj) (by intro i j; (repeat (first | omega | split))) (by repeat' (first | exact EnvVia.nil | refine EnvVia.cons (by first | trivial | decide | (simp [SV.bnd, SV.bndL]; done)) rfl ?_)) (by repeat' (first | exact HeapVia.nil | refine HeapVia.cons (by decide) (by first | trivial | exact Blk.bnd_own0 (by assumption) | (simp [Blk.bnd, SV.bnd, SV.bndL]; done) | exact bndL_mapV _ _ _ | exact LR.bnd (by rw [l2]; simp [bndE, SV.bnd, SV.bndL]) (by rw [l6]; decide)) (by first | (rw [Blk.ren_own0 (by assumption)]; rfl) | rfl | (simp only [Blk.ren, renL_mapV]; rfl) | (rw [LR.ren (by rw [l2] <;> rfl) (by rw [l6] <;> rfl)]; rfl)) ?_)) ⟨by have := hκ.hm; (try dsimp only at this); (first | done | omega), fun i hi => by have := hκ.hm; (try dsimp only at this); (first | omega | (dsimp only; omega) | (rw [if_neg (by omega)]))⟩ ⟨by simp, rfl⟩
    · refine Sat.via (fun i => if i = 2 then 5 else if i = 3 then 2 else if i = 4 then 4 else if i = 5 then 3 else i) (hj) (by intro i j; (repeat (first | omega | split))) (by repeat' (first | exact EnvVia.nil | refine EnvVia.cons (by first | trivial | decide | (simp [SV.bnd, SV.bndL]; done)) rfl ?_)) (by repeat' (first | exact HeapVia.nil | refine HeapVia.cons (by decide) (by first | trivial | exact Blk.bnd_own0 (by assumption) | (simp [Blk.bnd, SV.bnd, SV.bndL]; done) | exact bndL_mapV _ _ _ | exact LR.bnd (by rw [l2]; simp [bndE, SV.bnd, SV.bndL]) (by rw [l6]; decide)) (by first | (rw [Blk.ren_own0 (by assumption)]; rfl) | rfl | (simp only [Blk.ren, renL_mapV]; rfl) | (rw [LR.ren (by rw [l2] <;> rfl) (by rw [l6] <;> rfl)]; rfl)) ?_)) ⟨by have := hκ.hm; (try dsimp only at this); (first | done | omega), fun i hi => by have := hκ.hm; (try dsimp only at this); (first | omega | (dsimp only; omega) | (rw [if_neg (by omega)]))⟩ ⟨by simp, rfl⟩
    · refine Sat.via (fun i => if i = 2 then 3 else if i = 3 then 4 else if i = 4 then 2 else if i = 5 then 5 else i) (hj) (by intro i j; (repeat (first | omega | split))) (by repeat' (first | exact EnvVia.nil | refine EnvVia.cons (by first | trivial | decide | (simp [SV.bnd, SV.bndL]; done)) rfl ?_)) (by repeat' (first | exact HeapVia.nil | refine HeapVia.cons (by decide) (by first | trivial | exact Blk.bnd_own0 (by assumption) | (simp [Blk.bnd, SV.bnd, SV.bndL]; done) | exact bndL_mapV _ _ _ | exact LR.bnd (by rw [l2]; simp [bndE, SV.bnd, SV.bndL]) (by rw [l6]; decide)) (by first | (rw [Blk.ren_own0 (by assumption)]; rfl) | rfl | (simp only [Blk.ren, renL_mapV]; rfl) | (rw [LR.ren (by rw [l2] <;> rfl) (by rw [l6] <;> rfl)]; rfl)) ?_)) ⟨by have := hκ.hm; (try dsimp only at this); (first | done | omega), fun i hi => by have := hκ.hm; (try dsimp only at this); (first | omega | (dsimp only; omega) | (rw [if_neg (by omega)]))⟩ ⟨by simp, rfl⟩
    · refine Sat.via (fun i => if i = 2 then 3 else if i = 3 then 5 else if i = 4 then 2 else if i = 5 then 4 else i) (hj) (by intro i j; (repeat (first | omega | split))) (by repeat' (first | exact EnvVia.nil | refine EnvVia.cons (by first | trivial | decide | (simp [SV.bnd, SV.bndL]; done)) rfl ?_)) (by repeat' (first | exact HeapVia.nil | refine HeapVia.cons (by decide) (by first | trivial | exact Blk.bnd_own0 (by assumption) | (simp [Blk.bnd, SV.bnd, SV.bndL]; done) | exact bndL_mapV _ _ _ | exact LR.bnd (by rw [l2]; simp [bndE, SV.bnd, SV.bndL]) (by rw [l6]; decide)) (by first | (rw [Blk.ren_own0 (by assumption)]; rfl) | rfl | (simp only [Blk.ren, renL_mapV]; rfl) | (rw [LR.ren (by rw [l2] <;> rfl) (by rw [l6] <;> rfl)]; rfl)) ?_)) ⟨by have := hκ.hm; (try dsimp only at this); (first | done | omega), fun i hi => by have := hκ.hm; (try dsimp only at this); (first | omega | (dsimp only; omega) | (rw [if_neg (by omega)]))⟩ ⟨by simp, rfl⟩
    · refine Sat.via (fun i => if i = 2 then 4 else if i = 3 then 3 else if i = 4 then 2 else if i = 5 then 5 else i) (hj) (by intro i j; (repeat (first | omega | split))) (by repeat' (first | exact EnvVia.nil | refine EnvVia.cons (by first | trivial | decide | (simp [SV.bnd, SV.bndL]; done)) rfl ?_)) (by repeat' (first | exact HeapVia.nil | refine HeapVia.cons (by decide) (by first | trivial | exact Blk.bnd_own0 (by assumption) | (simp [Blk.bnd, SV.bnd, SV.bndL]; done) | exact bndL_mapV _ _ _ | exact LR.bnd (by rw [l2]; simp [bndE, SV.bnd, SV.bndL]) (by rw [l6]; decide)) (by first | (rw [Blk.ren_own0 (by assumption)]; rfl) | rfl | (simp only [Blk.ren, renL_mapV]; rfl) | (rw [LR.ren (by rw [l2] <;> rfl) (by rw [l6] <;> rfl)]; rfl)) ?_)) ⟨by have := hκ.hm; (try dsimp only at this); (first | done | omega), fun i hi => by have := hκ.hm; (try dsimp only at this); (first | omega | (dsimp only; omega) | (rw [if_neg (by omega)]))⟩ ⟨by simp, rfl⟩
    · refine Sat.via (fun i => if i = 2 then 5 else if i = 3 then 3 else if i = 4 then 2 else if i = 5 then 4 else i) (hj) (by intro i j; (repeat (first | omega | split))) (by repeat' (first | exact EnvVia.nil | refine EnvVia.cons (by first | trivial | decide | (simp [SV.bnd, SV.bndL]; done)) rfl ?_)) (by repeat' (first | exact HeapVia.nil | refine HeapVia.cons (by decide) (by first | trivial | exact Blk.bnd_own0 (by assumption) | (simp [Blk.bnd, SV.bnd, SV.bndL]; done) | exact bndL_mapV _ _ _ | exact LR.bnd (by rw [l2]; simp [bndE, SV.bnd, SV.bndL]) (by rw [l6]; decide)) (by first | (rw [Blk.ren_own0 (by assumption)]; rfl) | rfl | (simp only [Blk.ren, renL_mapV]; rfl) | (rw [LR.ren (by rw [l2] <;> rfl) (by rw [l6] <;> rfl)]; rfl)) ?_)) ⟨by have := hκ.hm; (try dsimp only at this); (first | done | omega), fun i hi => by have := hκ.hm; (try dsimp only at this); (first | omega | (dsimp only; omega) | (rw [if_neg (by omega)]))⟩ ⟨by simp, rfl⟩
    · refine Sat.via (fun i => if i = 2 then 4 else if i = 3 then 5 else if i = 4 then 2 else if i = 5 then 3 else i) (hj) (by intro i j; (repeat (first | omega | split))) (by repeat' (first | exact EnvVia.nil | refine EnvVia.cons (by first | trivial | decide | (simp [SV.bnd, SV.bndL]; done)) rfl ?_)) (by repeat' (first | exact HeapVia.nil | refine HeapVia.cons (by decide) (by first | trivial | exact Blk.bnd_own0 (by assumption) | (simp [Blk.bnd, SV.bnd, SV.bndL]; done) | exact bndL_mapV _ _ _ | exact LR.bnd (by rw [l2]; simp [bndE, SV.bnd, SV.bndL]) (by rw [l6]; decide)) (by first | (rw [Blk.ren_own0 (by assumption)]; rfl) | rfl | (simp only [Blk.ren, renL_mapV]; rfl) | (rw [LR.ren (by rw [l2] <;> rfl) (by rw [l6] <;> rfl)]; rfl)) ?_)) ⟨by have := hκ.hm; (try dsimp only at this); (first | done | omega), fun i hi => by have := hκ.hm; (try dsimp only at this); (first | omega | (dsimp only; omega) | (rw [if_neg (by omega)]))⟩ ⟨by simp, rfl⟩
    · refine Sat.via (fun i => if i = 2 then 5 else if i = 3 then 4 else if i = 4 then 2 else if i = 5 then 3 else i) (hj) (by intro i j; (repeat (first | omega | split))) (by repeat' (first | exact EnvVia.nil | refine EnvVia.cons (by first | trivial | decide | (simp [SV.bnd, SV.bndL]; done)) rfl ?_)) (by repeat' (first | exact HeapVia.nil | refine HeapVia.cons (by decide) (by first | trivial | exact Blk.bnd_own0 (by assumption) | (simp [Blk.bnd, SV.bnd, SV.bndL]; done) | exact bndL_mapV _ _ _ | exact LR.bnd (by rw [l2]; simp [bndE, SV.bnd, SV.bndL]) (by rw [l6]; decide)) (by first | (rw [Blk.ren_own0 (by assumption)]; rfl) | rfl | (simp only [Blk.ren, renL_mapV]; rfl) | (rw [LR.ren (by rw [l2] <;> rfl) (by rw [l6] <;> rfl)]; rfl)) ?_)) ⟨by have := hκ.hm; (try dsimp only at this); (first | done | omega), fun i hi => by have := hκ.hm; (try dsimp only at this); (first | omega | (dsimp only; omega) | (rw [if_neg (by omega)]))⟩ ⟨by simp, rfl⟩
    · refine Sat.via (fun i => if i = 2 then 3 else if i = 3 then 4 else if i = 4 then 5 else if i = 5 then 2 else i) (hj) (by intro i j; (repeat (first | omega | split))) (by repeat' (first | exact EnvVia.nil | refine EnvVia.cons (by first | trivial | decide | (simp [SV.bnd, SV.bndL]; done)) rfl ?_)) (by repeat' (first | exact HeapVia.nil | refine HeapVia.cons (by decide) (by first | trivial | exact Blk.bnd_own0 (by assumption) | (simp [Blk.bnd, SV.bnd, SV.bndL]; done) | exact bndL_mapV _ _ _ | exact LR.bnd (by rw [l2]; simp [bndE, SV.bnd, SV.bndL]) (by rw [l6]; decide)) (by first | (rw [Blk.ren_own0 (by assumption)]; rfl) | rfl | (simp only [Blk.ren, renL_mapV]; rfl) | (rw [LR.ren (by rw [l2] <;> rfl) (by rw [l6] <;> rfl)]; rfl)) ?_)) ⟨by have := hκ.hm; (try dsimp only at this); (first | done | omega), fun i hi => by have := hκ.hm; (try dsimp only at this); (first | omega | (dsimp only; omega) | (rw [if_neg (by omega)]))⟩ ⟨by simp, rfl⟩
    · refine Sat.via (fun i => if i = 2 then 3 else if i = 3 then 5 else if i = 4 then 4 else if i = 5 then 2 else i) (hj) (by intro i j; (repeat (first | omega | split))) (by repeat' (first | exact EnvVia.nil | refine EnvVia.cons (by first | trivial | decide | (simp [SV.bnd, SV.bndL]; done)) rfl ?_)) (by repeat' (first | exact HeapVia.nil | refine HeapVia.cons (by decide) (by first | trivial | exact Blk.bnd_own0 (by assumption) | (simp [Blk.bnd, SV.bnd, SV.bndL]; done) | exact bndL_mapV _ _ _ | exact LR.bnd (by rw [l2]; simp [bndE, SV.bnd, SV.bndL]) (by rw [l6]; decide)) (by first | (rw [Blk.ren_own0 (by assumption)]; rfl) | rfl | (simp only [Blk.ren, renL_mapV]; rfl) | (rw [LR.ren (by rw [l2] <;> rfl) (by rw [l6] <;> rfl)]; rfl)) ?_)) ⟨by have := hκ.hm; (try dsimp only at this); (first | done | omega), fun i hi => by have := hκ.hm; (try dsimp only at this); (first | omega | (dsimp only; omega) | (rw [if_neg (by omega)]))⟩ ⟨by simp, rfl⟩
    · refine Sat.via (fun i => if i = 2 then 4 else if i = 3 then 3 else if i = 4 then 5 else if i = 5 then 2 else i) (hj) (by intro i j; (repeat (first | omega | split))) (by repeat' (first | exact EnvVia.nil | refine EnvVia.cons (by first | trivial | decide | (simp [SV.bnd, SV.bndL]; done)) rfl ?_)) (by repeat' (first | exact HeapVia.nil | refine HeapVia.cons (by decide) (by first | trivial | exact Blk.bnd_own0 (by assumption) | (simp [Blk.bnd, SV.bnd, SV.bndL]; done) | exact bndL_mapV _ _ _ | exact LR.bnd (by rw [l2]; simp [bndE, SV.bnd, SV.bndL]) (by rw [l6]; decide)) (by first | (rw [Blk.ren_own0 (by assumption)]; rfl) | rfl | (simp only [Blk.ren, renL_mapV]; rfl) | (rw [LR.ren (by rw [l2] <;> rfl) (by rw [l6] <;> rfl)]; rfl)) ?_)) ⟨by have := hκ.hm; (try dsimp only at this); (first | done | omega), fun i hi => by have := hκ.hm; (try dsimp only at this); (first | omega | (dsimp only; omega) | (rw [if_neg (by omega)]))⟩ ⟨by simp, rfl⟩
    · refine Sat.via (fun i => if i = 2 then 5 else if i = 3 then 3 else if i = 4 then 4 else if i = 5 then 2 else i) (hj) (by intro i j; (repeat (first | omega | split))) (by repeat' (first | exact EnvVia.nil | refine EnvVia.cons (by first | trivial | decide | (simp [SV.bnd, SV.bndL]; done)) rfl ?_)) (by repeat' (first | exact HeapVia.nil | refine HeapVia.cons (by decide) (by first | trivial | exact Blk.bnd_own0 (by assumption) | (simp [Blk.bnd, SV.bnd, SV.bndL]; done) | exact bndL_mapV _ _ _ | exact LR.bnd (by rw [l2]; simp [bndE, SV.bnd, SV.bndL]) (by rw [l6]; decide)) (by first | (rw [Blk.ren_own0 (by assumption)]; rfl) | rfl | (simp only [Blk.ren, renL_mapV]; rfl) | (rw [LR.ren (by rw [l2] <;> rfl) (by rw [l6] <;> rfl)]; rfl)) ?_)) ⟨by have := hκ.hm; (try dsimp only at this); (first | done | omega), fun i hi => by have := hκ.hm; (try dsimp only at this); (first | omega | (dsimp only; omega) | (rw [if_neg (by omega)]))⟩ ⟨by simp, rfl⟩
    · refine Sat.via (fun i => if i = 2 then 4 else if i = 3 then 5 else if i = 4 then 3 else if i = 5 then 2 else i) (hj) (by intro i j; (repeat (first | omega | split))) (by repeat' (first | exact EnvVia.nil | refine EnvVia.cons (by first | trivial | decide | (simp [SV.bnd, SV.bndL]; done)) rfl ?_)) (by repeat' (first | exact HeapVia.nil | refine HeapVia.cons (by decide) (by first | trivial | exact Blk.bnd_own0 (by assumption) | (simp [Blk.bnd, SV.bnd, SV.bndL]; done) | exact bndL_mapV _ _ _ | exact LR.bnd (by rw [l2]; simp [bndE, SV.bnd, SV.bndL]) (by rw [l6]; decide)) (by first | (rw [Blk.ren_own0 (by assumption)]; rfl) | rfl | (simp only [Blk.ren, renL_mapV]; rfl) | (rw [LR.ren (by rw [l2] <;> rfl) (by rw [l6] <;> rfl)]; rfl)) ?_)) ⟨by have := hκ.hm; (try dsimp only at this); (first | done | omega), fun i hi => by have := hκ.hm; (try dsimp only at this); (first | omega | (dsimp only; omega) | (rw [if_neg (by omega)]))⟩ ⟨by simp, rfl⟩
    · refine Sat.via (fun i => if i = 2 then 5 else if i = 3 then 4 else if i = 4 then 3 else if i = 5 then 2 else i) (hj) (by intro i j; (repeat (first | omega | split))) (by repeat' (first | exact EnvVia.nil | refine EnvVia.cons (by first | trivial | decide | (simp [SV.bnd, SV.bndL]; done)) rfl ?_)) (by repeat' (first | exact HeapVia.nil | refine HeapVia.cons (by decide) (by first | trivial | exact Blk.bnd_own0 (by assumption) | (simp [Blk.bnd, SV.bnd, SV.bndL]; done) | exact bndL_mapV _ _ _ | exact LR.bnd (by rw [l2]; simp [bndE, SV.bnd, SV.bndL]) (by rw [l6]; decide)) (by first | (rw [Blk.ren_own0 (by assumption)]; rfl) | rfl | (simp only [Blk.ren, renL_mapV]; rfl) | (rw [LR.ren (by rw [l2] <;> rfl) (by rw [l6] <;> rfl)]; rfl)) ?_)) ⟨by have := hκ.hm; (try dsimp only at this); (first | done | omega), fun i hi => by have := hκ.hm; (try dsimp only at this); (first | omega | (dsimp only; omega) | (rw [if_neg (by omega)]))⟩ ⟨by simp, rfl⟩
  intro _ _
  dsimp only
  have cec : cut (ec a) 0 1 = some [I (a.1 0)] ∧ cut (ec b) 0 1 = some [I (b.1 0)] ∧ cut (ec a) 28 1 = some [I (a.1 28)] ∧ cut (ec b) 28 1 = some [I (b.1 28)] := ⟨rfl, rfl, rfl, rfl⟩
  obtain ⟨k1, k2, k3, k4⟩ := cec
  have k5 : takeN (ec a) 1 = some [I (a.1 0)] ∧ takeN (ec b) 1 = some [I (b.1 0)] := ⟨rfl, rfl⟩
  obtain ⟨k5, k6⟩ := k5
  have ca0 : takeN (cE a) 1 = some [I (a.1 1)] := rfl
  have ca1 : cut (cE a) 1 1 = some [I (a.1 2)] := rfl
  have ca2 : cut (cE a) 2 1 = some [I (a.1 3)] := rfl
  have ca3 : cut (cE a) 3 1 = some [I (a.1 4)] := rfl
  have ca4 : cut (cE a) 4 1 = some [Bo (decide (a.1 5 = 1))] := rfl
  have ca5 : cut (cE a) 5 1 = some [Is a.2.1] := rfl
  have ca6 : cut (cE a) 6 1 = some [I (a.1 7)] := rfl
  have ca7 : cut (cE a) 7 1 = some [I (a.1 8)] := rfl
  have ca8 : cut (cE a) 8 4 = some [I (a.1 9), I (a.1 10), I (a.1 11), I (a.1 12)] := rfl
  have ca9 : cut (cE a) 12 2 = some [U (a.1 13), U (a.1 14)] := rfl
  have cb0 : takeN (cE b) 1 = some [I (b.1 1)] := rfl
  have cb1 : cut (cE b) 1 1 = some [I (b.1 2)] := rfl
  have cb2 : cut (cE b) 2 1 = some [I (b.1 3)] := rfl
  have cb3 : cut (cE b) 3 1 = some [I (b.1 4)] := rfl
  have cb4 : cut (cE b) 4 1 = some [Bo (decide (b.1 5 = 1))] := rfl
  have cb5 : cut (cE b) 5 1 = some [Is b.2.1] := rfl
  have cb6 : cut (cE b) 6 1 = some [I (b.1 7)] := rfl
  have cb7 : cut (cE b) 7 1 = some [I (b.1 8)] := rfl
  have cb8 : cut (cE b) 8 4 = some [I (b.1 9), I (b.1 10), I (b.1 11), I (b.1 12)] := rfl
  have cb9 : cut (cE b) 12 2 = some [U (b.1 13), U (b.1 14)] := rfl
  have ha0 : takeN (hE a) 1 = some [I (a.1 15)] := rfl
  have ha1 : cut (hE a) 1 1 = some [I (a.1 16)] := rfl
  have ha2 : cut (hE a) 2 1 = some [I (a.1 17)] := rfl
  have ha3 : cut (hE a) 3 1 = some [I (a.1 18)] := rfl
  have ha4 : cut (hE a) 4 1 = some [I (a.1 19)] := rfl
  have ha5 : cut (hE a) 5 1 = some [I (a.1 20)] := rfl
  have ha6 : cut (hE a) 6 1 = some [I (a.1 21)] := rfl
  have ha7 : cut (hE a) 7 1 = some [I (a.1 22)] := rfl
  have ha8 : cut (hE a) 8 1 = some [I (a.1 23)] := rfl
  have ha11 : cut (hE a) 11 1 = some [U (a.1 26)] := rfl
  have ha12 : cut (hE a) 12 1 = some [Is a.2.2] := rfl
  have ha9 : cut (hE a) 9 2 = some [U (a.1 24), U (a.1 25)] := rfl
  have hb0 : takeN (hE b) 1 = some [I (b.1 15)] := rfl
  have hb1 : cut (hE b) 1 1 = some [I (b.1 16)] := rfl
  have hb2 : cut (hE b) 2 1 = some [I (b.1 17)] := rfl
  have hb3 : cut (hE b) 3 1 = some [I (b.1 18)] := rfl
  have hb4 : cut (hE b) 4 1 = some [I (b.1 19)] := rfl
  have hb5 : cut (hE b) 5 1 = some [I (b.1 20)] := rfl
  have hb6 : cut (hE b) 6 1 = some [I (b.1 21)] := rfl
  have hb7 : cut (hE b) 7 1 = some [I (b.1 22)] := rfl
  have hb8 : cut (hE b) 8 1 = some [I (b.1 23)] := rfl
  have hb11 : cut (hE b) 11 1 = some [U (b.1 26)] := rfl
  have hb12 : cut (hE b) 12 1 = some [Is b.2.2] := rfl
  have hb9 : cut (hE b) 9 2 = some [U (b.1 24), U (b.1 25)] := rfl
  refine hκ.runO 6 48 300 ?_
  simp (disch := omega) only [push_cast, simprocAttr, k1, k2, k3, k4, k5, k6, ca0, ca1, ca2, ca3, ca4, ca5, ca6, ca7, ca8, ca9, cb0, cb1, cb2, cb3, cb4, cb5, cb6, cb7, cb8, cb9]
  refine Sat.less (e := [(24, Bo (decide (a.1 0 = b.1 0))), (8, .ptr 5 0 0 0), (7, .ptr 4 0 0 0), (6, .ptr 3 0 0 0), (5, .ptr 2 0 0 0), (3, .ptr 1 0 0 0), (2, .ptr 0 0 0 0)]) (h := [(5, .own (hE b) 35), (4, .own (hE a) 35), (3, .own (cE b) 33), (2, .own (cE a) 33), (1, .own (ec b) 37), (0, .own (ec a) 37)]) ?_ (by repeat' (first | exact EnvSub.nil _ | exact HeapSub.nil _ | refine EnvSub.cons rfl ?_ | refine HeapSub.cons rfl ?_ | (refine EnvSub.cons (by simp [Env.get]; done) ?_) | (refine HeapSub.cons (by simp [Heap.get]; done) ?_))) (by repeat' (first | exact EnvSub.nil _ | exact HeapSub.nil _ | refine EnvSub.cons rfl ?_ | refine HeapSub.cons rfl ?_ | (refine EnvSub.cons (by simp [Env.get]; done) ?_) | (refine HeapSub.cons (by simp [Heap.get]; done) ?_)))
  apply Sat.join (α := Unit) (nx := 6) (dfs := []) (fun _ => True) (fun _ => ([(31, Bo (decide (a.1 0 = b.1 0) && decide (a.1 28 = b.1 28))), (8, .ptr 5 0 0 0), (7, .ptr 4 0 0 0), (6, .ptr 3 0 0 0), (5, .ptr 2 0 0 0), (3, .ptr 1 0 0 0), (2, .ptr 0 0 0 0)], [(5, .own (hE b) 35), (4, .own (hE a) 35), (3, .own (cE b) 33), (2, .own (cE a) 33), (1, .own (ec b) 37), (0, .own (ec a) 37)]))
  · intro hj
    have hj := hj () trivial
    dsimp only at hj
    refine hκ.runO 13 48 300 ?_
    simp (disch := omega) only [push_cast, simprocAttr, k1, k2, k3, k4, k5, k6, ca0, ca1, ca2, ca3, ca4, ca5, ca6, ca7, ca8, ca9, cb0, cb1, cb2, cb3, cb4, cb5, cb6, cb7, cb8, cb9]
    refine OutOK_guard (fun h => ?_) (fun h => ?_)
    · simp (disch := omega) only [push_cast, simprocAttr, k1, k2, k3, k4, k5, k6, ca0, ca1, ca2, ca3, ca4, ca5, ca6, ca7, ca8, ca9, cb0, cb1, cb2, cb3, cb4, cb5, cb6, cb7, cb8, cb9]
      rw [h, Bool.true_and] at hj
      exact hj.less (by repeat' (first | exact EnvSub.nil _ | exact HeapSub.nil _ | refine EnvSub.cons rfl ?_ | refine HeapSub.cons rfl ?_ | (refine EnvSub.cons (by simp [Env.get]; done) ?_) | (refine HeapSub.cons (by simp [Heap.get]; done) ?_))) (by repeat' (first | exact EnvSub.nil _ | exact HeapSub.nil _ | refine EnvSub.cons rfl ?_ | refine HeapSub.cons rfl ?_ | (refine EnvSub.cons (by simp [Env.get]; done) ?_) | (refine HeapSub.cons (by simp [Heap.get]; done) ?_)))
    · simp (disch := omega) only [push_cast, simprocAttr, k1, k2, k3, k4, k5, k6, ca0, ca1, ca2, ca3, ca4, ca5, ca6, ca7, ca8, ca9, cb0, cb1, cb2, cb3, cb4, cb5, cb6, cb7, cb8, cb9]
      simp only [Bool.not_true] at h
      rw [h, Bool.false_and] at hj
      exact hj.less (by repeat' (first | exact EnvSub.nil _ | exact HeapSub.nil _ | refine EnvSub.cons rfl ?_ | refine HeapSub.cons rfl ?_ | (refine EnvSub.cons (by simp [Env.get]; done) ?_) | (refine HeapSub.cons (by simp [Heap.get]; done) ?_))) (by repeat' (first | exact EnvSub.nil _ | exact HeapSub.nil _ | refine EnvSub.cons rfl ?_ | refine HeapSub.cons rfl ?_ | (refine EnvSub.cons (by simp [Env.get]; done) ?_) | (refine HeapSub.cons (by simp [Heap.get]; done) ?_)))
  intro _ _
  dsimp only
  apply Sat.join (α := Unit) (nx := 6) (dfs := []) (fun _ => True) (fun _ => ([(38, Bo ((decide (a.1 0 = b.1 0) && decide (a.1 28 = b.1 28)) && decide (a.1 1 = b.1 1))), (8, .ptr 5 0 0 0), (7, .ptr 4 0 0 0), (6, .ptr 3 0 0 0), (5, .ptr 2 0 0 0), (3, .ptr 1 0 0 0), (2, .ptr 0 0 0 0)], [(5, .own (hE b) 35), (4, .own (hE a) 35), (3, .own (cE b) 33), (2, .own (cE a) 33), (1, .own (ec b) 37), (0, .own (ec a) 37)]))
  · intro hj
    have hj := hj () trivial
    dsimp only at hj
    refine hκ.runO 20 48 300 ?_
    simp (disch := omega) only [push_cast, simprocAttr, k1, k2, k3, k4, k5, k6, ca0, ca1, ca2, ca3, ca4, ca5, ca6, ca7, ca8, ca9, cb0, cb1, cb2, cb3, cb4, cb5, cb6, cb7, cb8, cb9]
    refine OutOK_guard (fun h => ?_) (fun h => ?_)
    · simp (disch := omega) only [push_cast, simprocAttr, k1, k2, k3, k4, k5, k6, ca0, ca1, ca2, ca3, ca4, ca5, ca6, ca7, ca8, ca9, cb0, cb1, cb2, cb3, cb4, cb5, cb6, cb7, cb8, cb9]
      rw [h, Bool.true_and] at hj
      exact hj.less (by repeat' (first | exact EnvSub.nil _ | exact HeapSub.nil _ | refine EnvSub.cons rfl ?_ | refine HeapSub.cons rfl ?_ | (refine EnvSub.cons (by simp [Env.get]; done) ?_) | (refine HeapSub.cons (by simp [Heap.get]; done) ?_))) (by repeat' (first | exact EnvSub.nil _ | exact HeapSub.nil _ | refine EnvSub.cons rfl ?_ | refine HeapSub.cons rfl ?_ | (refine EnvSub.cons (by simp [Env.get]; done) ?_) | (refine HeapSub.cons (by simp [Heap.get]; done) ?_)))
    · simp (disch := omega) only [push_cast, simprocAttr, k1, k2, k3, k4, k5, k6, ca0, ca1, ca2, ca3, ca4, ca5, ca6, ca7, ca8, ca9, cb0, cb1, cb2, cb3, cb4, cb5, cb6, cb7, cb8, cb9]
      simp only [Bool.not_true] at h
      rw [h, Bool.false_and] at hj
      exact hj.less (by repeat' (first | exact EnvSub.nil _ | exact HeapSub.nil _ | refine EnvSub.cons rfl ?_ | refine HeapSub.cons rfl ?_ | (refine EnvSub.cons (by simp [Env.get]; done) ?_) | (refine HeapSub.cons (by simp [Heap.get]; done) ?_))) (by repeat' (first | exact EnvSub.nil _ | exact HeapSub.nil _ | refine EnvSub.cons rfl ?_ | refine HeapSub.cons rfl ?_ | (refine EnvSub.cons (by simp [Env.get]; done) ?_) | (refine HeapSub.cons (by simp [Heap.get]; done) ?_)))
  intro _ _
  dsimp only
  apply Sat.join (α := Unit) (nx := 6) (dfs := []) (fun _ => True) (fun _ => ([(45, Bo (((decide (a.1 0 = b.1 0) && decide (a.1 28 = b.1 28)) && decide (a.1 1 = b.1 1)) && decide (a.1 2 = b.1 2))), (8, .ptr 5 0 0 0), (7, .ptr 4 0 0 0), (6, .ptr 3 0 0 0), (5, .ptr 2 0 0 0), (3, .ptr 1 0 0 0), (2, .ptr 0 0 0 0)], [(5, .own (hE b) 35), (4, .own (hE a) 35), (3, .own (cE b) 33), (2, .own (cE a) 33), (1, .own (ec b) 37), (0, .own (ec a) 37)]))
  · intro hj
    have hj := hj () trivial
    dsimp only at hj
    refine hκ.runO 27 48 300 ?_
    simp (disch := omega) only [push_cast, simprocAttr, k1, k2, k3, k4, k5, k6, ca0, ca1, ca2, ca3, ca4, ca5, ca6, ca7, ca8, ca9, cb0, cb1, cb2, cb3, cb4, cb5, cb6, cb7, cb8, cb9]
    refine OutOK_guard (fun h => ?_) (fun h => ?_)
    · simp (disch := omega) only [push_cast, simprocAttr, k1, k2, k3, k4, k5, k6, ca0, ca1, ca2, ca3, ca4, ca5, ca6, ca7, ca8, ca9, cb0, cb1, cb2, cb3, cb4, cb5, cb6, cb7, cb8, cb9]
      rw [h, Bool.true_and] at hj
      exact hj.less (by repeat' (first | exact EnvSub.nil _ | exact HeapSub.nil _ | refine EnvSub.cons rfl ?_ | refine HeapSub.cons rfl ?_ | (refine EnvSub.cons (by simp [Env.get]; done) ?_) | (refine HeapSub.cons (by simp [Heap.get]; done) ?_))) (by repeat' (first | exact EnvSub.nil _ | exact HeapSub.nil _ | refine EnvSub.cons rfl ?_ | refine HeapSub.cons rfl ?_ | (refine EnvSub.cons (by simp [Env.get]; done) ?_) | (refine HeapSub.cons (by simp [Heap.get]; done) ?_)))
    · simp (disch := omega) only [push_cast, simprocAttr, k1, k2, k3, k4, k5, k6, ca0, ca1, ca2, ca3, ca4, ca5, ca6, ca7, ca8, ca9, cb0, cb1, cb2, cb3, cb4, cb5, cb6, cb7, cb8, cb9]
      simp only [Bool.not_true] at h
      rw [h, Bool.false_and] at hj
      exact hj.less (by repeat' (first | exact EnvSub.nil _ | exact HeapSub.nil _ | refine EnvSub.cons rfl ?_ | refine HeapSub.cons rfl ?_ | (refine EnvSub.cons (by simp [Env.get]; done) ?_) | (refine HeapSub.cons (by simp [Heap.get]; done) ?_))) (by repeat' (first | exact EnvSub.nil _ | exact HeapSub.nil _ | refine EnvSub.cons rfl ?_ | refine HeapSub.cons rfl ?_ | (refine EnvSub.cons (by simp [Env.get]; done) ?_) | (refine HeapSub.cons (by simp [Heap.get]; done) ?_)))
  intro _ _
  dsimp only
  apply Sat.join (α := Unit) (nx := 6) (dfs := []) (fun _ => True) (fun _ => ([(52, Bo ((((decide (a.1 0 = b.1 0) && decide (a.1 28 = b.1 28)) && decide (a.1 1 = b.1 1)) && decide (a.1 2 = b.1 2)) && decide (a.1 3 = b.1 3))), (8, .ptr 5 0 0 0), (7, .ptr 4 0 0 0), (6, .ptr 3 0 0 0), (5, .ptr 2 0 0 0), (3, .ptr 1 0 0 0), (2, .ptr 0 0 0 0)], [(5, .own (hE b) 35), (4, .own (hE a) 35), (3, .own (cE b) 33), (2, .own (cE a) 33), (1, .own (ec b) 37), (0, .own (ec a) 37)]))
  · intro hj
    have hj := hj () trivial
    dsimp only at hj
    refine hκ.runO 34 48 300 ?_
    simp (disch := omega) only [push_cast, simprocAttr, k1, k2, k3, k4, k5, k6, ca0, ca1, ca2, ca3, ca4, ca5, ca6, ca7, ca8, ca9, cb0, cb1, cb2, cb3, cb4, cb5, cb6, cb7, cb8, cb9]
    refine OutOK_guard (fun h => ?_) (fun h => ?_)
    · simp (disch := omega) only [push_cast, simprocAttr, k1, k2, k3, k4, k5, k6, ca0, ca1, ca2, ca3, ca4, ca5, ca6, ca7, ca8, ca9, cb0, cb1, cb2, cb3, cb4, cb5, cb6, cb7, cb8, cb9]
      rw [h, Bool.true_and] at hj
      exact hj.less (by repeat' (first | exact EnvSub.nil _ | exact HeapSub.nil _ | refine EnvSub.cons rfl ?_ | refine HeapSub.cons rfl ?_ | (refine EnvSub.cons (by simp [Env.get]; done) ?_) | (refine HeapSub.cons (by simp [Heap.get]; done) ?_))) (by repeat' (first | exact EnvSub.nil _ | exact HeapSub.nil _ | refine EnvSub.cons rfl ?_ | refine HeapSub.cons rfl ?_ | (refine EnvSub.cons (by simp [Env.get]; done) ?_) | (refine HeapSub.cons (by simp [Heap.get]; done) ?_)))
    · simp (disch := omega) only [push_cast, simprocAttr, k1, k2, k3, k4, k5, k6, ca0, ca1, ca2, ca3, ca4, ca5, ca6, ca7, ca8, ca9, cb0, cb1, cb2, cb3, cb4, cb5, cb6, cb7, cb8, cb9]
      simp only [Bool.not_true] at h
      rw [h, Bool.false_and] at hj
      exact hj.less (by repeat' (first | exact EnvSub.nil _ | exact HeapSub.nil _ | refine EnvSub.cons rfl ?_ | refine HeapSub.cons rfl ?_ | (refine EnvSub.cons (by simp [Env.get]; done) ?_) | (refine HeapSub.cons (by simp [Heap.get]; done) ?_))) (by repeat' (first | exact EnvSub.nil _ | exact HeapSub.nil _ | refine EnvSub.cons rfl ?_ | refine HeapSub.cons rfl ?_ | (refine EnvSub.cons (by simp [Env.get]; done) ?_) | (refine HeapSub.cons (by simp [Heap.get]; done) ?_)))
  intro _ _
  dsimp only
  apply Sat.join (α := Unit) (nx := 6) (dfs := []) (fun _ => True) (fun _ => ([(59, Bo (((((decide (a.1 0 = b.1 0) && decide (a.1 28 = b.1 28)) && decide (a.1 1 = b.1 1)) && decide (a.1 2 = b.1 2)) && decide (a.1 3 = b.1 3)) && decide (a.1 4 = b.1 4))), (8, .ptr 5 0 0 0), (7, .ptr 4 0 0 0), (6, .ptr 3 0 0 0), (5, .ptr 2 0 0 0), (3, .ptr 1 0 0 0), (2, .ptr 0 0 0 0)], [(5, .own (hE b) 35), (4, .own (hE a) 35), (3, .own (cE b) 33), (2, .own (cE a) 33), (1, .own (ec b) 37), (0, .own (ec a) 37)]))
  · intro hj
    have hj := hj () trivial
    dsimp only at hj
    refine hκ.runO 41 48 300 ?_
    simp (disch := omega) only [push_cast, simprocAttr, k1, k2, k3, k4, k5, k6, ca0, ca1, ca2, ca3, ca4, ca5, ca6, ca7, ca8, ca9, cb0, cb1, cb2, cb3, cb4, cb5, cb6, cb7, cb8, cb9]
    refine OutOK_guard (fun h => ?_) (fun h => ?_)
    · simp (disch := omega) only [push_cast, simprocAttr, k1, k2, k3, k4, k5, k6, ca0, ca1, ca2, ca3, ca4, ca5, ca6, ca7, ca8, ca9, cb0, cb1, cb2, cb3, cb4, cb5, cb6, cb7, cb8, cb9]
      rw [h, Bool.true_and] at hj
      exact hj.less (by repeat' (first | exact EnvSub.nil _ | exact HeapSub.nil _ | refine EnvSub.cons rfl ?_ | refine HeapSub.cons rfl ?_ | (refine EnvSub.cons (by simp [Env.get]; done) ?_) | (refine HeapSub.cons (by simp [Heap.get]; done) ?_))) (by repeat' (first | exact EnvSub.nil _ | exact HeapSub.nil _ | refine EnvSub.cons rfl ?_ | refine HeapSub.cons rfl ?_ | (refine EnvSub.cons (by simp [Env.get]; done) ?_) | (refine HeapSub.cons (by simp [Heap.get]; done) ?_)))
    · simp (disch := omega) only [push_cast, simprocAttr, k1, k2, k3, k4, k5, k6, ca0, ca1, ca2, ca3, ca4, ca5, ca6, ca7, ca8, ca9, cb0, cb1, cb2, cb3, cb4, cb5, cb6, cb7, cb8, cb9]
      simp only [Bool.not_true] at h
      rw [h, Bool.false_and] at hj
      exact hj.less (by repeat' (first | exact EnvSub.nil _ | exact HeapSub.nil _ | refine EnvSub.cons rfl ?_ | refine HeapSub.cons rfl ?_ | (refine EnvSub.cons (by simp [Env.get]; done) ?_) | (refine HeapSub.cons (by simp [Heap.get]; done) ?_))) (by repeat' (first | exact EnvSub.nil _ | exact HeapSub.nil _ | refine EnvSub.cons rfl ?_ | refine HeapSub.cons rfl ?_ | (refine EnvSub.cons (by simp [Env.get]; done) ?_) | (refine HeapSub.cons (by simp [Heap.get]; done) ?_)))
  intro _ _
  dsimp only
  apply Sat.join (α := Unit) (nx := 6) (dfs := []) (fun _ => True) (fun _ => ([(67, Bo ((((((decide (a.1 0 = b.1 0) && decide (a.1 28 = b.1 28)) && decide (a.1 1 = b.1 1)) && decide (a.1 2 = b.1 2)) && decide (a.1 3 = b.1 3)) && decide (a.1 4 = b.1 4)) && (decide (a.1 5 = 1) == decide (b.1 5 = 1)))), (8, .ptr 5 0 0 0), (7, .ptr 4 0 0 0), (6, .ptr 3 0 0 0), (5, .ptr 2 0 0 0), (3, .ptr 1 0 0 0), (2, .ptr 0 0 0 0)], [(5, .own (hE b) 35), (4, .own (hE a) 35), (3, .own (cE b) 33), (2, .own (cE a) 33), (1, .own (ec b) 37), (0, .own (ec a) 37)]))
  · intro hj
    have hj := hj () trivial
    dsimp only at hj
    refine hκ.runO 2 37 300 ?_
    simp (disch := omega) only [push_cast, simprocAttr, k1, k2, k3, k4, k5, k6, ca0, ca1, ca2, ca3, ca4, ca5, ca6, ca7, ca8, ca9, cb0, cb1, cb2, cb3, cb4, cb5, cb6, cb7, cb8, cb9]
    refine OutOK_guard (fun h => ?_) (fun h => ?_)
    · simp (disch := omega) only [push_cast, simprocAttr, k1, k2, k3, k4, k5, k6, ca0, ca1, ca2, ca3, ca4, ca5, ca6, ca7, ca8, ca9, cb0, cb1, cb2, cb3, cb4, cb5, cb6, cb7, cb8, cb9]
      rw [h, Bool.true_and] at hj
      exact hj.less (by repeat' (first | exact EnvSub.nil _ | exact HeapSub.nil _ | refine EnvSub.cons rfl ?_ | refine HeapSub.cons rfl ?_ | (refine EnvSub.cons (by simp [Env.get]; done) ?_) | (refine HeapSub.cons (by simp [Heap.get]; done) ?_))) (by repeat' (first | exact EnvSub.nil _ | exact HeapSub.nil _ | refine EnvSub.cons rfl ?_ | refine HeapSub.cons rfl ?_ | (refine EnvSub.cons (by simp [Env.get]; done) ?_) | (refine HeapSub.cons (by simp [Heap.get]; done) ?_)))
    · simp (disch := omega) only [push_cast, simprocAttr, k1, k2, k3, k4, k5, k6, ca0, ca1, ca2, ca3, ca4, ca5, ca6, ca7, ca8, ca9, cb0, cb1, cb2, cb3, cb4, cb5, cb6, cb7, cb8, cb9]
      simp only [Bool.not_true] at h
      rw [h, Bool.false_and] at hj
      exact hj.less (by repeat' (first | exact EnvSub.nil _ | exact HeapSub.nil _ | refine EnvSub.cons rfl ?_ | refine HeapSub.cons rfl ?_ | (refine EnvSub.cons (by simp [Env.get]; done) ?_) | (refine HeapSub.cons (by simp [Heap.get]; done) ?_))) (by repeat' (first | exact EnvSub.nil _ | exact HeapSub.nil _ | refine EnvSub.cons rfl ?_ | refine HeapSub.cons rfl ?_ | (refine EnvSub.cons (by simp [Env.get]; done) ?_) | (refine HeapSub.cons (by simp [Heap.get]; done) ?_)))
  intro _ _
  dsimp only
  apply Sat.join (α := Unit) (nx := 6) (dfs := []) (fun _ => True) (fun _ => ([(74, Bo (((((((decide (a.1 0 = b.1 0) && decide (a.1 28 = b.1 28)) && decide (a.1 1 = b.1 1)) && decide (a.1 2 = b.1 2)) && decide (a.1 3 = b.1 3)) && decide (a.1 4 = b.1 4)) && (decide (a.1 5 = 1) == decide (b.1 5 = 1))) && decide (a.1 7 = b.1 7))), (8, .ptr 5 0 0 0), (7, .ptr 4 0 0 0), (6, .ptr 3 0 0 0), (5, .ptr 2 0 0 0), (3, .ptr 1 0 0 0), (2, .ptr 0 0 0 0)], [(5, .own (hE b) 35), (4, .own (hE a) 35), (3, .own (cE b) 33), (2, .own (cE a) 33), (1, .own (ec b) 37), (0, .own (ec a) 37)]))
  · intro hj
    have hj := hj () trivial
    dsimp only at hj
    refine hκ.runO 9 37 300 ?_
    simp (disch := omega) only [push_cast, simprocAttr, k1, k2, k3, k4, k5, k6, ca0, ca1, ca2, ca3, ca4, ca5, ca6, ca7, ca8, ca9, cb0, cb1, cb2, cb3, cb4, cb5, cb6, cb7, cb8, cb9]
    refine OutOK_guard (fun h => ?_) (fun h => ?_)
    · simp (disch := omega) only [push_cast, simprocAttr, k1, k2, k3, k4, k5, k6, ca0, ca1, ca2, ca3, ca4, ca5, ca6, ca7, ca8, ca9, cb0, cb1, cb2, cb3, cb4, cb5, cb6, cb7, cb8, cb9]
      rw [h, Bool.true_and] at hj
      exact hj.less (by repeat' (first | exact EnvSub.nil _ | exact HeapSub.nil _ | refine EnvSub.cons rfl ?_ | refine HeapSub.cons rfl ?_ | (refine EnvSub.cons (by simp [Env.get]; done) ?_) | (refine HeapSub.cons (by simp [Heap.get]; done) ?_))) (by repeat' (first | exact EnvSub.nil _ | exact HeapSub.nil _ | refine EnvSub.cons rfl ?_ | refine HeapSub.cons rfl ?_ | (refine EnvSub.cons (by simp [Env.get]; done) ?_) | (refine HeapSub.cons (by simp [Heap.get]; done) ?_)))
    · simp (disch := omega) only [push_cast, simprocAttr, k1, k2, k3, k4, k5, k6, ca0, ca1, ca2, ca3, ca4, ca5, ca6, ca7, ca8, ca9, cb0, cb1, cb2, cb3, cb4, cb5, cb6, cb7, cb8, cb9]
      simp only [Bool.not_true] at h
      rw [h, Bool.false_and] at hj
      exact hj.less (by repeat' (first | exact EnvSub.nil _ | exact HeapSub.nil _ | refine EnvSub.cons rfl ?_ | refine HeapSub.cons rfl ?_ | (refine EnvSub.cons (by simp [Env.get]; done) ?_) | (refine HeapSub.cons (by simp [Heap.get]; done) ?_))) (by repeat' (first | exact EnvSub.nil _ | exact HeapSub.nil _ | refine EnvSub.cons rfl ?_ | refine HeapSub.cons rfl ?_ | (refine EnvSub.cons (by simp [Env.get]; done) ?_) | (refine HeapSub.cons (by simp [Heap.get]; done) ?_)))
  intro _ _
  dsimp only
  apply Sat.join (α := Unit) (nx := 6) (dfs := []) (fun _ => True) (fun _ => ([(81, Bo ((((((((decide (a.1 0 = b.1 0) && decide (a.1 28 = b.1 28)) && decide (a.1 1 = b.1 1)) && decide (a.1 2 = b.1 2)) && decide (a.1 3 = b.1 3)) && decide (a.1 4 = b.1 4)) && (decide (a.1 5 = 1) == decide (b.1 5 = 1))) && decide (a.1 7 = b.1 7)) && decide (a.1 8 = b.1 8))), (8, .ptr 5 0 0 0), (7, .ptr 4 0 0 0), (6, .ptr 3 0 0 0), (5, .ptr 2 0 0 0), (3, .ptr 1 0 0 0), (2, .ptr 0 0 0 0)], [(5, .own (hE b) 35), (4, .own (hE a) 35), (3, .own (cE b) 33), (2, .own (cE a) 33), (1, .own (ec b) 37), (0, .own (ec a) 37)]))
  · intro hj
    have hj := hj () trivial
    dsimp only at hj
    refine hκ.runO 16 37 300 ?_
    simp (disch := omega) only [push_cast, simprocAttr, k1, k2, k3, k4, k5, k6, ca0, ca1, ca2, ca3, ca4, ca5, ca6, ca7, ca8, ca9, cb0, cb1, cb2, cb3, cb4, cb5, cb6, cb7, cb8, cb9]
    refine OutOK_guard (fun h => ?_) (fun h => ?_)
    · simp (disch := omega) only [push_cast, simprocAttr, k1, k2, k3, k4, k5, k6, ca0, ca1, ca2, ca3, ca4, ca5, ca6, ca7, ca8, ca9, cb0, cb1, cb2, cb3, cb4, cb5, cb6, cb7, cb8, cb9]
      rw [h, Bool.true_and] at hj
      exact hj.less (by repeat' (first | exact EnvSub.nil _ | exact HeapSub.nil _ | refine EnvSub.cons rfl ?_ | refine HeapSub.cons rfl ?_ | (refine EnvSub.cons (by simp [Env.get]; done) ?_) | (refine HeapSub.cons (by simp [Heap.get]; done) ?_))) (by repeat' (first | exact EnvSub.nil _ | exact HeapSub.nil _ | refine EnvSub.cons rfl ?_ | refine HeapSub.cons rfl ?_ | (refine EnvSub.cons (by simp [Env.get]; done) ?_) | (refine HeapSub.cons (by simp [Heap.get]; done) ?_)))
    · simp (disch := omega) only [push_cast, simprocAttr, k1, k2, k3, k4, k5, k6, ca0, ca1, ca2, ca3, ca4, ca5, ca6, ca7, ca8, ca9, cb0, cb1, cb2, cb3, cb4, cb5, cb6, cb7, cb8, cb9]
      simp only [Bool.not_true] at h
      rw [h, Bool.false_and] at hj
      exact hj.less (by repeat' (first | exact EnvSub.nil _ | exact HeapSub.nil _ | refine EnvSub.cons rfl ?_ | refine HeapSub.cons rfl ?_ | (refine EnvSub.cons (by simp [Env.get]; done) ?_) | (refine HeapSub.cons (by simp [Heap.get]; done) ?_))) (by repeat' (first | exact EnvSub.nil _ | exact HeapSub.nil _ | refine EnvSub.cons rfl ?_ | refine HeapSub.cons rfl ?_ | (refine EnvSub.cons (by simp [Env.get]; done) ?_) | (refine HeapSub.cons (by simp [Heap.get]; done) ?_)))
  intro _ _
  dsimp only
  apply Sat.join (α := Unit) (nx := 6) (dfs := []) (fun _ => True) (fun _ => ([(88, Bo (((((((((decide (a.1 0 = b.1 0) && decide (a.1 28 = b.1 28)) && decide (a.1 1 = b.1 1)) && decide (a.1 2 = b.1 2)) && decide (a.1 3 = b.1 3)) && decide (a.1 4 = b.1 4)) && (decide (a.1 5 = 1) == decide (b.1 5 = 1))) && decide (a.1 7 = b.1 7)) && decide (a.1 8 = b.1 8)) && (decide (a.1 9 = b.1 9) && (decide (a.1 10 = b.1 10) && (decide (a.1 11 = b.1 11) && decide (a.1 12 = b.1 12)))))), (8, .ptr 5 0 0 0), (7, .ptr 4 0 0 0), (6, .ptr 3 0 0 0), (5, .ptr 2 0 0 0), (3, .ptr 1 0 0 0), (2, .ptr 0 0 0 0)], [(5, .own (hE b) 35), (4, .own (hE a) 35), (3, .own (cE b) 33), (2, .own (cE a) 33), (1, .own (ec b) 37), (0, .own (ec a) 37)]))
  · intro hj
    have hj := hj () trivial
    dsimp only at hj
    refine hκ.runO 23 37 300 ?_
    simp (disch := omega) only [push_cast, simprocAttr, k1, k2, k3, k4, k5, k6, ca0, ca1, ca2, ca3, ca4, ca5, ca6, ca7, ca8, ca9, cb0, cb1, cb2, cb3, cb4, cb5, cb6, cb7, cb8, cb9]
    refine OutOK_guard (fun h => ?_) (fun h => ?_)
    · simp (disch := omega) only [push_cast, simprocAttr, k1, k2, k3, k4, k5, k6, ca0, ca1, ca2, ca3, ca4, ca5, ca6, ca7, ca8, ca9, cb0, cb1, cb2, cb3, cb4, cb5, cb6, cb7, cb8, cb9]
      rw [h, Bool.true_and] at hj
      exact hj.less (by repeat' (first | exact EnvSub.nil _ | exact HeapSub.nil _ | refine EnvSub.cons rfl ?_ | refine HeapSub.cons rfl ?_ | (refine EnvSub.cons (by simp [Env.get]; done) ?_) | (refine HeapSub.cons (by simp [Heap.get]; done) ?_))) (by repeat' (first | exact EnvSub.nil _ | exact HeapSub.nil _ | refine EnvSub.cons rfl ?_ | refine HeapSub.cons rfl ?_ | (refine EnvSub.cons (by simp [Env.get]; done) ?_) | (refine HeapSub.cons (by simp [Heap.get]; done) ?_)))
    · simp (disch := omega) only [push_cast, simprocAttr, k1, k2, k3, k4, k5, k6, ca0, ca1, ca2, ca3, ca4, ca5, ca6, ca7, ca8, ca9, cb0, cb1, cb2, cb3, cb4, cb5, cb6, cb7, cb8, cb9]
      simp only [Bool.not_true] at h
      rw [h, Bool.false_and] at hj
      exact hj.less (by repeat' (first | exact EnvSub.nil _ | exact HeapSub.nil _ | refine EnvSub.cons rfl ?_ | refine HeapSub.cons rfl ?_ | (refine EnvSub.cons (by simp [Env.get]; done) ?_) | (refine HeapSub.cons (by simp [Heap.get]; done) ?_))) (by repeat' (first | exact EnvSub.nil _ | exact HeapSub.nil _ | refine EnvSub.cons rfl ?_ | refine HeapSub.cons rfl ?_ | (refine EnvSub.cons (by simp [Env.get]; done) ?_) | (refine HeapSub.cons (by simp [Heap.get]; done) ?_)))
  intro _ _
  dsimp only
  apply Sat.join (α := Unit) (nx := 6) (dfs := []) (fun _ => True) (fun _ => ([(95, Bo ((((((((((decide (a.1 0 = b.1 0) && decide (a.1 28 = b.1 28)) && decide (a.1 1 = b.1 1)) && decide (a.1 2 = b.1 2)) && decide (a.1 3 = b.1 3)) && decide (a.1 4 = b.1 4)) && (decide (a.1 5 = 1) == decide (b.1 5 = 1))) && decide (a.1 7 = b.1 7)) && decide (a.1 8 = b.1 8)) && (decide (a.1 9 = b.1 9) && (decide (a.1 10 = b.1 10) && (decide (a.1 11 = b.1 11) && decide (a.1 12 = b.1 12))))) && (decide (a.1 13 = b.1 13) && decide (a.1 14 = b.1 14)))), (8, .ptr 5 0 0 0), (7, .ptr 4 0 0 0), (6, .ptr 3 0 0 0), (5, .ptr 2 0 0 0), (3, .ptr 1 0 0 0), (2, .ptr 0 0 0 0)], [(5, .own (hE b) 35), (4, .own (hE a) 35), (3, .own (cE b) 33), (2, .own (cE a) 33), (1, .own (ec b) 37), (0, .own (ec a) 37)]))
  · intro hj
    have hj := hj () trivial
    dsimp only at hj
    refine hκ.runO 30 37 300 ?_
    simp (disch := omega) only [push_cast, simprocAttr, k1, k2, k3, k4, k5, k6, ca0, ca1, ca2, ca3, ca4, ca5, ca6, ca7, ca8, ca9, cb0, cb1, cb2, cb3, cb4, cb5, cb6, cb7, cb8, cb9]
    refine OutOK_guard (fun h => ?_) (fun h => ?_)
    · simp (disch := omega) only [push_cast, simprocAttr, k1, k2, k3, k4, k5, k6, ca0, ca1, ca2, ca3, ca4, ca5, ca6, ca7, ca8, ca9, cb0, cb1, cb2, cb3, cb4, cb5, cb6, cb7, cb8, cb9]
      rw [h, Bool.true_and] at hj
      exact hj.less (by repeat' (first | exact EnvSub.nil _ | exact HeapSub.nil _ | refine EnvSub.cons rfl ?_ | refine HeapSub.cons rfl ?_ | (refine EnvSub.cons (by simp [Env.get]; done) ?_) | (refine HeapSub.cons (by simp [Heap.get]; done) ?_))) (by repeat' (first | exact EnvSub.nil _ | exact HeapSub.nil _ | refine EnvSub.cons rfl ?_ | refine HeapSub.cons rfl ?_ | (refine EnvSub.cons (by simp [Env.get]; done) ?_) | (refine HeapSub.cons (by simp [Heap.get]; done) ?_)))
    · simp (disch := omega) only [push_cast, simprocAttr, k1, k2, k3, k4, k5, k6, ca0, ca1, ca2, ca3, ca4, ca5, ca6, ca7, ca8, ca9, cb0, cb1, cb2, cb3, cb4, cb5, cb6, cb7, cb8, cb9]
      simp only [Bool.not_true] at h
      rw [h, Bool.false_and] at hj
      exact hj.less (by repeat' (first | exact EnvSub.nil _ | exact HeapSub.nil _ | refine EnvSub.cons rfl ?_ | refine HeapSub.cons rfl ?_ | (refine EnvSub.cons (by simp [Env.get]; done) ?_) | (refine HeapSub.cons (by simp [Heap.get]; done) ?_))) (by repeat' (first | exact EnvSub.nil _ | exact HeapSub.nil _ | refine EnvSub.cons rfl ?_ | refine HeapSub.cons rfl ?_ | (refine EnvSub.cons (by simp [Env.get]; done) ?_) | (refine HeapSub.cons (by simp [Heap.get]; done) ?_)))
  intro _ _
  dsimp only
  have hfl : (((((((((((decide (a.1 0 = b.1 0) && decide (a.1 28 = b.1 28)) && decide (a.1 1 = b.1 1)) && decide (a.1 2 = b.1 2)) && decide (a.1 3 = b.1 3)) && decide (a.1 4 = b.1 4)) && (decide (a.1 5 = 1) == decide (b.1 5 = 1))) && decide (a.1 7 = b.1 7)) && decide (a.1 8 = b.1 8)) && (decide (a.1 9 = b.1 9) && (decide (a.1 10 = b.1 10) && (decide (a.1 11 = b.1 11) && decide (a.1 12 = b.1 12))))) && (decide (a.1 13 = b.1 13) && decide (a.1 14 = b.1 14))) && decide (a.2.1 = b.2.1)) = flatB a b := rfl
  apply Sat.join (α := Unit) (nx := 6) (dfs := []) (fun _ => True) (fun _ => ([(107, Bo (decide (a.1 15 = b.1 15))), (9, Bo (flatB a b)), (8, .ptr 5 0 0 0), (7, .ptr 4 0 0 0)], [(5, .own (hE b) 35), (4, .own (hE a) 35)]))
  · intro hj
    have hj := hj () trivial
    dsimp only at hj
    rw [← hfl] at hj
    refine hκ.runO 6 48 300 ?_
    simp (disch := omega) only [push_cast, simprocAttr, ca0, ca1, ca2, ca3, ca4, ca5, ca6, ca7, ca8, ca9, cb0, cb1, cb2, cb3, cb4, cb5, cb6, cb7, cb8, cb9, ha0, ha1, ha2, ha3, ha4, ha5, ha6, ha7, ha8, ha11, ha12, ha9, hb0, hb1, hb2, hb3, hb4, hb5, hb6, hb7, hb8, hb11, hb12, hb9]
    refine OutOK_guard (fun h => ?_) (fun h => ?_)
    · simp (disch := omega) only [push_cast, simprocAttr, ca0, ca1, ca2, ca3, ca4, ca5, ca6, ca7, ca8, ca9, cb0, cb1, cb2, cb3, cb4, cb5, cb6, cb7, cb8, cb9, ha0, ha1, ha2, ha3, ha4, ha5, ha6, ha7, ha8, ha11, ha12, ha9, hb0, hb1, hb2, hb3, hb4, hb5, hb6, hb7, hb8, hb11, hb12, hb9]
      refine Does.ret hκ.hP hκ.hgl (equal_ok a.2.1 b.2.1 (by omega)) ⟨trivial, by first | (simp [SV.bnd, SV.bndL]; done) | (simp [SV.bnd, SV.bndL, ec_bnd]; done), by first | (simp [SV.bnd, SV.bndL]; done) | (simp [SV.bnd, SV.bndL, ec_bnd]; done) | assumption⟩ ?_
      refine hκ.runO 6 48 300 ?_
      simp (disch := omega) only [push_cast, simprocAttr, ca0, ca1, ca2, ca3, ca4, ca5, ca6, ca7, ca8, ca9, cb0, cb1, cb2, cb3, cb4, cb5, cb6, cb7, cb8, cb9, ha0, ha1, ha2, ha3, ha4, ha5, ha6, ha7, ha8, ha11, ha12, ha9, hb0, hb1, hb2, hb3, hb4, hb5, hb6, hb7, hb8, hb11, hb12, hb9]
      rw [h, Bool.true_and] at hj
      exact hj.less (by repeat' (first | exact EnvSub.nil _ | exact HeapSub.nil _ | refine EnvSub.cons rfl ?_ | refine HeapSub.cons rfl ?_ | (refine EnvSub.cons (by simp [Env.get]; done) ?_) | (refine HeapSub.cons (by simp [Heap.get]; done) ?_))) (by repeat' (first | exact EnvSub.nil _ | exact HeapSub.nil _ | refine EnvSub.cons rfl ?_ | refine HeapSub.cons rfl ?_ | (refine EnvSub.cons (by simp [Env.get]; done) ?_) | (refine HeapSub.cons (by simp [Heap.get]; done) ?_)))
    · simp (disch := omega) only [push_cast, simprocAttr, ca0, ca1, ca2, ca3, ca4, ca5, ca6, ca7, ca8, ca9, cb0, cb1, cb2, cb3, cb4, cb5, cb6, cb7, cb8, cb9, ha0, ha1, ha2, ha3, ha4, ha5, ha6, ha7, ha8, ha11, ha12, ha9, hb0, hb1, hb2, hb3, hb4, hb5, hb6, hb7, hb8, hb11, hb12, hb9]
      simp only [Bool.not_true] at h
      rw [h, Bool.false_and] at hj
      exact hj.less (by repeat' (first | exact EnvSub.nil _ | exact HeapSub.nil _ | refine EnvSub.cons rfl ?_ | refine HeapSub.cons rfl ?_ | (refine EnvSub.cons (by simp [Env.get]; done) ?_) | (refine HeapSub.cons (by simp [Heap.get]; done) ?_))) (by repeat' (first | exact EnvSub.nil _ | exact HeapSub.nil _ | refine EnvSub.cons rfl ?_ | refine HeapSub.cons rfl ?_ | (refine EnvSub.cons (by simp [Env.get]; done) ?_) | (refine HeapSub.cons (by simp [Heap.get]; done) ?_)))
  intro _ _
  dsimp only
  apply Sat.join (α := Unit) (nx := 6) (dfs := []) (fun _ => True) (fun _ => ([(114, Bo (decide (a.1 15 = b.1 15) && decide (a.1 16 = b.1 16))), (9, Bo (flatB a b)), (8, .ptr 5 0 0 0), (7, .ptr 4 0 0 0)], [(5, .own (hE b) 35), (4, .own (hE a) 35)]))
  · intro hj
    have hj := hj () trivial
    dsimp only at hj
    refine hκ.runO 13 48 300 ?_
    simp (disch := omega) only [push_cast, simprocAttr, ca0, ca1, ca2, ca3, ca4, ca5, ca6, ca7, ca8, ca9, cb0, cb1, cb2, cb3, cb4, cb5, cb6, cb7, cb8, cb9, ha0, ha1, ha2, ha3, ha4, ha5, ha6, ha7, ha8, ha11, ha12, ha9, hb0, hb1, hb2, hb3, hb4, hb5, hb6, hb7, hb8, hb11, hb12, hb9]
    refine OutOK_guard (fun h => ?_) (fun h => ?_)
    · simp (disch := omega) only [push_cast, simprocAttr, ca0, ca1, ca2, ca3, ca4, ca5, ca6, ca7, ca8, ca9, cb0, cb1, cb2, cb3, cb4, cb5, cb6, cb7, cb8, cb9, ha0, ha1, ha2, ha3, ha4, ha5, ha6, ha7, ha8, ha11, ha12, ha9, hb0, hb1, hb2, hb3, hb4, hb5, hb6, hb7, hb8, hb11, hb12, hb9]
      rw [h, Bool.true_and] at hj
      exact hj.less (by repeat' (first | exact EnvSub.nil _ | exact HeapSub.nil _ | refine EnvSub.cons rfl ?_ | refine HeapSub.cons rfl ?_ | (refine EnvSub.cons (by simp [Env.get]; done) ?_) | (refine HeapSub.cons (by simp [Heap.get]; done) ?_))) (by repeat' (first | exact EnvSub.nil _ | exact HeapSub.nil _ | refine EnvSub.cons rfl ?_ | refine HeapSub.cons rfl ?_ | (refine EnvSub.cons (by simp [Env.get]; done) ?_) | (refine HeapSub.cons (by simp [Heap.get]; done) ?_)))
    · simp (disch := omega) only [push_cast, simprocAttr, ca0, ca1, ca2, ca3, ca4, ca5, ca6, ca7, ca8, ca9, cb0, cb1, cb2, cb3, cb4, cb5, cb6, cb7, cb8, cb9, ha0, ha1, ha2, ha3, ha4, ha5, ha6, ha7, ha8, ha11, ha12, ha9, hb0, hb1, hb2, hb3, hb4, hb5, hb6, hb7, hb8, hb11, hb12, hb9]
      simp only [Bool.not_true] at h
      rw [h, Bool.false_and] at hj
      exact hj.less (by repeat' (first | exact EnvSub.nil _ | exact HeapSub.nil _ | refine EnvSub.cons rfl ?_ | refine HeapSub.cons rfl ?_ | (refine EnvSub.cons (by simp [Env.get]; done) ?_) | (refine HeapSub.cons (by simp [Heap.get]; done) ?_))) (by repeat' (first | exact EnvSub.nil _ | exact HeapSub.nil _ | refine EnvSub.cons rfl ?_ | refine HeapSub.cons rfl ?_ | (refine EnvSub.cons (by simp [Env.get]; done) ?_) | (refine HeapSub.cons (by simp [Heap.get]; done) ?_)))
  intro _ _
  dsimp only
  apply Sat.join (α := Unit) (nx := 6) (dfs := []) (fun _ => True) (fun _ => ([(121, Bo ((decide (a.1 15 = b.1 15) && decide (a.1 16 = b.1 16)) && decide (a.1 17 = b.1 17))), (9, Bo (flatB a b)), (8, .ptr 5 0 0 0), (7, .ptr 4 0 0 0)], [(5, .own (hE b) 35), (4, .own (hE a) 35)]))
  · intro hj
    have hj := hj () trivial
    dsimp only at hj
    refine hκ.runO 20 48 300 ?_
    simp (disch := omega) only [push_cast, simprocAttr, ca0, ca1, ca2, ca3, ca4, ca5, ca6, ca7, ca8, ca9, cb0, cb1, cb2, cb3, cb4, cb5, cb6, cb7, cb8, cb9, ha0, ha1, ha2, ha3, ha4, ha5, ha6, ha7, ha8, ha11, ha12, ha9, hb0, hb1, hb2, hb3, hb4, hb5, hb6, hb7, hb8, hb11, hb12, hb9]
    refine OutOK_guard (fun h => ?_) (fun h => ?_)
    · simp (disch := omega) only [push_cast, simprocAttr, ca0, ca1, ca2, ca3, ca4, ca5, ca6, ca7, ca8, ca9, cb0, cb1, cb2, cb3, cb4, cb5, cb6, cb7, cb8, cb9, ha0, ha1, ha2, ha3, ha4, ha5, ha6, ha7, ha8, ha11, ha12, ha9, hb0, hb1, hb2, hb3, hb4, hb5, hb6, hb7, hb8, hb11, hb12, hb9]
      rw [h, Bool.true_and] at hj
      exact hj.less (by repeat' (first | exact EnvSub.nil _ | exact HeapSub.nil _ | refine EnvSub.cons rfl ?_ | refine HeapSub.cons rfl ?_ | (refine EnvSub.cons (by simp [Env.get]; done) ?_) | (refine HeapSub.cons (by simp [Heap.get]; done) ?_))) (by repeat' (first | exact EnvSub.nil _ | exact HeapSub.nil _ | refine EnvSub.cons rfl ?_ | refine HeapSub.cons rfl ?_ | (refine EnvSub.cons (by simp [Env.get]; done) ?_) | (refine HeapSub.cons (by simp [Heap.get]; done) ?_)))
    · simp (disch := omega) only [push_cast, simprocAttr, ca0, ca1, ca2, ca3, ca4, ca5, ca6, ca7, ca8, ca9, cb0, cb1, cb2, cb3, cb4, cb5, cb6, cb7, cb8, cb9, ha0, ha1, ha2, ha3, ha4, ha5, ha6, ha7, ha8, ha11, ha12, ha9, hb0, hb1, hb2, hb3, hb4, hb5, hb6, hb7, hb8, hb11, hb12, hb9]
      simp only [Bool.not_true] at h
      rw [h, Bool.false_and] at hj
      exact hj.less (by repeat' (first | exact EnvSub.nil _ | exact HeapSub.nil _ | refine EnvSub.cons rfl ?_ | refine HeapSub.cons rfl ?_ | (refine EnvSub.cons (by simp [Env.get]; done) ?_) | (refine HeapSub.cons (by simp [Heap.get]; done) ?_))) (by repeat' (first | exact EnvSub.nil _ | exact HeapSub.nil _ | refine EnvSub.cons rfl ?_ | refine HeapSub.cons rfl ?_ | (refine EnvSub.cons (by simp [Env.get]; done) ?_) | (refine HeapSub.cons (by simp [Heap.get]; done) ?_)))
  intro _ _
  dsimp only
  apply Sat.join (α := Unit) (nx := 6) (dfs := []) (fun _ => True) (fun _ => ([(128, Bo (((decide (a.1 15 = b.1 15) && decide (a.1 16 = b.1 16)) && decide (a.1 17 = b.1 17)) && decide (a.1 18 = b.1 18))), (9, Bo (flatB a b)), (8, .ptr 5 0 0 0), (7, .ptr 4 0 0 0)], [(5, .own (hE b) 35), (4, .own (hE a) 35)]))
  · intro hj
    have hj := hj () trivial
    dsimp only at hj
    refine hκ.runO 27 48 300 ?_
    simp (disch := omega) only [push_cast, simprocAttr, ca0, ca1, ca2, ca3, ca4, ca5, ca6, ca7, ca8, ca9, cb0, cb1, cb2, cb3, cb4, cb5, cb6, cb7, cb8, cb9, ha0, ha1, ha2, ha3, ha4, ha5, ha6, ha7, ha8, ha11, ha12, ha9, hb0, hb1, hb2, hb3, hb4, hb5, hb6, hb7, hb8, hb11, hb12, hb9]
    refine OutOK_guard (fun h => ?_) (fun h => ?_)
    · simp (disch := omega) only [push_cast, simprocAttr, ca0, ca1, ca2, ca3, ca4, ca5, ca6, ca7, ca8, ca9, cb0, cb1, cb2, cb3, cb4, cb5, cb6, cb7, cb8, cb9, ha0, ha1, ha2, ha3, ha4, ha5, ha6, ha7, ha8, ha11, ha12, ha9, hb0, hb1, hb2, hb3, hb4, hb5, hb6, hb7, hb8, hb11, hb12, hb9]
      rw [h, Bool.true_and] at hj
      exact hj.less (by repeat' (first | exact EnvSub.nil _ | exact HeapSub.nil _ | refine EnvSub.cons rfl ?_ | refine HeapSub.cons rfl ?_ | (refine EnvSub.cons (by simp [Env.get]; done) ?_) | (refine HeapSub.cons (by simp [Heap.get]; done) ?_))) (by repeat' (first | exact EnvSub.nil _ | exact HeapSub.nil _ | refine EnvSub.cons rfl ?_ | refine HeapSub.cons rfl ?_ | (refine EnvSub.cons (by simp [Env.get]; done) ?_) | (refine HeapSub.cons (by simp [Heap.get]; done) ?_)))
    · simp (disch := omega) only [push_cast, simprocAttr, ca0, ca1, ca2, ca3, ca4, ca5, ca6, ca7, ca8, ca9, cb0, cb1, cb2, cb3, cb4, cb5, cb6, cb7, cb8, cb9, ha0, ha1, ha2, ha3, ha4, ha5, ha6, ha7, ha8, ha11, ha12, ha9, hb0, hb1, hb2, hb3, hb4, hb5, hb6, hb7, hb8, hb11, hb12, hb9]
      simp only [Bool.not_true] at h
      rw [h, Bool.false_and] at hj
      exact hj.less (by repeat' (first | exact EnvSub.nil _ | exact HeapSub.nil _ | refine EnvSub.cons rfl ?_ | refine HeapSub.cons rfl ?_ | (refine EnvSub.cons (by simp [Env.get]; done) ?_) | (refine HeapSub.cons (by simp [Heap.get]; done) ?_))) (by repeat' (first | exact EnvSub.nil _ | exact HeapSub.nil _ | refine EnvSub.cons rfl ?_ | refine HeapSub.cons rfl ?_ | (refine EnvSub.cons (by simp [Env.get]; done) ?_) | (refine HeapSub.cons (by simp [Heap.get]; done) ?_)))
  intro _ _
  dsimp only
  apply Sat.join (α := Unit) (nx := 6) (dfs := []) (fun _ => True) (fun _ => ([(135, Bo ((((decide (a.1 15 = b.1 15) && decide (a.1 16 = b.1 16)) && decide (a.1 17 = b.1 17)) && decide (a.1 18 = b.1 18)) && decide (a.1 19 = b.1 19))), (9, Bo (flatB a b)), (8, .ptr 5 0 0 0), (7, .ptr 4 0 0 0)], [(5, .own (hE b) 35), (4, .own (hE a) 35)]))
  · intro hj
    have hj := hj () trivial
    dsimp only at hj
    refine hκ.runO 34 48 300 ?_
    simp (disch := omega) only [push_cast, simprocAttr, ca0, ca1, ca2, ca3, ca4, ca5, ca6, ca7, ca8, ca9, cb0, cb1, cb2, cb3, cb4, cb5, cb6, cb7, cb8, cb9, ha0, ha1, ha2, ha3, ha4, ha5, ha6, ha7, ha8, ha11, ha12, ha9, hb0, hb1, hb2, hb3, hb4, hb5, hb6, hb7, hb8, hb11, hb12, hb9]
    refine OutOK_guard (fun h => ?_) (fun h => ?_)
    · simp (disch := omega) only [push_cast, simprocAttr, ca0, ca1, ca2, ca3, ca4, ca5, ca6, ca7, ca8, ca9, cb0, cb1, cb2, cb3, cb4, cb5, cb6, cb7, cb8, cb9, ha0, ha1, ha2, ha3, ha4, ha5, ha6, ha7, ha8, ha11, ha12, ha9, hb0, hb1, hb2, hb3, hb4, hb5, hb6, hb7, hb8, hb11, hb12, hb9]
      rw [h, Bool.true_and] at hj
      exact hj.less (by repeat' (first | exact EnvSub.nil _ | exact HeapSub.nil _ | refine EnvSub.cons rfl ?_ | refine HeapSub.cons rfl ?_ | (refine EnvSub.cons (by simp [Env.get]; done) ?_) | (refine HeapSub.cons (by simp [Heap.get]; done) ?_))) (by repeat' (first | exact EnvSub.nil _ | exact HeapSub.nil _ | refine EnvSub.cons rfl ?_ | refine HeapSub.cons rfl ?_ | (refine EnvSub.cons (by simp [Env.get]; done) ?_) | (refine HeapSub.cons (by simp [Heap.get]; done) ?_)))
    · simp (disch := omega) only [push_cast, simprocAttr, ca0, ca1, ca2, ca3, ca4, ca5, ca6, ca7, ca8, ca9, cb0, cb1, cb2, cb3, cb4, cb5, cb6, cb7, cb8, cb9, ha0, ha1, ha2, ha3, ha4, ha5, ha6, ha7, ha8, ha11, ha12, ha9, hb0, hb1, hb2, hb3, hb4, hb5, hb6, hb7, hb8, hb11, hb12, hb9]
      simp only [Bool.not_true] at h
      rw [h, Bool.false_and] at hj
      exact hj.less (by repeat' (first | exact EnvSub.nil _ | exact HeapSub.nil _ | refine EnvSub.cons rfl ?_ | refine HeapSub.cons rfl ?_ | (refine EnvSub.cons (by simp [Env.get]; done) ?_) | (refine HeapSub.cons (by simp [Heap.get]; done) ?_))) (by repeat' (first | exact EnvSub.nil _ | exact HeapSub.nil _ | refine EnvSub.cons rfl ?_ | refine HeapSub.cons rfl ?_ | (refine EnvSub.cons (by simp [Env.get]; done) ?_) | (refine HeapSub.cons (by simp [Heap.get]; done) ?_)))
  intro _ _
  dsimp only
  apply Sat.join (α := Unit) (nx := 6) (dfs := []) (fun _ => True) (fun _ => ([(142, Bo (((((decide (a.1 15 = b.1 15) && decide (a.1 16 = b.1 16)) && decide (a.1 17 = b.1 17)) && decide (a.1 18 = b.1 18)) && decide (a.1 19 = b.1 19)) && decide (a.1 20 = b.1 20))), (9, Bo (flatB a b)), (8, .ptr 5 0 0 0), (7, .ptr 4 0 0 0)], [(5, .own (hE b) 35), (4, .own (hE a) 35)]))
  · intro hj
    have hj := hj () trivial
    dsimp only at hj
    refine hκ.runO 41 48 300 ?_
    simp (disch := omega) only [push_cast, simprocAttr, ca0, ca1, ca2, ca3, ca4, ca5, ca6, ca7, ca8, ca9, cb0, cb1, cb2, cb3, cb4, cb5, cb6, cb7, cb8, cb9, ha0, ha1, ha2, ha3, ha4, ha5, ha6, ha7, ha8, ha11, ha12, ha9, hb0, hb1, hb2, hb3, hb4, hb5, hb6, hb7, hb8, hb11, hb12, hb9]
    refine OutOK_guard (fun h => ?_) (fun h => ?_)
    · simp (disch := omega) only [push_cast, simprocAttr, ca0, ca1, ca2, ca3, ca4, ca5, ca6, ca7, ca8, ca9, cb0, cb1, cb2, cb3, cb4, cb5, cb6, cb7, cb8, cb9, ha0, ha1, ha2, ha3, ha4, ha5, ha6, ha7, ha8, ha11, ha12, ha9, hb0, hb1, hb2, hb3, hb4, hb5, hb6, hb7, hb8, hb11, hb12, hb9]
      rw [h, Bool.true_and] at hj
      exact hj.less (by repeat' (first | exact EnvSub.nil _ | exact HeapSub.nil _ | refine EnvSub.cons rfl ?_ | refine HeapSub.cons rfl ?_ | (refine EnvSub.cons (by simp [Env.get]; done) ?_) | (refine HeapSub.cons (by simp [Heap.get]; done) ?_))) (by repeat' (first | exact EnvSub.nil _ | exact HeapSub.nil _ | refine EnvSub.cons rfl ?_ | refine HeapSub.cons rfl ?_ | (refine EnvSub.cons (by simp [Env.get]; done) ?_) | (refine HeapSub.cons (by simp [Heap.get]; done) ?_)))
    · simp (disch := omega) only [push_cast, simprocAttr, ca0, ca1, ca2, ca3, ca4, ca5, ca6, ca7, ca8, ca9, cb0, cb1, cb2, cb3, cb4, cb5, cb6, cb7, cb8, cb9, ha0, ha1, ha2, ha3, ha4, ha5, ha6, ha7, ha8, ha11, ha12, ha9, hb0, hb1, hb2, hb3, hb4, hb5, hb6, hb7, hb8, hb11, hb12, hb9]
      simp only [Bool.not_true] at h
      rw [h, Bool.false_and] at hj
      exact hj.less (by repeat' (first | exact EnvSub.nil _ | exact HeapSub.nil _ | refine EnvSub.cons rfl ?_ | refine HeapSub.cons rfl ?_ | (refine EnvSub.cons (by simp [Env.get]; done) ?_) | (refine HeapSub.cons (by simp [Heap.get]; done) ?_))) (by repeat' (first | exact EnvSub.nil _ | exact HeapSub.nil _ | refine EnvSub.cons rfl ?_ | refine HeapSub.cons rfl ?_ | (refine EnvSub.cons (by simp [Env.get]; done) ?_) | (refine HeapSub.cons (by simp [Heap.get]; done) ?_)))
  intro _ _
  dsimp only
  apply Sat.join (α := Unit) (nx := 6) (dfs := []) (fun _ => True) (fun _ => ([(150, Bo ((((((decide (a.1 15 = b.1 15) && decide (a.1 16 = b.1 16)) && decide (a.1 17 = b.1 17)) && decide (a.1 18 = b.1 18)) && decide (a.1 19 = b.1 19)) && decide (a.1 20 = b.1 20)) && decide (a.1 21 = b.1 21))), (9, Bo (flatB a b)), (8, .ptr 5 0 0 0), (7, .ptr 4 0 0 0)], [(5, .own (hE b) 35), (4, .own (hE a) 35)]))
  · intro hj
    have hj := hj () trivial
    dsimp only at hj
    refine hκ.runO 2 30 300 ?_
    simp (disch := omega) only [push_cast, simprocAttr, ca0, ca1, ca2, ca3, ca4, ca5, ca6, ca7, ca8, ca9, cb0, cb1, cb2, cb3, cb4, cb5, cb6, cb7, cb8, cb9, ha0, ha1, ha2, ha3, ha4, ha5, ha6, ha7, ha8, ha11, ha12, ha9, hb0, hb1, hb2, hb3, hb4, hb5, hb6, hb7, hb8, hb11, hb12, hb9]
    refine OutOK_guard (fun h => ?_) (fun h => ?_)
    · simp (disch := omega) only [push_cast, simprocAttr, ca0, ca1, ca2, ca3, ca4, ca5, ca6, ca7, ca8, ca9, cb0, cb1, cb2, cb3, cb4, cb5, cb6, cb7, cb8, cb9, ha0, ha1, ha2, ha3, ha4, ha5, ha6, ha7, ha8, ha11, ha12, ha9, hb0, hb1, hb2, hb3, hb4, hb5, hb6, hb7, hb8, hb11, hb12, hb9]
      rw [h, Bool.true_and] at hj
      exact hj.less (by repeat' (first | exact EnvSub.nil _ | exact HeapSub.nil _ | refine EnvSub.cons rfl ?_ | refine HeapSub.cons rfl ?_ | (refine EnvSub.cons (by simp [Env.get]; done) ?_) | (refine HeapSub.cons (by simp [Heap.get]; done) ?_))) (by repeat' (first | exact EnvSub.nil _ | exact HeapSub.nil _ | refine EnvSub.cons rfl ?_ | refine HeapSub.cons rfl ?_ | (refine EnvSub.cons (by simp [Env.get]; done) ?_) | (refine HeapSub.cons (by simp [Heap.get]; done) ?_)))
    · simp (disch := omega) only [push_cast, simprocAttr, ca0, ca1, ca2, ca3, ca4, ca5, ca6, ca7, ca8, ca9, cb0, cb1, cb2, cb3, cb4, cb5, cb6, cb7, cb8, cb9, ha0, ha1, ha2, ha3, ha4, ha5, ha6, ha7, ha8, ha11, ha12, ha9, hb0, hb1, hb2, hb3, hb4, hb5, hb6, hb7, hb8, hb11, hb12, hb9]
      simp only [Bool.not_true] at h
      rw [h, Bool.false_and] at hj
      exact hj.less (by repeat' (first | exact EnvSub.nil _ | exact HeapSub.nil _ | refine EnvSub.cons rfl ?_ | refine HeapSub.cons rfl ?_ | (refine EnvSub.cons (by simp [Env.get]; done) ?_) | (refine HeapSub.cons (by simp [Heap.get]; done) ?_))) (by repeat' (first | exact EnvSub.nil _ | exact HeapSub.nil _ | refine EnvSub.cons rfl ?_ | refine HeapSub.cons rfl ?_ | (refine EnvSub.cons (by simp [Env.get]; done) ?_) | (refine HeapSub.cons (by simp [Heap.get]; done) ?_)))
  intro _ _
  dsimp only
  apply Sat.join (α := Unit) (nx := 6) (dfs := []) (fun _ => True) (fun _ => ([(157, Bo (((((((decide (a.1 15 = b.1 15) && decide (a.1 16 = b.1 16)) && decide (a.1 17 = b.1 17)) && decide (a.1 18 = b.1 18)) && decide (a.1 19 = b.1 19)) && decide (a.1 20 = b.1 20)) && decide (a.1 21 = b.1 21)) && decide (a.1 22 = b.1 22))), (9, Bo (flatB a b)), (8, .ptr 5 0 0 0), (7, .ptr 4 0 0 0)], [(5, .own (hE b) 35), (4, .own (hE a) 35)]))
  · intro hj
    have hj := hj () trivial
    dsimp only at hj
    refine hκ.runO 9 30 300 ?_
    simp (disch := omega) only [push_cast, simprocAttr, ca0, ca1, ca2, ca3, ca4, ca5, ca6, ca7, ca8, ca9, cb0, cb1, cb2, cb3, cb4, cb5, cb6, cb7, cb8, cb9, ha0, ha1, ha2, ha3, ha4, ha5, ha6, ha7, ha8, ha11, ha12, ha9, hb0, hb1, hb2, hb3, hb4, hb5, hb6, hb7, hb8, hb11, hb12, hb9]
    refine OutOK_guard (fun h => ?_) (fun h => ?_)
    · simp (disch := omega) only [push_cast, simprocAttr, ca0, ca1, ca2, ca3, ca4, ca5, ca6, ca7, ca8, ca9, cb0, cb1, cb2, cb3, cb4, cb5, cb6, cb7, cb8, cb9, ha0, ha1, ha2, ha3, ha4, ha5, ha6, ha7, ha8, ha11, ha12, ha9, hb0, hb1, hb2, hb3, hb4, hb5, hb6, hb7, hb8, hb11, hb12, hb9]
      rw [h, Bool.true_and] at hj
      exact hj.less (by repeat' (first | exact EnvSub.nil _ | exact HeapSub.nil _ | refine EnvSub.cons rfl ?_ | refine HeapSub.cons rfl ?_ | (refine EnvSub.cons (by simp [Env.get]; done) ?_) | (refine HeapSub.cons (by simp [Heap.get]; done) ?_))) (by repeat' (first | exact EnvSub.nil _ | exact HeapSub.nil _ | refine EnvSub.cons rfl ?_ | refine HeapSub.cons rfl ?_ | (refine EnvSub.cons (by simp [Env.get]; done) ?_) | (refine HeapSub.cons (by simp [Heap.get]; done) ?_)))
    · simp (disch := omega) only [push_cast, simprocAttr, ca0, ca1, ca2, ca3, ca4, ca5, ca6, ca7, ca8, ca9, cb0, cb1, cb2, cb3, cb4, cb5, cb6, cb7, cb8, cb9, ha0, ha1, ha2, ha3, ha4, ha5, ha6, ha7, ha8, ha11, ha12, ha9, hb0, hb1, hb2, hb3, hb4, hb5, hb6, hb7, hb8, hb11, hb12, hb9]
      simp only [Bool.not_true] at h
      rw [h, Bool.false_and] at hj
      exact hj.less (by repeat' (first | exact EnvSub.nil _ | exact HeapSub.nil _ | refine EnvSub.cons rfl ?_ | refine HeapSub.cons rfl ?_ | (refine EnvSub.cons (by simp [Env.get]; done) ?_) | (refine HeapSub.cons (by simp [Heap.get]; done) ?_))) (by repeat' (first | exact EnvSub.nil _ | exact HeapSub.nil _ | refine EnvSub.cons rfl ?_ | refine HeapSub.cons rfl ?_ | (refine EnvSub.cons (by simp [Env.get]; done) ?_) | (refine HeapSub.cons (by simp [Heap.get]; done) ?_)))
  intro _ _
  dsimp only
  apply Sat.join (α := Unit) (nx := 6) (dfs := []) (fun _ => True) (fun _ => ([(164, Bo ((((((((decide (a.1 15 = b.1 15) && decide (a.1 16 = b.1 16)) && decide (a.1 17 = b.1 17)) && decide (a.1 18 = b.1 18)) && decide (a.1 19 = b.1 19)) && decide (a.1 20 = b.1 20)) && decide (a.1 21 = b.1 21)) && decide (a.1 22 = b.1 22)) && decide (a.1 23 = b.1 23))), (9, Bo (flatB a b)), (8, .ptr 5 0 0 0), (7, .ptr 4 0 0 0)], [(5, .own (hE b) 35), (4, .own (hE a) 35)]))
  · intro hj
    have hj := hj () trivial
    dsimp only at hj
    refine hκ.runO 16 30 300 ?_
    simp (disch := omega) only [push_cast, simprocAttr, ca0, ca1, ca2, ca3, ca4, ca5, ca6, ca7, ca8, ca9, cb0, cb1, cb2, cb3, cb4, cb5, cb6, cb7, cb8, cb9, ha0, ha1, ha2, ha3, ha4, ha5, ha6, ha7, ha8, ha11, ha12, ha9, hb0, hb1, hb2, hb3, hb4, hb5, hb6, hb7, hb8, hb11, hb12, hb9]
    refine OutOK_guard (fun h => ?_) (fun h => ?_)
    · simp (disch := omega) only [push_cast, simprocAttr, ca0, ca1, ca2, ca3, ca4, ca5, ca6, ca7, ca8, ca9, cb0, cb1, cb2, cb3, cb4, cb5, cb6, cb7, cb8, cb9, ha0, ha1, ha2, ha3, ha4, ha5, ha6, ha7, ha8, ha11, ha12, ha9, hb0, hb1, hb2, hb3, hb4, hb5, hb6, hb7, hb8, hb11, hb12, hb9]
      rw [h, Bool.true_and] at hj
      exact hj.less (by repeat' (first | exact EnvSub.nil _ | exact HeapSub.nil _ | refine EnvSub.cons rfl ?_ | refine HeapSub.cons rfl ?_ | (refine EnvSub.cons (by simp [Env.get]; done) ?_) | (refine HeapSub.cons (by simp [Heap.get]; done) ?_))) (by repeat' (first | exact EnvSub.nil _ | exact HeapSub.nil _ | refine EnvSub.cons rfl ?_ | refine HeapSub.cons rfl ?_ | (refine EnvSub.cons (by simp [Env.get]; done) ?_) | (refine HeapSub.cons (by simp [Heap.get]; done) ?_)))
    · simp (disch := omega) only [push_cast, simprocAttr, ca0, ca1, ca2, ca3, ca4, ca5, ca6, ca7, ca8, ca9, cb0, cb1, cb2, cb3, cb4, cb5, cb6, cb7, cb8, cb9, ha0, ha1, ha2, ha3, ha4, ha5, ha6, ha7, ha8, ha11, ha12, ha9, hb0, hb1, hb2, hb3, hb4, hb5, hb6, hb7, hb8, hb11, hb12, hb9]
      simp only [Bool.not_true] at h
      rw [h, Bool.false_and] at hj
      exact hj.less (by repeat' (first | exact EnvSub.nil _ | exact HeapSub.nil _ | refine EnvSub.cons rfl ?_ | refine HeapSub.cons rfl ?_ | (refine EnvSub.cons (by simp [Env.get]; done) ?_) | (refine HeapSub.cons (by simp [Heap.get]; done) ?_))) (by repeat' (first | exact EnvSub.nil _ | exact HeapSub.nil _ | refine EnvSub.cons rfl ?_ | refine HeapSub.cons rfl ?_ | (refine EnvSub.cons (by simp [Env.get]; done) ?_) | (refine HeapSub.cons (by simp [Heap.get]; done) ?_)))
  intro _ _
  dsimp only
  apply Sat.join (α := Unit) (nx := 6) (dfs := []) (fun _ => True) (fun _ => ([(171, Bo (((((((((decide (a.1 15 = b.1 15) && decide (a.1 16 = b.1 16)) && decide (a.1 17 = b.1 17)) && decide (a.1 18 = b.1 18)) && decide (a.1 19 = b.1 19)) && decide (a.1 20 = b.1 20)) && decide (a.1 21 = b.1 21)) && decide (a.1 22 = b.1 22)) && decide (a.1 23 = b.1 23)) && (decide (a.1 24 = b.1 24) && decide (a.1 25 = b.1 25)))), (9, Bo (flatB a b)), (8, .ptr 5 0 0 0), (7, .ptr 4 0 0 0)], [(5, .own (hE b) 35), (4, .own (hE a) 35)]))
  · intro hj
    have hj := hj () trivial
    dsimp only at hj
    refine hκ.runO 23 30 300 ?_
    simp (disch := omega) only [push_cast, simprocAttr, ca0, ca1, ca2, ca3, ca4, ca5, ca6, ca7, ca8, ca9, cb0, cb1, cb2, cb3, cb4, cb5, cb6, cb7, cb8, cb9, ha0, ha1, ha2, ha3, ha4, ha5, ha6, ha7, ha8, ha11, ha12, ha9, hb0, hb1, hb2, hb3, hb4, hb5, hb6, hb7, hb8, hb11, hb12, hb9]
    refine OutOK_guard (fun h => ?_) (fun h => ?_)
    · simp (disch := omega) only [push_cast, simprocAttr, ca0, ca1, ca2, ca3, ca4, ca5, ca6, ca7, ca8, ca9, cb0, cb1, cb2, cb3, cb4, cb5, cb6, cb7, cb8, cb9, ha0, ha1, ha2, ha3, ha4, ha5, ha6, ha7, ha8, ha11, ha12, ha9, hb0, hb1, hb2, hb3, hb4, hb5, hb6, hb7, hb8, hb11, hb12, hb9]
      rw [h, Bool.true_and] at hj
      exact hj.less (by repeat' (first | exact EnvSub.nil _ | exact HeapSub.nil _ | refine EnvSub.cons rfl ?_ | refine HeapSub.cons rfl ?_ | (refine EnvSub.cons (by simp [Env.get]; done) ?_) | (refine HeapSub.cons (by simp [Heap.get]; done) ?_))) (by repeat' (first | exact EnvSub.nil _ | exact HeapSub.nil _ | refine EnvSub.cons rfl ?_ | refine HeapSub.cons rfl ?_ | (refine EnvSub.cons (by simp [Env.get]; done) ?_) | (refine HeapSub.cons (by simp [Heap.get]; done) ?_)))
    · simp (disch := omega) only [push_cast, simprocAttr, ca0, ca1, ca2, ca3, ca4, ca5, ca6, ca7, ca8, ca9, cb0, cb1, cb2, cb3, cb4, cb5, cb6, cb7, cb8, cb9, ha0, ha1, ha2, ha3, ha4, ha5, ha6, ha7, ha8, ha11, ha12, ha9, hb0, hb1, hb2, hb3, hb4, hb5, hb6, hb7, hb8, hb11, hb12, hb9]
      simp only [Bool.not_true] at h
      rw [h, Bool.false_and] at hj
      exact hj.less (by repeat' (first | exact EnvSub.nil _ | exact HeapSub.nil _ | refine EnvSub.cons rfl ?_ | refine HeapSub.cons rfl ?_ | (refine EnvSub.cons (by simp [Env.get]; done) ?_) | (refine HeapSub.cons (by simp [Heap.get]; done) ?_))) (by repeat' (first | exact EnvSub.nil _ | exact HeapSub.nil _ | refine EnvSub.cons rfl ?_ | refine HeapSub.cons rfl ?_ | (refine EnvSub.cons (by simp [Env.get]; done) ?_) | (refine HeapSub.cons (by simp [Heap.get]; done) ?_)))
  intro _ _
  dsimp only
  have hlv : ((((((((((decide (a.1 15 = b.1 15) && decide (a.1 16 = b.1 16)) && decide (a.1 17 = b.1 17)) && decide (a.1 18 = b.1 18)) && decide (a.1 19 = b.1 19)) && decide (a.1 20 = b.1 20)) && decide (a.1 21 = b.1 21)) && decide (a.1 22 = b.1 22)) && decide (a.1 23 = b.1 23)) && (decide (a.1 24 = b.1 24) && decide (a.1 25 = b.1 25))) && decide (a.1 26 = b.1 26)) = liveB a b := rfl
  apply Sat.join (α := Unit) (nx := 6) (dfs := []) (fun _ => True) (fun _ => ([(179, Bo (flatB a b)), (10, Bo (liveB a b)), (8, .ptr 5 0 0 0), (7, .ptr 4 0 0 0)], [(5, .own (hE b) 35), (4, .own (hE a) 35)]))
  · intro hj
    have hj := hj () trivial
    dsimp only at hj
    rw [← hlv] at hj
    refine hκ.runO 2 12 300 ?_
    simp (disch := omega) only [push_cast, simprocAttr, ca0, ca1, ca2, ca3, ca4, ca5, ca6, ca7, ca8, ca9, cb0, cb1, cb2, cb3, cb4, cb5, cb6, cb7, cb8, cb9, ha0, ha1, ha2, ha3, ha4, ha5, ha6, ha7, ha8, ha11, ha12, ha9, hb0, hb1, hb2, hb3, hb4, hb5, hb6, hb7, hb8, hb11, hb12, hb9]
    refine OutOK_guard (fun h => ?_) (fun h => ?_)
    · simp (disch := omega) only [push_cast, simprocAttr, ca0, ca1, ca2, ca3, ca4, ca5, ca6, ca7, ca8, ca9, cb0, cb1, cb2, cb3, cb4, cb5, cb6, cb7, cb8, cb9, ha0, ha1, ha2, ha3, ha4, ha5, ha6, ha7, ha8, ha11, ha12, ha9, hb0, hb1, hb2, hb3, hb4, hb5, hb6, hb7, hb8, hb11, hb12, hb9]
      rw [h, Bool.true_and] at hj
      exact hj.less (by repeat' (first | exact EnvSub.nil _ | exact HeapSub.nil _ | refine EnvSub.cons rfl ?_ | refine HeapSub.cons rfl ?_ | (refine EnvSub.cons (by simp [Env.get]; done) ?_) | (refine HeapSub.cons (by simp [Heap.get]; done) ?_))) (by repeat' (first | exact EnvSub.nil _ | exact HeapSub.nil _ | refine EnvSub.cons rfl ?_ | refine HeapSub.cons rfl ?_ | (refine EnvSub.cons (by simp [Env.get]; done) ?_) | (refine HeapSub.cons (by simp [Heap.get]; done) ?_)))
    · simp (disch := omega) only [push_cast, simprocAttr, ca0, ca1, ca2, ca3, ca4, ca5, ca6, ca7, ca8, ca9, cb0, cb1, cb2, cb3, cb4, cb5, cb6, cb7, cb8, cb9, ha0, ha1, ha2, ha3, ha4, ha5, ha6, ha7, ha8, ha11, ha12, ha9, hb0, hb1, hb2, hb3, hb4, hb5, hb6, hb7, hb8, hb11, hb12, hb9]
      simp only [Bool.not_true] at h
      rw [h, Bool.false_and] at hj
      exact hj.less (by repeat' (first | exact EnvSub.nil _ | exact HeapSub.nil _ | refine EnvSub.cons rfl ?_ | refine HeapSub.cons rfl ?_ | (refine EnvSub.cons (by simp [Env.get]; done) ?_) | (refine HeapSub.cons (by simp [Heap.get]; done) ?_))) (by repeat' (first | exact EnvSub.nil _ | exact HeapSub.nil _ | refine EnvSub.cons rfl ?_ | refine HeapSub.cons rfl ?_ | (refine EnvSub.cons (by simp [Env.get]; done) ?_) | (refine HeapSub.cons (by simp [Heap.get]; done) ?_)))
  intro _ _
  dsimp only
  apply Sat.join (α := Unit) (nx := 6) (dfs := []) (fun _ => True) (fun _ => ([(182, Bo (flatB a b && liveB a b)), (8, .ptr 5 0 0 0), (7, .ptr 4 0 0 0)], [(5, .own (hE b) 35), (4, .own (hE a) 35)]))
  · intro hj
    have hj := hj () trivial
    dsimp only at hj
    refine hκ.runO 5 12 300 ?_
    simp (disch := omega) only [push_cast, simprocAttr, ca0, ca1, ca2, ca3, ca4, ca5, ca6, ca7, ca8, ca9, cb0, cb1, cb2, cb3, cb4, cb5, cb6, cb7, cb8, cb9, ha0, ha1, ha2, ha3, ha4, ha5, ha6, ha7, ha8, ha11, ha12, ha9, hb0, hb1, hb2, hb3, hb4, hb5, hb6, hb7, hb8, hb11, hb12, hb9]
    refine OutOK_guard (fun h => ?_) (fun h => ?_)
    · simp (disch := omega) only [push_cast, simprocAttr, ca0, ca1, ca2, ca3, ca4, ca5, ca6, ca7, ca8, ca9, cb0, cb1, cb2, cb3, cb4, cb5, cb6, cb7, cb8, cb9, ha0, ha1, ha2, ha3, ha4, ha5, ha6, ha7, ha8, ha11, ha12, ha9, hb0, hb1, hb2, hb3, hb4, hb5, hb6, hb7, hb8, hb11, hb12, hb9]
      rw [h, Bool.true_and] at hj
      exact hj.less (by repeat' (first | exact EnvSub.nil _ | exact HeapSub.nil _ | refine EnvSub.cons rfl ?_ | refine HeapSub.cons rfl ?_ | (refine EnvSub.cons (by simp [Env.get]; done) ?_) | (refine HeapSub.cons (by simp [Heap.get]; done) ?_))) (by repeat' (first | exact EnvSub.nil _ | exact HeapSub.nil _ | refine EnvSub.cons rfl ?_ | refine HeapSub.cons rfl ?_ | (refine EnvSub.cons (by simp [Env.get]; done) ?_) | (refine HeapSub.cons (by simp [Heap.get]; done) ?_)))
    · simp (disch := omega) only [push_cast, simprocAttr, ca0, ca1, ca2, ca3, ca4, ca5, ca6, ca7, ca8, ca9, cb0, cb1, cb2, cb3, cb4, cb5, cb6, cb7, cb8, cb9, ha0, ha1, ha2, ha3, ha4, ha5, ha6, ha7, ha8, ha11, ha12, ha9, hb0, hb1, hb2, hb3, hb4, hb5, hb6, hb7, hb8, hb11, hb12, hb9]
      simp only [Bool.not_true] at h
      rw [h, Bool.false_and] at hj
      exact hj.less (by repeat' (first | exact EnvSub.nil _ | exact HeapSub.nil _ | refine EnvSub.cons rfl ?_ | refine HeapSub.cons rfl ?_ | (refine EnvSub.cons (by simp [Env.get]; done) ?_) | (refine HeapSub.cons (by simp [Heap.get]; done) ?_))) (by repeat' (first | exact EnvSub.nil _ | exact HeapSub.nil _ | refine EnvSub.cons rfl ?_ | refine HeapSub.cons rfl ?_ | (refine EnvSub.cons (by simp [Env.get]; done) ?_) | (refine HeapSub.cons (by simp [Heap.get]; done) ?_)))
  intro _ _
  dsimp only
  have hs : sameE a b = (flatB a b && liveB a b && decide (a.2.2 = b.2.2)) := rfl
  rw [hs] at hκ
  clear hs hfl hlv
  generalize (flatB a b && liveB a b) = p at *
  cases p
  · rw [Bool.false_and] at hκ
    refine hκ.run 300 ?_
    simp (disch := omega) only [push_cast, simprocAttr, ca0, ca1, ca2, ca3, ca4, ca5, ca6, ca7, ca8, ca9, cb0, cb1, cb2, cb3, cb4, cb5, cb6, cb7, cb8, cb9, ha0, ha1, ha2, ha3, ha4, ha5, ha6, ha7, ha8, ha11, ha12, ha9, hb0, hb1, hb2, hb3, hb4, hb5, hb6, hb7, hb8, hb11, hb12, hb9]
    refine hκ.ret _ _ _ _ _ _ trivial rfl ?_
    exact .ret trivial
  · rw [Bool.true_and] at hκ
    refine hκ.run 300 ?_
    simp (disch := omega) only [push_cast, simprocAttr, ca0, ca1, ca2, ca3, ca4, ca5, ca6, ca7, ca8, ca9, cb0, cb1, cb2, cb3, cb4, cb5, cb6, cb7, cb8, cb9, ha0, ha1, ha2, ha3, ha4, ha5, ha6, ha7, ha8, ha11, ha12, ha9, hb0, hb1, hb2, hb3, hb4, hb5, hb6, hb7, hb8, hb11, hb12, hb9]
    refine Does.ret hκ.hP hκ.hgl (equal_ok a.2.2 b.2.2 (by omega)) ⟨trivial, by first | (simp [SV.bnd, SV.bndL]; done) | (simp [SV.bnd, SV.bndL, ec_bnd]; done), by first | (simp [SV.bnd, SV.bndL]; done) | (simp [SV.bnd, SV.bndL, ec_bnd]; done) | assumption⟩ ?_
    refine hκ.run 300 ?_
    simp (disch := omega) only [push_cast, simprocAttr, ca0, ca1, ca2, ca3, ca4, ca5, ca6, ca7, ca8, ca9, cb0, cb1, cb2, cb3, cb4, cb5, cb6, cb7, cb8, cb9, ha0, ha1, ha2, ha3, ha4, ha5, ha6, ha7, ha8, ha11, ha12, ha9, hb0, hb1, hb2, hb3, hb4, hb5, hb6, hb7, hb8, hb11, hb12, hb9]
    refine hκ.ret _ _ _ _ _ _ trivial rfl ?_
    exact .ret trivial
end Go.Proofs.Ytmieikflcolbaaa
