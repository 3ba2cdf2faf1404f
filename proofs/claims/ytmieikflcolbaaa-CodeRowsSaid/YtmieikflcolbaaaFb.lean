/- From bytes: one byte each, masks, flags. No condition. -/
import Derived.Test.YtmieikflcolbaaaFa
namespace Go.Proofs.Ytmieikflcolbaaa
open Go Go.Sy
set_option maxRecDepth 100000
set_option linter.unusedSimpArgs false
set_option linter.unusedVariables false
def upd (a : Evt) (i : Nat) (x : Int) : Evt := (fun j => if j = i then x else a.1 j, a.2)
theorem small1D (bs : List Int) (s : In) (cs cs' : List SV) (T i : Nat) (hcs : SV.bndL 0 cs) (hcs' : SV.bndL 0 cs') (hp : paste cs i [I (numR bs s.wk s.er 1)] = some cs') (hw : s.wk ≤ bs.length) (hn : bs.length < 2 ^ 46) (hby : ∀ b ∈ bs, 0 ≤ b ∧ b < 256) :
    Con Try.prog gl0 (fnv 49) [.ptr 0 0 0 0, .sl 3 1 0 1 1] 4 [(0, CaD s.bad), (1, .own cs T), (2, Rdr bs s.wk s.er), (3, .own [.ptr 1 0 0 i] 98)] (RetD bs (rdS bs 1 s) cs' T 4 vd) := by
  refine Con.of Try.ok49 (nt := 16) (res := []) Try.mixed Try.func49 rfl rfl rfl rfl fun κ xc hκ => hκ.run 300 ?_
  simp (disch := omega) only [push_cast, simprocAttr]
  refine Sat.enter ?_
  refine hκ.run 300 ?_
  simp (disch := omega) only [push_cast, simprocAttr]
  refine (Does.D hκ.hP hκ.hgl _ (id) [0, 1, 2] _ _ (oneAD bs s cs cs' T i hcs hcs' hp hw hn hby) (by rfl) ⟨trivial, by simp [SV.bnd, SV.bndL], by simp [SV.bnd, SV.bndL]⟩ (by first | assumption | exact ec_bnd _ _ | (simp [SV.bnd, SV.bndL]; done)) (by decide) (by intro i hi; (repeat (first | omega | (dsimp only [id]; omega) | split))) (by intro i j; (repeat (first | omega | (dsimp only [id]; omega) | split))) (by repeat' (first | exact HeapIn.nil | refine HeapIn.cons (by decide) (by first | exact Blk.bnd_own0 (by assumption) | exact ec_bnd _ _ | (simp [Blk.bnd, SV.bnd, SV.bndL]; done)) (by simp) (by first | rfl | (rw [Blk.ren_own0 (by assumption)]; rfl)) ?_)) ?_)
  simp only [renH, Blk.ren, SV.renL, SV.ren, tau, without, List.mem_singleton, List.mem_cons, List.not_mem_nil, or_false, or_true, true_or, Nat.reduceEqDiff, Nat.reduceLT, Nat.zero_lt_one, Nat.one_ne_zero, Nat.zero_ne_one, Nat.zero_lt_succ, ↓reduceIte, List.cons_append, List.nil_append, List.append_nil, id]
  refine hκ.run 300 ?_
  simp (disch := omega) only [push_cast, simprocAttr]
  refine Sat.again ?_
  refine hκ.run 300 ?_
  simp (disch := omega) only [push_cast, simprocAttr]
  refine hκ.fin _ _ _ _ _ trivial rfl ?_
  exact Post.D hcs' trivial (by decide) rfl rfl rfl
theorem small2D (bs : List Int) (s : In) (cs cs1 cs' : List SV) (T i j : Nat) (hcs : SV.bndL 0 cs) (hcs1 : SV.bndL 0 cs1) (hcs' : SV.bndL 0 cs') (hp : paste cs i [I (numR bs s.wk s.er 1)] = some cs1)
    (hp1 : paste cs1 j [I (numR bs (rdS bs 1 s).wk (rdS bs 1 s).er 1)] = some cs') (hw : s.wk ≤ bs.length) (hn : bs.length < 2 ^ 46) (hby : ∀ b ∈ bs, 0 ≤ b ∧ b < 256) :
    Con Try.prog gl0 (fnv 49) [.ptr 0 0 0 0, .sl 3 1 0 2 2] 4 [(0, CaD s.bad), (1, .own cs T), (2, Rdr bs s.wk s.er), (3, .own [.ptr 1 0 0 i, .ptr 1 0 0 j] 98)] (RetD bs (rdS bs 1 (rdS bs 1 s)) cs' T 4 vd) := by
  refine Con.of Try.ok49 (nt := 16) (res := []) Try.mixed Try.func49 rfl rfl rfl rfl fun κ xc hκ => hκ.run 300 ?_
  simp (disch := omega) only [push_cast, simprocAttr]
  refine Sat.enter ?_
  refine hκ.run 300 ?_
  simp (disch := omega) only [push_cast, simprocAttr]
  refine (Does.D hκ.hP hκ.hgl _ (id) [0, 1, 2] _ _ (oneAD bs s cs cs1 T i hcs hcs1 hp hw hn hby) (by rfl) ⟨trivial, by simp [SV.bnd, SV.bndL], by simp [SV.bnd, SV.bndL]⟩ (by first | assumption | exact ec_bnd _ _ | (simp [SV.bnd, SV.bndL]; done)) (by decide) (by intro i hi; (repeat (first | omega | (dsimp only [id]; omega) | split))) (by intro i j; (repeat (first | omega | (dsimp only [id]; omega) | split))) (by repeat' (first | exact HeapIn.nil | refine HeapIn.cons (by decide) (by first | exact Blk.bnd_own0 (by assumption) | exact ec_bnd _ _ | (simp [Blk.bnd, SV.bnd, SV.bndL]; done)) (by simp) (by first | rfl | (rw [Blk.ren_own0 (by assumption)]; rfl)) ?_)) ?_)
  simp only [renH, Blk.ren, SV.renL, SV.ren, tau, without, List.mem_singleton, List.mem_cons, List.not_mem_nil, or_false, or_true, true_or, Nat.reduceEqDiff, Nat.reduceLT, Nat.zero_lt_one, Nat.one_ne_zero, Nat.zero_ne_one, Nat.zero_lt_succ, ↓reduceIte, List.cons_append, List.nil_append, List.append_nil, id]
  refine hκ.run 300 ?_
  simp (disch := omega) only [push_cast, simprocAttr]
  refine Sat.again ?_
  refine hκ.run 300 ?_
  simp (disch := omega) only [push_cast, simprocAttr]
  refine (Does.D hκ.hP hκ.hgl _ (id) [0, 1, 2] _ _ (oneAD bs _ cs1 cs' T j hcs1 hcs' hp1 (rdS_wk hw) hn hby) (by rfl) ⟨trivial, by simp [SV.bnd, SV.bndL], by simp [SV.bnd, SV.bndL]⟩ (by first | assumption | exact ec_bnd _ _ | (simp [SV.bnd, SV.bndL]; done)) (by decide) (by intro i hi; (repeat (first | omega | (dsimp only [id]; omega) | split))) (by intro i j; (repeat (first | omega | (dsimp only [id]; omega) | split))) (by repeat' (first | exact HeapIn.nil | refine HeapIn.cons (by decide) (by first | exact Blk.bnd_own0 (by assumption) | exact ec_bnd _ _ | (simp [Blk.bnd, SV.bnd, SV.bndL]; done)) (by simp) (by first | rfl | (rw [Blk.ren_own0 (by assumption)]; rfl)) ?_)) ?_)
  simp only [renH, Blk.ren, SV.renL, SV.ren, tau, without, List.mem_singleton, List.mem_cons, List.not_mem_nil, or_false, or_true, true_or, Nat.reduceEqDiff, Nat.reduceLT, Nat.zero_lt_one, Nat.one_ne_zero, Nat.zero_ne_one, Nat.zero_lt_succ, ↓reduceIte, List.cons_append, List.nil_append, List.append_nil, id]
  refine hκ.run 300 ?_
  simp (disch := omega) only [push_cast, simprocAttr]
  refine Sat.again ?_
  refine hκ.run 300 ?_
  simp (disch := omega) only [push_cast, simprocAttr]
  refine hκ.fin _ _ _ _ _ trivial rfl ?_
  exact Post.D hcs' trivial (by decide) rfl rfl rfl
theorem maskCD (bs : List Int) (s : In) (a : Evt) (hw : s.wk ≤ bs.length) (hn : bs.length < 2 ^ 46) (hby : ∀ b ∈ bs, 0 ≤ b ∧ b < 256) :
    Con Try.prog gl0 (fnv 70) [.ptr 0 0 0 0, .ptr 1 0 0 13] 3 (HD bs s (ec a) 37)
      (RetD bs (rdS bs 4 (rdS bs 4 s)) (ec (upd (upd a 13 (numR bs s.wk s.er 4)) 14 (numR bs (rdS bs 4 s).wk (rdS bs 4 s).er 4))) 37 3 vd) := by
  refine Con.of Try.ok70 (nt := 14) (res := []) Try.mixed Try.func70 rfl rfl rfl rfl fun κ xc hκ => hκ.run 300 ?_
  simp (disch := omega) only [push_cast, simprocAttr]
  refine (Does.D hκ.hP hκ.hgl _ (id) [0, 1, 2] _ _ (oneCD bs s (ec a) (ec (upd a 13 (numR bs s.wk s.er 4))) 37 13 (ec_bnd _ _) (ec_bnd _ _) rfl hw hn hby) (by rfl) ⟨trivial, by simp [SV.bnd, SV.bndL], by simp [SV.bnd, SV.bndL]⟩ (by first | assumption | exact ec_bnd _ _ | (simp [SV.bnd, SV.bndL]; done)) (by decide) (by intro i hi; (repeat (first | omega | (dsimp only [id]; omega) | split))) (by intro i j; (repeat (first | omega | (dsimp only [id]; omega) | split))) (by repeat' (first | exact HeapIn.nil | refine HeapIn.cons (by decide) (by first | exact Blk.bnd_own0 (by assumption) | exact ec_bnd _ _ | (simp [Blk.bnd, SV.bnd, SV.bndL]; done)) (by simp) (by first | rfl | (rw [Blk.ren_own0 (by assumption)]; rfl)) ?_)) ?_)
  simp only [renH, Blk.ren, SV.renL, SV.ren, tau, without, List.mem_singleton, List.mem_cons, List.not_mem_nil, or_false, or_true, true_or, Nat.reduceEqDiff, Nat.reduceLT, Nat.zero_lt_one, Nat.one_ne_zero, Nat.zero_ne_one, Nat.zero_lt_succ, ↓reduceIte, List.cons_append, List.nil_append, List.append_nil, id]
  refine hκ.run 300 ?_
  simp (disch := omega) only [push_cast, simprocAttr]
  refine (Does.D hκ.hP hκ.hgl _ (id) [0, 1, 2] _ _ (oneCD bs _ (ec (upd a 13 (numR bs s.wk s.er 4))) (ec (upd (upd a 13 (numR bs s.wk s.er 4)) 14 (numR bs (rdS bs 4 s).wk (rdS bs 4 s).er 4))) 37 14 (ec_bnd _ _) (ec_bnd _ _) rfl (rdS_wk hw) hn hby) (by rfl) ⟨trivial, by simp [SV.bnd, SV.bndL], by simp [SV.bnd, SV.bndL]⟩ (by first | assumption | exact ec_bnd _ _ | (simp [SV.bnd, SV.bndL]; done)) (by decide) (by intro i hi; (repeat (first | omega | (dsimp only [id]; omega) | split))) (by intro i j; (repeat (first | omega | (dsimp only [id]; omega) | split))) (by repeat' (first | exact HeapIn.nil | refine HeapIn.cons (by decide) (by first | exact Blk.bnd_own0 (by assumption) | exact ec_bnd _ _ | (simp [Blk.bnd, SV.bnd, SV.bndL]; done)) (by simp) (by first | rfl | (rw [Blk.ren_own0 (by assumption)]; rfl)) ?_)) ?_)
  simp only [renH, Blk.ren, SV.renL, SV.ren, tau, without, List.mem_singleton, List.mem_cons, List.not_mem_nil, or_false, or_true, true_or, Nat.reduceEqDiff, Nat.reduceLT, Nat.zero_lt_one, Nat.one_ne_zero, Nat.zero_ne_one, Nat.zero_lt_succ, ↓reduceIte, List.cons_append, List.nil_append, List.append_nil, id]
  refine hκ.run 300 ?_
  simp (disch := omega) only [push_cast, simprocAttr]
  refine hκ.fin _ _ _ _ _ trivial rfl ?_
  exact Post.D (ec_bnd _ _) trivial (by decide) rfl rfl rfl
theorem maskMD (bs : List Int) (s : In) (a : Evt) (hw : s.wk ≤ bs.length) (hn : bs.length < 2 ^ 46) (hby : ∀ b ∈ bs, 0 ≤ b ∧ b < 256) :
    Con Try.prog gl0 (fnv 70) [.ptr 0 0 0 0, .ptr 1 0 0 24] 3 (HD bs s (ec a) 37)
      (RetD bs (rdS bs 4 (rdS bs 4 s)) (ec (upd (upd a 24 (numR bs s.wk s.er 4)) 25 (numR bs (rdS bs 4 s).wk (rdS bs 4 s).er 4))) 37 3 vd) := by
  refine Con.of Try.ok70 (nt := 14) (res := []) Try.mixed Try.func70 rfl rfl rfl rfl fun κ xc hκ => hκ.run 300 ?_
  simp (disch := omega) only [push_cast, simprocAttr]
  refine (Does.D hκ.hP hκ.hgl _ (id) [0, 1, 2] _ _ (oneCD bs s (ec a) (ec (upd a 24 (numR bs s.wk s.er 4))) 37 24 (ec_bnd _ _) (ec_bnd _ _) rfl hw hn hby) (by rfl) ⟨trivial, by simp [SV.bnd, SV.bndL], by simp [SV.bnd, SV.bndL]⟩ (by first | assumption | exact ec_bnd _ _ | (simp [SV.bnd, SV.bndL]; done)) (by decide) (by intro i hi; (repeat (first | omega | (dsimp only [id]; omega) | split))) (by intro i j; (repeat (first | omega | (dsimp only [id]; omega) | split))) (by repeat' (first | exact HeapIn.nil | refine HeapIn.cons (by decide) (by first | exact Blk.bnd_own0 (by assumption) | exact ec_bnd _ _ | (simp [Blk.bnd, SV.bnd, SV.bndL]; done)) (by simp) (by first | rfl | (rw [Blk.ren_own0 (by assumption)]; rfl)) ?_)) ?_)
  simp only [renH, Blk.ren, SV.renL, SV.ren, tau, without, List.mem_singleton, List.mem_cons, List.not_mem_nil, or_false, or_true, true_or, Nat.reduceEqDiff, Nat.reduceLT, Nat.zero_lt_one, Nat.one_ne_zero, Nat.zero_ne_one, Nat.zero_lt_succ, ↓reduceIte, List.cons_append, List.nil_append, List.append_nil, id]
  refine hκ.run 300 ?_
  simp (disch := omega) only [push_cast, simprocAttr]
  refine (Does.D hκ.hP hκ.hgl _ (id) [0, 1, 2] _ _ (oneCD bs _ (ec (upd a 24 (numR bs s.wk s.er 4))) (ec (upd (upd a 24 (numR bs s.wk s.er 4)) 25 (numR bs (rdS bs 4 s).wk (rdS bs 4 s).er 4))) 37 25 (ec_bnd _ _) (ec_bnd _ _) rfl (rdS_wk hw) hn hby) (by rfl) ⟨trivial, by simp [SV.bnd, SV.bndL], by simp [SV.bnd, SV.bndL]⟩ (by first | assumption | exact ec_bnd _ _ | (simp [SV.bnd, SV.bndL]; done)) (by decide) (by intro i hi; (repeat (first | omega | (dsimp only [id]; omega) | split))) (by intro i j; (repeat (first | omega | (dsimp only [id]; omega) | split))) (by repeat' (first | exact HeapIn.nil | refine HeapIn.cons (by decide) (by first | exact Blk.bnd_own0 (by assumption) | exact ec_bnd _ _ | (simp [Blk.bnd, SV.bnd, SV.bndL]; done)) (by simp) (by first | rfl | (rw [Blk.ren_own0 (by assumption)]; rfl)) ?_)) ?_)
  simp only [renH, Blk.ren, SV.renL, SV.ren, tau, without, List.mem_singleton, List.mem_cons, List.not_mem_nil, or_false, or_true, true_or, Nat.reduceEqDiff, Nat.reduceLT, Nat.zero_lt_one, Nat.one_ne_zero, Nat.zero_ne_one, Nat.zero_lt_succ, ↓reduceIte, List.cons_append, List.nil_append, List.append_nil, id]
  refine hκ.run 300 ?_
  simp (disch := omega) only [push_cast, simprocAttr]
  refine hκ.fin _ _ _ _ _ trivial rfl ?_
  exact Post.D (ec_bnd _ _) trivial (by decide) rfl rfl rfl
def flagS (bs : List Int) (s : In) : In := ⟨(rdS bs 1 s).wk, (rdS bs 1 s).er, s.bad || decide (1 < numR bs s.wk s.er 1)⟩
theorem flagD (bs : List Int) (s : In) (a : Evt) (hw : s.wk ≤ bs.length) (hn : bs.length < 2 ^ 46) (hby : ∀ b ∈ bs, 0 ≤ b ∧ b < 256) :
    Con Try.prog gl0 (fnv 80) [.ptr 0 0 0 0, .ptr 1 0 0 5] 3 (HD bs s (ec a) 37) (RetD bs (flagS bs s) (ec (upd a 5 (numR bs s.wk s.er 1))) 37 3 vd) := by
  have cec : cut (ec a) 5 1 = some [Bo (decide (a.1 5 = 1))] := rfl
  have pec : paste (ec a) 5 [Bo (decide (numR bs s.wk s.er 1 = 1))] = some (ec (upd a 5 (numR bs s.wk s.er 1))) := rfl
  have hj : ∀ y : Int, ∀ bad, Con Try.prog gl0 (fnv 49) [.ptr 0 0 0 0, .sl 3 1 0 1 1] 4 [(0, CaD bad), (1, .own [I y] 3), (2, Rdr bs s.wk s.er), (3, .own [.ptr 1 0 0 0] 98)] (RetD bs ⟨(rdS bs 1 s).wk, (rdS bs 1 s).er, bad⟩ [I (numR bs s.wk s.er 1)] 3 4 vd) :=
    fun y bad => small1D bs ⟨s.wk, s.er, bad⟩ [I y] [I (numR bs s.wk s.er 1)] _ 0 (by simp [SV.bnd, SV.bndL]) (by simp [SV.bnd, SV.bndL]) rfl hw hn hby
  have hfs : flagS bs s = ⟨(rdS bs 1 s).wk, (rdS bs 1 s).er, s.bad || decide (1 < numR bs s.wk s.er 1)⟩ := rfl
  refine Con.of Try.ok80 (nt := 26) (res := []) Try.mixed Try.func80 rfl rfl rfl rfl fun κ xc hκ => hκ.run 300 ?_
  simp (disch := omega) only [push_cast, simprocAttr, cec, pec]
  rw [hfs] at hκ
  generalize numR bs s.wk s.er 1 = x at *
  by_cases h5 : a.1 5 = 1
  · simp (disch := omega) only [push_cast, simprocAttr, h5, cec, pec]
    refine (Does.D hκ.hP hκ.hgl _ (fun i => if i = 1 then 3 else if i = 3 then 4 else i) [0, 3, 2, 4] _ _ (hj 1 s.bad) (by rfl) ⟨trivial, by simp [SV.bnd, SV.bndL], by simp [SV.bnd, SV.bndL]⟩ (by first | assumption | exact ec_bnd _ _ | (simp [SV.bnd, SV.bndL]; done)) (by decide) (by intro i hi; (repeat (first | omega | (dsimp only [id]; omega) | split))) (by intro i j; (repeat (first | omega | (dsimp only [id]; omega) | split))) (by repeat' (first | exact HeapIn.nil | refine HeapIn.cons (by decide) (by first | exact Blk.bnd_own0 (by assumption) | exact ec_bnd _ _ | (simp [Blk.bnd, SV.bnd, SV.bndL]; done)) (by simp) (by first | rfl | (rw [Blk.ren_own0 (by assumption)]; rfl)) ?_)) ?_)
    simp only [renH, Blk.ren, SV.renL, SV.ren, tau, without, List.mem_singleton, List.mem_cons, List.not_mem_nil, or_false, or_true, true_or, Nat.reduceEqDiff, Nat.reduceLT, Nat.zero_lt_one, Nat.one_ne_zero, Nat.zero_ne_one, Nat.zero_lt_succ, ↓reduceIte, List.cons_append, List.nil_append, List.append_nil, id]
    refine hκ.run 300 ?_
    simp (disch := omega) only [push_cast, simprocAttr, cec, pec]
    cases hb : s.bad
    · rw [hb, Bool.false_or] at hκ
      simp (disch := omega) only [push_cast, simprocAttr, hb, cec, pec]
      refine hκ.fin _ _ _ _ _ trivial rfl ?_
      exact Post.D (ec_bnd _ _) trivial (by decide) rfl rfl rfl
    · rw [hb, Bool.true_or] at hκ
      simp (disch := omega) only [push_cast, simprocAttr, hb, cec, pec]
      refine hκ.fin _ _ _ _ _ trivial rfl ?_
      exact Post.D (ec_bnd _ _) trivial (by decide) rfl rfl rfl
  · simp (disch := omega) only [push_cast, simprocAttr, h5, cec, pec]
    refine (Does.D hκ.hP hκ.hgl _ (fun i => if i = 1 then 3 else if i = 3 then 4 else i) [0, 3, 2, 4] _ _ (hj 0 s.bad) (by rfl) ⟨trivial, by simp [SV.bnd, SV.bndL], by simp [SV.bnd, SV.bndL]⟩ (by first | assumption | exact ec_bnd _ _ | (simp [SV.bnd, SV.bndL]; done)) (by decide) (by intro i hi; (repeat (first | omega | (dsimp only [id]; omega) | split))) (by intro i j; (repeat (first | omega | (dsimp only [id]; omega) | split))) (by repeat' (first | exact HeapIn.nil | refine HeapIn.cons (by decide) (by first | exact Blk.bnd_own0 (by assumption) | exact ec_bnd _ _ | (simp [Blk.bnd, SV.bnd, SV.bndL]; done)) (by simp) (by first | rfl | (rw [Blk.ren_own0 (by assumption)]; rfl)) ?_)) ?_)
    simp only [renH, Blk.ren, SV.renL, SV.ren, tau, without, List.mem_singleton, List.mem_cons, List.not_mem_nil, or_false, or_true, true_or, Nat.reduceEqDiff, Nat.reduceLT, Nat.zero_lt_one, Nat.one_ne_zero, Nat.zero_ne_one, Nat.zero_lt_succ, ↓reduceIte, List.cons_append, List.nil_append, List.append_nil, id]
    refine hκ.run 300 ?_
    simp (disch := omega) only [push_cast, simprocAttr, cec, pec]
    cases hb : s.bad
    · rw [hb, Bool.false_or] at hκ
      simp (disch := omega) only [push_cast, simprocAttr, hb, cec, pec]
      refine hκ.fin _ _ _ _ _ trivial rfl ?_
      exact Post.D (ec_bnd _ _) trivial (by decide) rfl rfl rfl
    · rw [hb, Bool.true_or] at hκ
      simp (disch := omega) only [push_cast, simprocAttr, hb, cec, pec]
      refine hκ.fin _ _ _ _ _ trivial rfl ?_
      exact Post.D (ec_bnd _ _) trivial (by decide) rfl rfl rfl
end Go.Proofs.Ytmieikflcolbaaa
