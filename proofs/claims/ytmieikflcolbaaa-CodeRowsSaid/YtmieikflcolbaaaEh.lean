/- An event from bytes. No condition. Printed by gen_eh.py. -/
import Derived.Test.YtmieikflcolbaaaEg
import Derived.Test.YtmieikflcolbaaaCa
namespace Go.Proofs.Ytmieikflcolbaaa
open Go Go.Sy
set_option maxRecDepth 100000
set_option linter.unusedSimpArgs false
set_option linter.unusedVariables false
set_option maxHeartbeats 4000000
def dEv (bs : List Int) (s : In) (a : Evt) : In × Evt :=
  if numR bs s.wk s.er 1 = 1 then (match callL (numR bs (rdS bs 1 s).wk (rdS bs 1 s).er 1) with
    | some l => dLs bs (rdS bs 1 (rdS bs 1 s), upd (upd a 0 (numR bs s.wk s.er 1)) 1 (numR bs (rdS bs 1 s).wk (rdS bs 1 s).er 1)) l
    | none => (⟨(rdS bs 1 (rdS bs 1 s)).wk, (rdS bs 1 (rdS bs 1 s)).er, decide ((rdS bs 1 (rdS bs 1 s)).er = 0)⟩, upd (upd a 0 (numR bs s.wk s.er 1)) 1 (numR bs (rdS bs 1 s).wk (rdS bs 1 s).er 1)))
  else if numR bs s.wk s.er 1 = 2 then (match liveL (numR bs (rdS bs 1 s).wk (rdS bs 1 s).er 1) with
    | some l => dLs bs (rdS bs 1 (rdS bs 1 s), upd (upd a 0 (numR bs s.wk s.er 1)) 15 (numR bs (rdS bs 1 s).wk (rdS bs 1 s).er 1)) l
    | none => (⟨(rdS bs 1 (rdS bs 1 s)).wk, (rdS bs 1 (rdS bs 1 s)).er, decide ((rdS bs 1 (rdS bs 1 s)).er = 0)⟩, upd (upd a 0 (numR bs s.wk s.er 1)) 15 (numR bs (rdS bs 1 s).wk (rdS bs 1 s).er 1)))
  else if numR bs s.wk s.er 1 = 3 then (rdS bs 8 (rdS bs 1 s), upd (upd a 0 (numR bs s.wk s.er 1)) 28 (IntKind.i64.wrap (numR bs (rdS bs 1 s).wk (rdS bs 1 s).er 8)))
  else (⟨(rdS bs 1 s).wk, (rdS bs 1 s).er, decide ((rdS bs 1 s).er = 0)⟩, upd a 0 (numR bs s.wk s.er 1))
theorem eventD (bs : List Int) (s : In) (a : Evt) (hs : s.bad = false) (hw : s.wk ≤ bs.length) (hn : bs.length < 2 ^ 46) (hby : ∀ b ∈ bs, 0 ≤ b ∧ b < 256) :
    Con Try.prog gl0 (fnv 28) [.ptr 0 0 0 0, .ptr 1 0 0 0] 3 (HD bs s (ec a) 37) (RetD bs (dEv bs s a).1 (ec (dEv bs s a).2) 37 3 vd) := by
  have c1 := small1D bs s (ec a) (ec (upd a 0 (numR bs s.wk s.er 1))) 37 0 (ec_bnd _ _) (ec_bnd _ _) rfl hw hn hby
  have hE := dEv.eq_1 bs s a
  have hs1 : (rdS bs 1 s).bad = false := hs
  have hw1 : (rdS bs 1 s).wk ≤ bs.length := rdS_wk hw
  refine Con.of Try.ok28 (nt := 87) (res := []) Try.mixed Try.func28 rfl rfl rfl rfl fun κ xc hκ => hκ.run 300 ?_
  simp (disch := omega) only [push_cast, simprocAttr]
  refine (Does.D hκ.hP hκ.hgl _ (id) [0, 1, 2, 3] _ _ (c1) (by rfl) ⟨trivial, by simp [SV.bnd, SV.bndL], by simp [SV.bnd, SV.bndL]⟩ (by first | assumption | exact ec_bnd _ _ | (simp [SV.bnd, SV.bndL]; done)) (by decide) (by intro i hi; (repeat (first | omega | (dsimp only [id]; omega) | split))) (by intro i j; (repeat (first | omega | (dsimp only [id]; omega) | split))) (by repeat' (first | exact HeapIn.nil | refine HeapIn.cons (by decide) (by first | exact Blk.bnd_own0 (by assumption) | exact ec_bnd _ _ | (simp [Blk.bnd, SV.bnd, SV.bndL]; done)) (by simp) (by first | rfl | (rw [Blk.ren_own0 (by assumption)]; rfl)) ?_)) ?_)
  simp only [renH, Blk.ren, SV.renL, SV.ren, tau, without, List.mem_singleton, List.mem_cons, List.not_mem_nil, or_false, or_true, true_or, Nat.reduceEqDiff, Nat.reduceLT, Nat.zero_lt_one, Nat.one_ne_zero, Nat.zero_ne_one, Nat.zero_lt_succ, ↓reduceIte, List.cons_append, List.nil_append, List.append_nil, id]
  rw [hE] at hκ
  clear hE c1
  generalize numR bs s.wk s.er 1 = x0 at *
  generalize rdS bs 1 s = s1 at *
  clear hs hw
  have c2 := fun i cs' h => small1D bs s1 (ec (upd a 0 x0)) cs' 37 i (ec_bnd _ _) h
  have hs2 : (rdS bs 1 s1).bad = false := hs1
  have hw2 : (rdS bs 1 s1).wk ≤ bs.length := rdS_wk hw1
  have cec : cut (ec (upd a 0 x0)) 0 1 = some [I x0] := rfl
  by_cases k1 : x0 = 1
  · subst k1
    rw [if_pos rfl] at hκ
    refine hκ.run 300 ?_
    simp (disch := omega) only [push_cast, simprocAttr, cec]
    have c3 := small1D bs s1 (ec (upd a 0 1)) (ec (upd (upd a 0 1) 1 (numR bs s1.wk s1.er 1))) 37 1 (ec_bnd _ _) (ec_bnd _ _) rfl hw1 hn hby
    refine (Does.D hκ.hP hκ.hgl _ (fun i => if i = 3 then 4 else i) [0, 1, 2, 4] _ _ (c3) (by rfl) ⟨trivial, by simp [SV.bnd, SV.bndL], by simp [SV.bnd, SV.bndL]⟩ (by first | assumption | exact ec_bnd _ _ | (simp [SV.bnd, SV.bndL]; done)) (by decide) (by intro i hi; (repeat (first | omega | (dsimp only [id]; omega) | split))) (by intro i j; (repeat (first | omega | (dsimp only [id]; omega) | split))) (by repeat' (first | exact HeapIn.nil | refine HeapIn.cons (by decide) (by first | exact Blk.bnd_own0 (by assumption) | exact ec_bnd _ _ | (simp [Blk.bnd, SV.bnd, SV.bndL]; done)) (by simp) (by first | rfl | (rw [Blk.ren_own0 (by assumption)]; rfl)) ?_)) ?_)
    simp only [renH, Blk.ren, SV.renL, SV.ren, tau, without, List.mem_singleton, List.mem_cons, List.not_mem_nil, or_false, or_true, true_or, Nat.reduceEqDiff, Nat.reduceLT, Nat.zero_lt_one, Nat.one_ne_zero, Nat.zero_ne_one, Nat.zero_lt_succ, ↓reduceIte, List.cons_append, List.nil_append, List.append_nil, id]
    clear c2 c3
    generalize rdS bs 1 s1 = s2 at *
    generalize numR bs s1.wk s1.er 1 = x1 at *
    have cec1 : cut (ec (upd (upd a 0 1) 1 x1)) 1 1 = some [I x1] := rfl
    generalize upd (upd a 0 1) 1 x1 = a2 at *
    refine hκ.runD 300 ?_
    simp (disch := omega) only [push_cast, simprocAttr, cec1]
    refine hκ.draw (.q 1 (.q 2 (.q 3 (.q 4 (.q 5 (.l 0 [5] (.q 6 (.q 7 (.fin))))))))) [1, 2, 3, 4, 5, 6, 7] (by kernel_rfl) (by kernel_rfl) rfl ?_
    simp (disch := omega) only [push_cast, simprocAttr, cec1]
    refine DCall.of (Does.mpN hκ.hP hκ.hgl calls_ok ⟨trivial, by simp [SV.bnd, SV.bndL]⟩ (fun σ => rfl) ?_)
    by_cases hn1 : x1 < 1 ∨ 20 < x1
    · have cf := callsF_none hn1
      rw [callL_none hn1] at hκ
      dsimp only at hκ
      simp (disch := omega) only [push_cast, simprocAttr, cf, hs2, cec1]
      refine hκ.run 300 ?_
      simp (disch := omega) only [push_cast, simprocAttr, cf, hs2, cec1]
      refine Does.keep hκ.hP hκ.hgl 2 [.ptr 0 0 0 0] (err_ok bs _ _) rfl ⟨trivial, by first | (simp [SV.bnd, SV.bndL]; done) | (simp [SV.bnd, SV.bndL, ec_bnd]; done), by first | (simp [SV.bnd, SV.bndL]; done) | (simp [SV.bnd, SV.bndL, ec_bnd]; done) | assumption⟩ ⟨Rdr.good.1, Rdr.good.2, Rdr.good.1⟩ rfl (by first | omega | (dsimp only; omega)) ?_
      refine hκ.run 300 ?_
      simp (disch := omega) only [push_cast, simprocAttr, cf, hs2, cec1]
      refine hκ.fin _ _ _ _ _ trivial rfl ?_
      exact Post.D (ec_bnd _ _) trivial (by decide) rfl rfl rfl
    have hc : x1 = 1 ∨ x1 = 2 ∨ x1 = 3 ∨ x1 = 10 ∨ x1 = 13 ∨ x1 = 16 ∨ x1 = 18 ∨ x1 = 19 ∨ (x1 = 4 ∨ x1 = 5 ∨ x1 = 6 ∨ x1 = 7 ∨ x1 = 8 ∨ x1 = 9 ∨ x1 = 11 ∨ x1 = 12 ∨ x1 = 20) ∨ (x1 = 14 ∨ x1 = 15 ∨ x1 = 17) := by omega
    rcases hc with hk | hk | hk | hk | hk | hk | hk | hk | hk | hk
    have cf : callsF [x1] = some (.v (.func (.func 60) #[] #[])) := by rw [hk]; rfl
    rw [show callL x1 = some [100, 119, 99, 113] by rw [hk]; rfl] at hκ
    dsimp only at hκ
    rotate_left
    have cf : callsF [x1] = some (.v (.func (.func 61) #[] #[])) := by rw [hk]; rfl
    rw [show callL x1 = some [100] by rw [hk]; rfl] at hκ
    dsimp only at hκ
    rotate_left
    have cf : callsF [x1] = some (.v (.func (.func 62) #[] #[])) := by rw [hk]; rfl
    rw [show callL x1 = some [100, 109] by rw [hk]; rfl] at hκ
    dsimp only at hκ
    rotate_left
    have cf : callsF [x1] = some (.v (.func (.func 63) #[] #[])) := by rw [hk]; rfl
    rw [show callL x1 = some [118, 110, 97] by rw [hk]; rfl] at hκ
    dsimp only at hκ
    rotate_left
    have cf : callsF [x1] = some (.v (.func (.func 64) #[] #[])) := by rw [hk]; rfl
    rw [show callL x1 = some [112, 111] by rw [hk]; rfl] at hκ
    dsimp only at hκ
    rotate_left
    have cf : callsF [x1] = some (.v (.func (.func 65) #[] #[])) := by rw [hk]; rfl
    rw [show callL x1 = some [112, 102] by rw [hk]; rfl] at hκ
    dsimp only at hκ
    rotate_left
    have cf : callsF [x1] = some (.v (.func (.func 66) #[] #[])) := by rw [hk]; rfl
    rw [show callL x1 = some [112, 118] by rw [hk]; rfl] at hκ
    dsimp only at hκ
    rotate_left
    have cf : callsF [x1] = some (.v (.func (.func 67) #[] #[])) := by rw [hk]; rfl
    rw [show callL x1 = some [118, 112, 101, 97] by rw [hk]; rfl] at hκ
    dsimp only at hκ
    rotate_left
    have cf : callsF [x1] = some (.v (.func (.func 68) #[] #[])) := by rcases hk with hk | hk | hk | hk | hk | hk | hk | hk | hk <;> rw [hk] <;> rfl
    rw [show callL x1 = some [118] by rcases hk with hk | hk | hk | hk | hk | hk | hk | hk | hk <;> rw [hk] <;> rfl] at hκ
    dsimp only at hκ
    rotate_left
    have cf : callsF [x1] = some (.v (.func (.func 69) #[] #[])) := by rcases hk with hk | hk | hk <;> rw [hk] <;> rfl
    rw [show callL x1 = some [112] by rcases hk with hk | hk | hk <;> rw [hk] <;> rfl] at hκ
    dsimp only at hκ
    rotate_left
    all_goals
      simp (disch := omega) only [push_cast, simprocAttr, cf, cec1]
      refine hκ.run 300 ?_
      simp (disch := omega) only [push_cast, simprocAttr, cec1]
    refine (Does.D hκ.hP hκ.hgl _ (id) [0, 1, 2] _ _ (createD bs s2 a2 hs2 hw2 hn hby) (by rfl) ⟨trivial, by simp [SV.bnd, SV.bndL], by simp [SV.bnd, SV.bndL]⟩ (by first | assumption | exact ec_bnd _ _ | (simp [SV.bnd, SV.bndL]; done)) (by decide) (by intro i hi; (repeat (first | omega | (dsimp only [id]; omega) | split))) (by intro i j; (repeat (first | omega | (dsimp only [id]; omega) | split))) (by repeat' (first | exact HeapIn.nil | refine HeapIn.cons (by decide) (by first | exact Blk.bnd_own0 (by assumption) | exact ec_bnd _ _ | (simp [Blk.bnd, SV.bnd, SV.bndL]; done)) (by simp) (by first | rfl | (rw [Blk.ren_own0 (by assumption)]; rfl)) ?_)) ?_)
    generalize dLs bs (s2, a2) [100, 119, 99, 113] = t at *
    rotate_left
    refine (Does.D hκ.hP hκ.hgl _ (id) [0, 1, 2] _ _ (destroyD bs s2 a2 hs2 hw2 hn hby) (by rfl) ⟨trivial, by simp [SV.bnd, SV.bndL], by simp [SV.bnd, SV.bndL]⟩ (by first | assumption | exact ec_bnd _ _ | (simp [SV.bnd, SV.bndL]; done)) (by decide) (by intro i hi; (repeat (first | omega | (dsimp only [id]; omega) | split))) (by intro i j; (repeat (first | omega | (dsimp only [id]; omega) | split))) (by repeat' (first | exact HeapIn.nil | refine HeapIn.cons (by decide) (by first | exact Blk.bnd_own0 (by assumption) | exact ec_bnd _ _ | (simp [Blk.bnd, SV.bnd, SV.bndL]; done)) (by simp) (by first | rfl | (rw [Blk.ren_own0 (by assumption)]; rfl)) ?_)) ?_)
    generalize dLs bs (s2, a2) [100] = t at *
    rotate_left
    refine (Does.D hκ.hP hκ.hgl _ (id) [0, 1, 2] _ _ (addD bs s2 a2 hs2 hw2 hn hby) (by rfl) ⟨trivial, by simp [SV.bnd, SV.bndL], by simp [SV.bnd, SV.bndL]⟩ (by first | assumption | exact ec_bnd _ _ | (simp [SV.bnd, SV.bndL]; done)) (by decide) (by intro i hi; (repeat (first | omega | (dsimp only [id]; omega) | split))) (by intro i j; (repeat (first | omega | (dsimp only [id]; omega) | split))) (by repeat' (first | exact HeapIn.nil | refine HeapIn.cons (by decide) (by first | exact Blk.bnd_own0 (by assumption) | exact ec_bnd _ _ | (simp [Blk.bnd, SV.bnd, SV.bndL]; done)) (by simp) (by first | rfl | (rw [Blk.ren_own0 (by assumption)]; rfl)) ?_)) ?_)
    generalize dLs bs (s2, a2) [100, 109] = t at *
    rotate_left
    refine (Does.D hκ.hP hκ.hgl _ (id) [0, 1, 2] _ _ (pollD bs s2 a2 hs2 hw2 hn hby) (by rfl) ⟨trivial, by simp [SV.bnd, SV.bndL], by simp [SV.bnd, SV.bndL]⟩ (by first | assumption | exact ec_bnd _ _ | (simp [SV.bnd, SV.bndL]; done)) (by decide) (by intro i hi; (repeat (first | omega | (dsimp only [id]; omega) | split))) (by intro i j; (repeat (first | omega | (dsimp only [id]; omega) | split))) (by repeat' (first | exact HeapIn.nil | refine HeapIn.cons (by decide) (by first | exact Blk.bnd_own0 (by assumption) | exact ec_bnd _ _ | (simp [Blk.bnd, SV.bnd, SV.bndL]; done)) (by simp) (by first | rfl | (rw [Blk.ren_own0 (by assumption)]; rfl)) ?_)) ?_)
    generalize dLs bs (s2, a2) [118, 110, 97] = t at *
    rotate_left
    refine (Does.D hκ.hP hκ.hgl _ (id) [0, 1, 2] _ _ (linkD bs s2 a2 hs2 hw2 hn hby) (by rfl) ⟨trivial, by simp [SV.bnd, SV.bndL], by simp [SV.bnd, SV.bndL]⟩ (by first | assumption | exact ec_bnd _ _ | (simp [SV.bnd, SV.bndL]; done)) (by decide) (by intro i hi; (repeat (first | omega | (dsimp only [id]; omega) | split))) (by intro i j; (repeat (first | omega | (dsimp only [id]; omega) | split))) (by repeat' (first | exact HeapIn.nil | refine HeapIn.cons (by decide) (by first | exact Blk.bnd_own0 (by assumption) | exact ec_bnd _ _ | (simp [Blk.bnd, SV.bnd, SV.bndL]; done)) (by simp) (by first | rfl | (rw [Blk.ren_own0 (by assumption)]; rfl)) ?_)) ?_)
    generalize dLs bs (s2, a2) [112, 111] = t at *
    rotate_left
    refine (Does.D hκ.hP hκ.hgl _ (id) [0, 1, 2] _ _ (masksD bs s2 a2 hs2 hw2 hn hby) (by rfl) ⟨trivial, by simp [SV.bnd, SV.bndL], by simp [SV.bnd, SV.bndL]⟩ (by first | assumption | exact ec_bnd _ _ | (simp [SV.bnd, SV.bndL]; done)) (by decide) (by intro i hi; (repeat (first | omega | (dsimp only [id]; omega) | split))) (by intro i j; (repeat (first | omega | (dsimp only [id]; omega) | split))) (by repeat' (first | exact HeapIn.nil | refine HeapIn.cons (by decide) (by first | exact Blk.bnd_own0 (by assumption) | exact ec_bnd _ _ | (simp [Blk.bnd, SV.bnd, SV.bndL]; done)) (by simp) (by first | rfl | (rw [Blk.ren_own0 (by assumption)]; rfl)) ?_)) ?_)
    generalize dLs bs (s2, a2) [112, 102] = t at *
    rotate_left
    refine (Does.D hκ.hP hκ.hgl _ (id) [0, 1, 2] _ _ (bindD bs s2 a2 hs2 hw2 hn hby) (by rfl) ⟨trivial, by simp [SV.bnd, SV.bndL], by simp [SV.bnd, SV.bndL]⟩ (by first | assumption | exact ec_bnd _ _ | (simp [SV.bnd, SV.bndL]; done)) (by decide) (by intro i hi; (repeat (first | omega | (dsimp only [id]; omega) | split))) (by intro i j; (repeat (first | omega | (dsimp only [id]; omega) | split))) (by repeat' (first | exact HeapIn.nil | refine HeapIn.cons (by decide) (by first | exact Blk.bnd_own0 (by assumption) | exact ec_bnd _ _ | (simp [Blk.bnd, SV.bnd, SV.bndL]; done)) (by simp) (by first | rfl | (rw [Blk.ren_own0 (by assumption)]; rfl)) ?_)) ?_)
    generalize dLs bs (s2, a2) [112, 118] = t at *
    rotate_left
    refine (Does.D hκ.hP hκ.hgl _ (id) [0, 1, 2] _ _ (startD bs s2 a2 hs2 hw2 hn hby) (by rfl) ⟨trivial, by simp [SV.bnd, SV.bndL], by simp [SV.bnd, SV.bndL]⟩ (by first | assumption | exact ec_bnd _ _ | (simp [SV.bnd, SV.bndL]; done)) (by decide) (by intro i hi; (repeat (first | omega | (dsimp only [id]; omega) | split))) (by intro i j; (repeat (first | omega | (dsimp only [id]; omega) | split))) (by repeat' (first | exact HeapIn.nil | refine HeapIn.cons (by decide) (by first | exact Blk.bnd_own0 (by assumption) | exact ec_bnd _ _ | (simp [Blk.bnd, SV.bnd, SV.bndL]; done)) (by simp) (by first | rfl | (rw [Blk.ren_own0 (by assumption)]; rfl)) ?_)) ?_)
    generalize dLs bs (s2, a2) [118, 112, 101, 97] = t at *
    rotate_left
    refine (Does.D hκ.hP hκ.hgl _ (id) [0, 1, 2] _ _ (vcpuD bs s2 a2 hs2 hw2 hn hby) (by rfl) ⟨trivial, by simp [SV.bnd, SV.bndL], by simp [SV.bnd, SV.bndL]⟩ (by first | assumption | exact ec_bnd _ _ | (simp [SV.bnd, SV.bndL]; done)) (by decide) (by intro i hi; (repeat (first | omega | (dsimp only [id]; omega) | split))) (by intro i j; (repeat (first | omega | (dsimp only [id]; omega) | split))) (by repeat' (first | exact HeapIn.nil | refine HeapIn.cons (by decide) (by first | exact Blk.bnd_own0 (by assumption) | exact ec_bnd _ _ | (simp [Blk.bnd, SV.bnd, SV.bndL]; done)) (by simp) (by first | rfl | (rw [Blk.ren_own0 (by assumption)]; rfl)) ?_)) ?_)
    generalize dLs bs (s2, a2) [118] = t at *
    rotate_left
    refine (Does.D hκ.hP hκ.hgl _ (id) [0, 1, 2] _ _ (portD bs s2 a2 hs2 hw2 hn hby) (by rfl) ⟨trivial, by simp [SV.bnd, SV.bndL], by simp [SV.bnd, SV.bndL]⟩ (by first | assumption | exact ec_bnd _ _ | (simp [SV.bnd, SV.bndL]; done)) (by decide) (by intro i hi; (repeat (first | omega | (dsimp only [id]; omega) | split))) (by intro i j; (repeat (first | omega | (dsimp only [id]; omega) | split))) (by repeat' (first | exact HeapIn.nil | refine HeapIn.cons (by decide) (by first | exact Blk.bnd_own0 (by assumption) | exact ec_bnd _ _ | (simp [Blk.bnd, SV.bnd, SV.bndL]; done)) (by simp) (by first | rfl | (rw [Blk.ren_own0 (by assumption)]; rfl)) ?_)) ?_)
    generalize dLs bs (s2, a2) [112] = t at *
    rotate_left
    all_goals
      simp only [renH, Blk.ren, SV.renL, SV.ren, tau, without, List.mem_singleton, List.mem_cons, List.not_mem_nil, or_false, or_true, true_or, Nat.reduceEqDiff, Nat.reduceLT, Nat.zero_lt_one, Nat.one_ne_zero, Nat.zero_ne_one, Nat.zero_lt_succ, ↓reduceIte, List.cons_append, List.nil_append, List.append_nil, id]
      refine hκ.run 300 ?_
      simp (disch := omega) only [push_cast, simprocAttr]
      (first | refine OutOK_guard (fun h => ?_) (fun h => ?_) | refine GF.of (fun h => ?_) (fun h => ?_)) <;> try simp only [Bool.not_true, Bool.not_false, decide_eq_true_eq, decide_eq_false_iff_not, Bool.not_eq_true', Bool.not_eq_false', Bool.and_eq_true, Bool.or_eq_false_iff, Bool.or_eq_true, Bool.and_eq_false_iff] at h
    all_goals
      simp (disch := omega) only [push_cast, simprocAttr]
      refine hκ.fin _ _ _ _ _ trivial rfl ?_
      exact Post.D (ec_bnd _ _) trivial (by decide) (by first | rfl | (simp [dropL, Heap.get, h]; done)) (by first | rfl | (simp [dropL, Heap.get, ec, h]; done)) (by first | rfl | (simp [dropL, Heap.get, h]; done))
  by_cases k2 : x0 = 2
  · subst k2
    rw [if_neg (by decide), if_pos rfl] at hκ
    refine hκ.run 300 ?_
    simp (disch := omega) only [push_cast, simprocAttr, cec]
    have c3 := small1D bs s1 (ec (upd a 0 2)) (ec (upd (upd a 0 2) 15 (numR bs s1.wk s1.er 1))) 37 15 (ec_bnd _ _) (ec_bnd _ _) rfl hw1 hn hby
    refine (Does.D hκ.hP hκ.hgl _ (fun i => if i = 3 then 4 else i) [0, 1, 2, 4] _ _ (c3) (by rfl) ⟨trivial, by simp [SV.bnd, SV.bndL], by simp [SV.bnd, SV.bndL]⟩ (by first | assumption | exact ec_bnd _ _ | (simp [SV.bnd, SV.bndL]; done)) (by decide) (by intro i hi; (repeat (first | omega | (dsimp only [id]; omega) | split))) (by intro i j; (repeat (first | omega | (dsimp only [id]; omega) | split))) (by repeat' (first | exact HeapIn.nil | refine HeapIn.cons (by decide) (by first | exact Blk.bnd_own0 (by assumption) | exact ec_bnd _ _ | (simp [Blk.bnd, SV.bnd, SV.bndL]; done)) (by simp) (by first | rfl | (rw [Blk.ren_own0 (by assumption)]; rfl)) ?_)) ?_)
    simp only [renH, Blk.ren, SV.renL, SV.ren, tau, without, List.mem_singleton, List.mem_cons, List.not_mem_nil, or_false, or_true, true_or, Nat.reduceEqDiff, Nat.reduceLT, Nat.zero_lt_one, Nat.one_ne_zero, Nat.zero_ne_one, Nat.zero_lt_succ, ↓reduceIte, List.cons_append, List.nil_append, List.append_nil, id]
    clear c2 c3
    generalize rdS bs 1 s1 = s2 at *
    generalize numR bs s1.wk s1.er 1 = x1 at *
    have h15 : (upd (upd a 0 2) 15 x1).1 15 = x1 := rfl
    generalize upd (upd a 0 2) 15 x1 = a2 at *
    subst h15
    refine hκ.run 300 ?_
    simp (disch := omega) only [push_cast, simprocAttr]
    by_cases hn1 : a2.1 15 < 1 ∨ 10 < a2.1 15
    · rw [liveL_none hn1] at hκ
      dsimp only at hκ
      refine (Does.D hκ.hP hκ.hgl _ (id) [0, 1, 2] _ _ (change0D bs s2 a2 hn1) (by rfl) ⟨trivial, by simp [SV.bnd, SV.bndL], by simp [SV.bnd, SV.bndL]⟩ (by first | assumption | exact ec_bnd _ _ | (simp [SV.bnd, SV.bndL]; done)) (by decide) (by intro i hi; (repeat (first | omega | (dsimp only [id]; omega) | split))) (by intro i j; (repeat (first | omega | (dsimp only [id]; omega) | split))) (by repeat' (first | exact HeapIn.nil | refine HeapIn.cons (by decide) (by first | exact Blk.bnd_own0 (by assumption) | exact ec_bnd _ _ | (simp [Blk.bnd, SV.bnd, SV.bndL]; done)) (by simp) (by first | rfl | (rw [Blk.ren_own0 (by assumption)]; rfl)) ?_)) ?_)
      simp only [renH, Blk.ren, SV.renL, SV.ren, tau, without, List.mem_singleton, List.mem_cons, List.not_mem_nil, or_false, or_true, true_or, Nat.reduceEqDiff, Nat.reduceLT, Nat.zero_lt_one, Nat.one_ne_zero, Nat.zero_ne_one, Nat.zero_lt_succ, ↓reduceIte, List.cons_append, List.nil_append, List.append_nil, id]
      refine hκ.run 300 ?_
      simp (disch := omega) only [push_cast, simprocAttr, hs2]
      refine Does.keep hκ.hP hκ.hgl 2 [.ptr 0 0 0 0] (err_ok bs _ _) rfl ⟨trivial, by first | (simp [SV.bnd, SV.bndL]; done) | (simp [SV.bnd, SV.bndL, ec_bnd]; done), by first | (simp [SV.bnd, SV.bndL]; done) | (simp [SV.bnd, SV.bndL, ec_bnd]; done) | assumption⟩ ⟨Rdr.good.1, Rdr.good.2, Rdr.good.1⟩ rfl (by first | omega | (dsimp only; omega)) ?_
      refine hκ.run 300 ?_
      simp (disch := omega) only [push_cast, simprocAttr, hs2]
      refine hκ.fin _ _ _ _ _ trivial rfl ?_
      exact Post.D (ec_bnd _ _) trivial (by decide) rfl rfl rfl
    have hc : a2.1 15 = 1 ∨ a2.1 15 = 2 ∨ a2.1 15 = 3 ∨ a2.1 15 = 4 ∨ a2.1 15 = 5 ∨ a2.1 15 = 6 ∨ a2.1 15 = 7 ∨ a2.1 15 = 8 ∨ a2.1 15 = 9 ∨ a2.1 15 = 10 := by omega
    rcases hc with hk | hk | hk | hk | hk | hk | hk | hk | hk | hk
    rw [show liveL (a2.1 15) = some [68, 87] by rw [hk]; rfl] at hκ
    dsimp only at hκ
    refine (Does.D hκ.hP hκ.hgl _ (id) [0, 1, 2] _ _ (change1D bs s2 a2 hs2 hk hw2 hn hby) (by rfl) ⟨trivial, by simp [SV.bnd, SV.bndL], by simp [SV.bnd, SV.bndL]⟩ (by first | assumption | exact ec_bnd _ _ | (simp [SV.bnd, SV.bndL]; done)) (by decide) (by intro i hi; (repeat (first | omega | (dsimp only [id]; omega) | split))) (by intro i j; (repeat (first | omega | (dsimp only [id]; omega) | split))) (by repeat' (first | exact HeapIn.nil | refine HeapIn.cons (by decide) (by first | exact Blk.bnd_own0 (by assumption) | exact ec_bnd _ _ | (simp [Blk.bnd, SV.bnd, SV.bndL]; done)) (by simp) (by first | rfl | (rw [Blk.ren_own0 (by assumption)]; rfl)) ?_)) ?_)
    generalize dLs bs (s2, a2) [68, 87] = t at *
    rotate_left
    rw [show liveL (a2.1 15) = some [68, 67] by rw [hk]; rfl] at hκ
    dsimp only at hκ
    refine (Does.D hκ.hP hκ.hgl _ (id) [0, 1, 2] _ _ (change2D bs s2 a2 hs2 hk hw2 hn hby) (by rfl) ⟨trivial, by simp [SV.bnd, SV.bndL], by simp [SV.bnd, SV.bndL]⟩ (by first | assumption | exact ec_bnd _ _ | (simp [SV.bnd, SV.bndL]; done)) (by decide) (by intro i hi; (repeat (first | omega | (dsimp only [id]; omega) | split))) (by intro i j; (repeat (first | omega | (dsimp only [id]; omega) | split))) (by repeat' (first | exact HeapIn.nil | refine HeapIn.cons (by decide) (by first | exact Blk.bnd_own0 (by assumption) | exact ec_bnd _ _ | (simp [Blk.bnd, SV.bnd, SV.bndL]; done)) (by simp) (by first | rfl | (rw [Blk.ren_own0 (by assumption)]; rfl)) ?_)) ?_)
    generalize dLs bs (s2, a2) [68, 67] = t at *
    rotate_left
    rw [show liveL (a2.1 15) = some [68, 80] by rw [hk]; rfl] at hκ
    dsimp only at hκ
    refine (Does.D hκ.hP hκ.hgl _ (id) [0, 1, 2] _ _ (change3D bs s2 a2 hs2 hk hw2 hn hby) (by rfl) ⟨trivial, by simp [SV.bnd, SV.bndL], by simp [SV.bnd, SV.bndL]⟩ (by first | assumption | exact ec_bnd _ _ | (simp [SV.bnd, SV.bndL]; done)) (by decide) (by intro i hi; (repeat (first | omega | (dsimp only [id]; omega) | split))) (by intro i j; (repeat (first | omega | (dsimp only [id]; omega) | split))) (by repeat' (first | exact HeapIn.nil | refine HeapIn.cons (by decide) (by first | exact Blk.bnd_own0 (by assumption) | exact ec_bnd _ _ | (simp [Blk.bnd, SV.bnd, SV.bndL]; done)) (by simp) (by first | rfl | (rw [Blk.ren_own0 (by assumption)]; rfl)) ?_)) ?_)
    generalize dLs bs (s2, a2) [68, 80] = t at *
    rotate_left
    rw [show liveL (a2.1 15) = some [86, 77] by rw [hk]; rfl] at hκ
    dsimp only at hκ
    refine (Does.D hκ.hP hκ.hgl _ (id) [0, 1, 2] _ _ (change4D bs s2 a2 hs2 hk hw2 hn hby) (by rfl) ⟨trivial, by simp [SV.bnd, SV.bndL], by simp [SV.bnd, SV.bndL]⟩ (by first | assumption | exact ec_bnd _ _ | (simp [SV.bnd, SV.bndL]; done)) (by decide) (by intro i hi; (repeat (first | omega | (dsimp only [id]; omega) | split))) (by intro i j; (repeat (first | omega | (dsimp only [id]; omega) | split))) (by repeat' (first | exact HeapIn.nil | refine HeapIn.cons (by decide) (by first | exact Blk.bnd_own0 (by assumption) | exact ec_bnd _ _ | (simp [Blk.bnd, SV.bnd, SV.bndL]; done)) (by simp) (by first | rfl | (rw [Blk.ren_own0 (by assumption)]; rfl)) ?_)) ?_)
    generalize dLs bs (s2, a2) [86, 77] = t at *
    rotate_left
    rw [show liveL (a2.1 15) = some [78] by rw [hk]; rfl] at hκ
    dsimp only at hκ
    refine (Does.D hκ.hP hκ.hgl _ (id) [0, 1, 2] _ _ (change5D bs s2 a2 hs2 hk hw2 hn hby) (by rfl) ⟨trivial, by simp [SV.bnd, SV.bndL], by simp [SV.bnd, SV.bndL]⟩ (by first | assumption | exact ec_bnd _ _ | (simp [SV.bnd, SV.bndL]; done)) (by decide) (by intro i hi; (repeat (first | omega | (dsimp only [id]; omega) | split))) (by intro i j; (repeat (first | omega | (dsimp only [id]; omega) | split))) (by repeat' (first | exact HeapIn.nil | refine HeapIn.cons (by decide) (by first | exact Blk.bnd_own0 (by assumption) | exact ec_bnd _ _ | (simp [Blk.bnd, SV.bnd, SV.bndL]; done)) (by simp) (by first | rfl | (rw [Blk.ren_own0 (by assumption)]; rfl)) ?_)) ?_)
    generalize dLs bs (s2, a2) [78] = t at *
    rotate_left
    rw [show liveL (a2.1 15) = some [71] by rw [hk]; rfl] at hκ
    dsimp only at hκ
    refine (Does.D hκ.hP hκ.hgl _ (id) [0, 1, 2] _ _ (change6D bs s2 a2 hs2 hk hw2 hn hby) (by rfl) ⟨trivial, by simp [SV.bnd, SV.bndL], by simp [SV.bnd, SV.bndL]⟩ (by first | assumption | exact ec_bnd _ _ | (simp [SV.bnd, SV.bndL]; done)) (by decide) (by intro i hi; (repeat (first | omega | (dsimp only [id]; omega) | split))) (by intro i j; (repeat (first | omega | (dsimp only [id]; omega) | split))) (by repeat' (first | exact HeapIn.nil | refine HeapIn.cons (by decide) (by first | exact Blk.bnd_own0 (by assumption) | exact ec_bnd _ _ | (simp [Blk.bnd, SV.bnd, SV.bndL]; done)) (by simp) (by first | rfl | (rw [Blk.ren_own0 (by assumption)]; rfl)) ?_)) ?_)
    generalize dLs bs (s2, a2) [71] = t at *
    rotate_left
    rw [show liveL (a2.1 15) = some [86] by rw [hk]; rfl] at hκ
    dsimp only at hκ
    refine (Does.D hκ.hP hκ.hgl _ (id) [0, 1, 2] _ _ (change7D bs s2 a2 hs2 hk hw2 hn hby) (by rfl) ⟨trivial, by simp [SV.bnd, SV.bndL], by simp [SV.bnd, SV.bndL]⟩ (by first | assumption | exact ec_bnd _ _ | (simp [SV.bnd, SV.bndL]; done)) (by decide) (by intro i hi; (repeat (first | omega | (dsimp only [id]; omega) | split))) (by intro i j; (repeat (first | omega | (dsimp only [id]; omega) | split))) (by repeat' (first | exact HeapIn.nil | refine HeapIn.cons (by decide) (by first | exact Blk.bnd_own0 (by assumption) | exact ec_bnd _ _ | (simp [Blk.bnd, SV.bnd, SV.bndL]; done)) (by simp) (by first | rfl | (rw [Blk.ren_own0 (by assumption)]; rfl)) ?_)) ?_)
    generalize dLs bs (s2, a2) [86] = t at *
    rotate_left
    rw [show liveL (a2.1 15) = some [80, 83] by rw [hk]; rfl] at hκ
    dsimp only at hκ
    refine (Does.D hκ.hP hκ.hgl _ (id) [0, 1, 2] _ _ (change8D bs s2 a2 hs2 hk hw2 hn hby) (by rfl) ⟨trivial, by simp [SV.bnd, SV.bndL], by simp [SV.bnd, SV.bndL]⟩ (by first | assumption | exact ec_bnd _ _ | (simp [SV.bnd, SV.bndL]; done)) (by decide) (by intro i hi; (repeat (first | omega | (dsimp only [id]; omega) | split))) (by intro i j; (repeat (first | omega | (dsimp only [id]; omega) | split))) (by repeat' (first | exact HeapIn.nil | refine HeapIn.cons (by decide) (by first | exact Blk.bnd_own0 (by assumption) | exact ec_bnd _ _ | (simp [Blk.bnd, SV.bnd, SV.bndL]; done)) (by simp) (by first | rfl | (rw [Blk.ren_own0 (by assumption)]; rfl)) ?_)) ?_)
    generalize dLs bs (s2, a2) [80, 83] = t at *
    rotate_left
    rw [show liveL (a2.1 15) = some [80, 73] by rw [hk]; rfl] at hκ
    dsimp only at hκ
    refine (Does.D hκ.hP hκ.hgl _ (id) [0, 1, 2] _ _ (change9D bs s2 a2 hs2 hk hw2 hn hby) (by rfl) ⟨trivial, by simp [SV.bnd, SV.bndL], by simp [SV.bnd, SV.bndL]⟩ (by first | assumption | exact ec_bnd _ _ | (simp [SV.bnd, SV.bndL]; done)) (by decide) (by intro i hi; (repeat (first | omega | (dsimp only [id]; omega) | split))) (by intro i j; (repeat (first | omega | (dsimp only [id]; omega) | split))) (by repeat' (first | exact HeapIn.nil | refine HeapIn.cons (by decide) (by first | exact Blk.bnd_own0 (by assumption) | exact ec_bnd _ _ | (simp [Blk.bnd, SV.bnd, SV.bndL]; done)) (by simp) (by first | rfl | (rw [Blk.ren_own0 (by assumption)]; rfl)) ?_)) ?_)
    generalize dLs bs (s2, a2) [80, 73] = t at *
    rotate_left
    rw [show liveL (a2.1 15) = some [85, 80] by rw [hk]; rfl] at hκ
    dsimp only at hκ
    refine (Does.D hκ.hP hκ.hgl _ (id) [0, 1, 2] _ _ (change10D bs s2 a2 hs2 hk hw2 hn hby) (by rfl) ⟨trivial, by simp [SV.bnd, SV.bndL], by simp [SV.bnd, SV.bndL]⟩ (by first | assumption | exact ec_bnd _ _ | (simp [SV.bnd, SV.bndL]; done)) (by decide) (by intro i hi; (repeat (first | omega | (dsimp only [id]; omega) | split))) (by intro i j; (repeat (first | omega | (dsimp only [id]; omega) | split))) (by repeat' (first | exact HeapIn.nil | refine HeapIn.cons (by decide) (by first | exact Blk.bnd_own0 (by assumption) | exact ec_bnd _ _ | (simp [Blk.bnd, SV.bnd, SV.bndL]; done)) (by simp) (by first | rfl | (rw [Blk.ren_own0 (by assumption)]; rfl)) ?_)) ?_)
    generalize dLs bs (s2, a2) [85, 80] = t at *
    rotate_left
    all_goals
      simp only [renH, Blk.ren, SV.renL, SV.ren, tau, without, List.mem_singleton, List.mem_cons, List.not_mem_nil, or_false, or_true, true_or, Nat.reduceEqDiff, Nat.reduceLT, Nat.zero_lt_one, Nat.one_ne_zero, Nat.zero_ne_one, Nat.zero_lt_succ, ↓reduceIte, List.cons_append, List.nil_append, List.append_nil, id]
      refine hκ.run 300 ?_
      simp (disch := omega) only [push_cast, simprocAttr]
      (first | refine OutOK_guard (fun h => ?_) (fun h => ?_) | refine GF.of (fun h => ?_) (fun h => ?_)) <;> try simp only [Bool.not_true, Bool.not_false, decide_eq_true_eq, decide_eq_false_iff_not, Bool.not_eq_true', Bool.not_eq_false', Bool.and_eq_true, Bool.or_eq_false_iff, Bool.or_eq_true, Bool.and_eq_false_iff] at h
    all_goals
      simp (disch := omega) only [push_cast, simprocAttr]
      refine hκ.fin _ _ _ _ _ trivial rfl ?_
      exact Post.D (ec_bnd _ _) trivial (by decide) (by first | rfl | (simp [dropL, Heap.get, h]; done)) (by first | rfl | (simp [dropL, Heap.get, ec, h]; done)) (by first | rfl | (simp [dropL, Heap.get, h]; done))
  by_cases k3 : x0 = 3
  · subst k3
    rw [if_neg (by decide), if_neg (by decide), if_pos rfl] at hκ
    refine hκ.run 300 ?_
    simp (disch := omega) only [push_cast, simprocAttr, cec]
    refine (Does.D hκ.hP hκ.hgl _ (id) [0, 1, 2] _ _ (oneDD bs s1 (ec (upd a 0 3)) (ec (upd (upd a 0 3) 28 (IntKind.i64.wrap (numR bs s1.wk s1.er 8)))) _ 28 (ec_bnd _ _) (ec_bnd _ _) rfl hw1 hn hby) (by rfl) ⟨trivial, by simp [SV.bnd, SV.bndL], by simp [SV.bnd, SV.bndL]⟩ (by first | assumption | exact ec_bnd _ _ | (simp [SV.bnd, SV.bndL]; done)) (by decide) (by intro i hi; (repeat (first | omega | (dsimp only [id]; omega) | split))) (by intro i j; (repeat (first | omega | (dsimp only [id]; omega) | split))) (by repeat' (first | exact HeapIn.nil | refine HeapIn.cons (by decide) (by first | exact Blk.bnd_own0 (by assumption) | exact ec_bnd _ _ | (simp [Blk.bnd, SV.bnd, SV.bndL]; done)) (by simp) (by first | rfl | (rw [Blk.ren_own0 (by assumption)]; rfl)) ?_)) ?_)
    simp only [renH, Blk.ren, SV.renL, SV.ren, tau, without, List.mem_singleton, List.mem_cons, List.not_mem_nil, or_false, or_true, true_or, Nat.reduceEqDiff, Nat.reduceLT, Nat.zero_lt_one, Nat.one_ne_zero, Nat.zero_ne_one, Nat.zero_lt_succ, ↓reduceIte, List.cons_append, List.nil_append, List.append_nil, id]
    have hs3 : (rdS bs 8 s1).bad = false := hs1
    refine hκ.run 300 ?_
    simp (disch := omega) only [push_cast, simprocAttr, hs3]
    refine hκ.fin _ _ _ _ _ trivial rfl ?_
    exact Post.D (ec_bnd _ _) trivial (by decide) (by simp [dropL, Heap.get, hs3]) rfl rfl
  rw [if_neg k1, if_neg k2, if_neg k3] at hκ
  have q1 : (x0 = 1) = False := by first | (simp only [eq_iff_iff, iff_false]; first | assumption | omega) | (simp; omega)
  have q2 : (x0 = 2) = False := by first | (simp only [eq_iff_iff, iff_false]; first | assumption | omega) | (simp; omega)
  have q3 : (x0 = 3) = False := by first | (simp only [eq_iff_iff, iff_false]; first | assumption | omega) | (simp; omega)
  refine hκ.run 300 ?_
  simp (disch := omega) only [push_cast, simprocAttr, cec, q1, q2, q3, hs1]
  refine Does.keep hκ.hP hκ.hgl 2 [.ptr 0 0 0 0] (err_ok bs _ _) rfl ⟨trivial, by first | (simp [SV.bnd, SV.bndL]; done) | (simp [SV.bnd, SV.bndL, ec_bnd]; done), by first | (simp [SV.bnd, SV.bndL]; done) | (simp [SV.bnd, SV.bndL, ec_bnd]; done) | assumption⟩ ⟨Rdr.good.1, Rdr.good.2, Rdr.good.1⟩ rfl (by first | omega | (dsimp only; omega)) ?_
  refine hκ.run 300 ?_
  simp (disch := omega) only [push_cast, simprocAttr, cec, q1, q2, q3, hs1]
  refine hκ.fin _ _ _ _ _ trivial rfl ?_
  exact Post.D (ec_bnd _ _) trivial (by decide) rfl rfl rfl
end Go.Proofs.Ytmieikflcolbaaa
