/- From bytes: lists. No condition. -/
import Derived.Test.YtmieikflcolbaaaFb
import Derived.Test.YtmieikflcolbaaaEd
namespace Go.Proofs.Ytmieikflcolbaaa
open Go Go.Sy
set_option maxRecDepth 100000
set_option linter.unusedSimpArgs false
set_option linter.unusedVariables false
theorem numR1 (bs : List Int) (wk : Nat) (h : wk < bs.length) (hby : ∀ b ∈ bs, 0 ≤ b ∧ b < 256) : numR bs wk 0 1 = bs.getD wk default := by
  rw [numR, if_pos ⟨rfl, by omega⟩, List.drop_eq_getElem_cons h]
  have hb := hby _ (List.getElem_mem h)
  simp only [List.take_succ_cons, List.take_zero, num, List.foldl_cons, List.foldl_nil, List.getD, List.getElem?_eq_getElem h, Option.getD_some]
  omega
def listS (bs : List Int) (s : In) : In :=
  if (rdS bs 1 s).er ≠ 0 ∨ 32 < numR bs s.wk s.er 1 then ⟨(rdS bs 1 s).wk, (rdS bs 1 s).er, s.bad || decide (32 < numR bs s.wk s.er 1)⟩
  else ⟨min ((rdS bs 1 s).wk + (numR bs s.wk s.er 1).toNat) bs.length, if (rdS bs 1 s).wk + (numR bs s.wk s.er 1).toNat ≤ bs.length then 0 else 7, s.bad⟩
def listL (bs : List Int) (s : In) : List Int :=
  if (rdS bs 1 s).er ≠ 0 ∨ 32 < numR bs s.wk s.er 1 then [] else (bs.drop (rdS bs 1 s).wk).take (numR bs s.wk s.er 1).toNat
def setL (a : Evt) (l : List Int) : Evt := (a.1, l, a.2.2)
def setM (a : Evt) (l : List Int) : Evt := (a.1, a.2.1, l)
def stepE (n w k : Nat) : Int := if w + k ≤ n then 0 else 7
theorem listCD (bs : List Int) (s : In) (a : Evt) (hs : s.bad = false) (hw : s.wk ≤ bs.length) (hn : bs.length < 2 ^ 46) (hby : ∀ b ∈ bs, 0 ≤ b ∧ b < 256) :
    Con Try.prog gl0 (fnv 71) [.ptr 0 0 0 0, .ptr 1 0 0 6] 3 (HD bs s (ec a) 37) (RetD bs (listS bs s) (ec (setL a (listL bs s))) 37 3 vd) := by
  have c1 : Con Try.prog gl0 (fnv 49) [.ptr 0 0 0 0, .sl 3 1 0 1 1] 4 [(0, CaD false), (1, .own [I a.2.1.length] 3), (2, Rdr bs s.wk s.er), (3, .own [.ptr 1 0 0 0] 98)] (RetD bs ⟨(rdS bs 1 s).wk, (rdS bs 1 s).er, false⟩ [I (numR bs s.wk s.er 1)] 3 4 vd) :=
    small1D bs ⟨s.wk, s.er, false⟩ [I _] [I (numR bs s.wk s.er 1)] _ 0 (by simp [SV.bnd, SV.bndL]) (by simp [SV.bnd, SV.bndL]) rfl hw hn hby
  have cec : cut (ec a) 6 1 = some [Is a.2.1] := rfl
  have hS : listS bs s = if (rdS bs 1 s).er ≠ 0 ∨ 32 < numR bs s.wk s.er 1 then ⟨(rdS bs 1 s).wk, (rdS bs 1 s).er, decide (32 < numR bs s.wk s.er 1)⟩
    else ⟨min ((rdS bs 1 s).wk + (numR bs s.wk s.er 1).toNat) bs.length, if (rdS bs 1 s).wk + (numR bs s.wk s.er 1).toNat ≤ bs.length then 0 else 7, false⟩ := by simp only [listS, hs, Bool.false_or]
  have hL : listL bs s = if (rdS bs 1 s).er ≠ 0 ∨ 32 < numR bs s.wk s.er 1 then [] else (bs.drop (rdS bs 1 s).wk).take (numR bs s.wk s.er 1).toNat := rfl
  have hb := numR_bd bs s.wk s.er 1 hby
  have hw1 : (rdS bs 1 s).wk ≤ bs.length := rdS_wk hw
  generalize numR bs s.wk s.er 1 = x at *
  generalize (rdS bs 1 s).wk = w1 at *
  generalize (rdS bs 1 s).er = e1 at *
  obtain ⟨n, rfl⟩ : ∃ n : Nat, x = n := ⟨x.toNat, by omega⟩
  simp only [Int.toNat_natCast] at hS hL
  rw [hS, hL]
  clear hS hL
  have hHD : HD bs s (ec a) 37 = [(0, CaD false), (1, .own (ec a) 37), (2, Rdr bs s.wk s.er)] := by rw [HD, hs]
  rw [hHD]
  clear hHD hb
  have pec : paste (ec a) 6 [.v (.slice none 0 0)] = some (ec a |>.set 6 (.v (.slice none 0 0))) := rfl
  refine Con.of Try.ok71 (nt := 68) (res := []) Try.mixed Try.func71 rfl rfl rfl rfl fun κ xc hκ => hκ.run 300 ?_
  simp (disch := omega) only [push_cast, simprocAttr, cec, pec]
  refine (Does.D hκ.hP hκ.hgl _ (fun i => if i = 1 then 3 else if i = 3 then 4 else i) [0, 3, 2, 4] _ _ (c1) (by rfl) ⟨trivial, by simp [SV.bnd, SV.bndL], by simp [SV.bnd, SV.bndL]⟩ (by first | assumption | exact ec_bnd _ _ | (simp [SV.bnd, SV.bndL]; done)) (by decide) (by intro i hi; (repeat (first | omega | (dsimp only [id]; omega) | split))) (by intro i j; (repeat (first | omega | (dsimp only [id]; omega) | split))) (by repeat' (first | exact HeapIn.nil | refine HeapIn.cons (by decide) (by first | exact Blk.bnd_own0 (by assumption) | exact ec_bnd _ _ | (simp [Blk.bnd, SV.bnd, SV.bndL]; done)) (by simp) (by first | rfl | (rw [Blk.ren_own0 (by assumption)]; rfl)) ?_)) ?_)
  simp only [renH, Blk.ren, SV.renL, SV.ren, tau, without, List.mem_singleton, List.mem_cons, List.not_mem_nil, or_false, or_true, true_or, Nat.reduceEqDiff, Nat.reduceLT, Nat.zero_lt_one, Nat.one_ne_zero, Nat.zero_ne_one, Nat.zero_lt_succ, ↓reduceIte, List.cons_append, List.nil_append, List.append_nil, id]
  refine hκ.run 300 ?_
  simp (disch := omega) only [push_cast, simprocAttr, cec, pec]
  have hnil : ∀ ν vs, RelL ν ((ec a).set 6 (.v (.slice none 0 0))) vs → RelL ν (ec (setL a [])) vs := by
    intro ν
    simp only [ec, List.set_cons_succ, List.set_cons_zero, setL, List.map_nil]
    repeat' (first | exact RelL.nilrd (fun vs h => h) | refine RelL.keep ?_)
  by_cases h32 : 32 < n
  · have q1 : (32 < (n : Int)) = True := by first | (simp only [eq_iff_iff, iff_true]; first | assumption | omega) | (simp; omega)
    rw [if_pos (Or.inr (by omega)), if_pos (Or.inr (by omega)), decide_eq_true (by omega)] at hκ
    simp (disch := omega) only [push_cast, simprocAttr, cec, pec, q1]
    refine Sat.repOwn 1 _ _ _ rfl hnil ?_
    simp only [Heap.set, Nat.reduceEqDiff, ↓reduceIte]
    refine Sat.enter ?_
    have q2 : (0 < (n : Int)) = True := by first | (simp only [eq_iff_iff, iff_true]; first | assumption | omega) | (simp; omega)
    refine hκ.run 300 ?_
    simp (disch := omega) only [push_cast, simprocAttr, q2]
    refine Does.inl hκ.hP hκ.hgl Try.ok47 (nt := 22) (res := [.tmp 2]) Try.mixed Try.func47 rfl rfl rfl rfl fun κ_hst x_hst hst => hst.run 300 ?_
    simp (disch := omega) only [push_cast, simprocAttr, q2]
    refine hst.ret _ _ _ _ _ _ trivial rfl ?_
    refine hκ.run 300 ?_
    simp (disch := omega) only [push_cast, simprocAttr, q2]
    refine hκ.fin _ _ _ _ _ trivial rfl ?_
    exact Post.D (ec_bnd _ _) trivial (by decide) rfl rfl rfl
  · have q1 : (32 < (n : Int)) = False := by first | (simp only [eq_iff_iff, iff_false]; first | assumption | omega) | (simp; omega)
    simp (disch := omega) only [push_cast, simprocAttr, cec, pec, q1]
    by_cases he : e1 = 0
    · subst he
      rw [if_neg (show ¬((0 : Int) ≠ 0 ∨ 32 < (n : Int)) by omega), if_neg (show ¬((0 : Int) ≠ 0 ∨ 32 < (n : Int)) by omega)] at hκ
      refine Sat.nilCell 1 1 3 37 ((ec a).take 6) ((ec a).drop (6 + 1)) rfl ?_
      simp only [Heap.set, Nat.reduceEqDiff, ↓reduceIte]
      have hset : ∀ q, (ec a).take 6 ++ q :: (ec a).drop (6 + 1) = (ec a).set 6 q := fun q => rfl
      rw [hset]
      have cset : ∀ R len cap, cut ((ec a).set 6 (.sl R 1 0 len cap)) 6 1 = some [.sl R 1 0 len cap] := fun _ _ _ => rfl
      have pset : ∀ R len cap q, paste ((ec a).set 6 (.sl R 1 0 len cap)) 6 [q] = some ((ec a).set 6 q) := fun _ _ _ _ => rfl
      refine Sat.less (Sat.loop (γ := Nat × Nat) (fun g => ([(5, I g.1), (4, .ptr 3 0 0 0), (0, .ptr 0 0 0 0), (1, .ptr 1 0 0 6)], [(5, .row 1 g.2 3 (((bs.drop w1).take g.1).map (eI .i64))), (1, .own ((ec a).set 6 (.sl 5 1 0 ((bs.drop w1).take g.1).length g.2)) 37), (0, CaD false), (3, .own [I n] 3), (2, Rdr bs ((min (w1 + g.1) bs.length : Nat)) (stepE bs.length w1 g.1))], 6))
        (fun g => n - g.1) (fun g => g.1 ≤ n ∧ ((bs.drop w1).take g.1).length ≤ g.2) ?round (0, 0) ⟨Nat.zero_le _, by simp⟩) (by repeat' (first | exact EnvSub.nil _ | exact HeapSub.nil _ | refine EnvSub.cons rfl ?_ | refine HeapSub.cons rfl ?_ | (refine EnvSub.cons (by simp [Env.get]; done) ?_) | (refine HeapSub.cons (by simp [Heap.get]; done) ?_))) (by dsimp only; rw [show min (w1 + 0) bs.length = w1 by omega, show stepE bs.length w1 0 = 0 from if_pos (by omega)]; exact (by repeat' (first | exact EnvSub.nil _ | exact HeapSub.nil _ | refine EnvSub.cons rfl ?_ | refine HeapSub.cons rfl ?_ | (refine EnvSub.cons (by simp [Env.get]; done) ?_) | (refine HeapSub.cons (by simp [Heap.get]; done) ?_))))
      case round =>
        rintro ⟨k, cp⟩ ⟨hk, hcp⟩ ih
        dsimp only at hk hcp ih ⊢
        have hfin1 : (k = n ∨ bs.length < w1 + k) → min (w1 + n) bs.length = min (w1 + k) bs.length := by omega
        have hfin2 : (k = n ∨ bs.length < w1 + k) → (if w1 + n ≤ bs.length then (0 : Int) else 7) = stepE bs.length w1 k := by
          intro h
          rw [stepE]
          rcases h with rfl | h
          · rfl
          · rw [if_neg (by omega), if_neg (by omega)]
        have hfin3 : (k = n ∨ bs.length < w1 + k) → (bs.drop w1).take n = (bs.drop w1).take k := by
          rintro (rfl | h)
          · rfl
          · rw [List.take_of_length_le (by simp; omega), List.take_of_length_le (by simp; omega)]
        have et : ∀ t, List.take ((bs.drop w1).take k).length (List.map t ((bs.drop w1).take k)) = List.map t ((bs.drop w1).take k) := fun (t : Int → List SV) => List.take_of_length_le (by simp)
        by_cases hkn : k < n
        · have q2 : ((k : Int) < (n : Int)) = True := by first | (simp only [eq_iff_iff, iff_true]; first | assumption | omega) | (simp; omega)
          refine hκ.run 300 ?_
          simp (disch := omega) only [push_cast, simprocAttr, q2]
          refine Does.inl hκ.hP hκ.hgl Try.ok47 (nt := 22) (res := [.tmp 2]) Try.mixed Try.func47 rfl rfl rfl rfl fun κ_hst x_hst hst => hst.run 300 ?_
          simp (disch := omega) only [push_cast, simprocAttr, q2]
          refine Does.keep hst.hP hst.hgl 2 [.ptr 0 0 0 0] (err_ok bs _ _) rfl ⟨trivial, by first | (simp [SV.bnd, SV.bndL]; done) | (simp [SV.bnd, SV.bndL, ec_bnd]; done), by first | (simp [SV.bnd, SV.bndL]; done) | (simp [SV.bnd, SV.bndL, ec_bnd]; done) | assumption⟩ ⟨Rdr.good.1, Rdr.good.2, Rdr.good.1⟩ rfl (by first | omega | (dsimp only; omega)) ?_
          by_cases h7 : w1 + k ≤ bs.length
          · have h8 : stepE bs.length w1 k = 0 := if_pos h7
            have h9 : min (w1 + k) bs.length = w1 + k := by omega
            rw [h8, h9]
            refine hst.run 300 ?_
            simp (disch := omega) only [push_cast, simprocAttr, q2]
            refine hst.ret _ _ _ _ _ _ trivial rfl ?_
            refine hκ.run 300 ?_
            simp (disch := omega) only [push_cast, simprocAttr, q2]
            by_cases hlt : w1 + k < bs.length
            · have c2 : Con Try.prog gl0 (fnv 49) [.ptr 0 0 0 0, .sl 3 1 0 1 1] 4 [(0, CaD false), (1, .own [I 0] 3), (2, Rdr bs ((w1 : Int) + k) 0), (3, .own [.ptr 1 0 0 0] 98)] (RetD bs ⟨w1 + k + 1, 0, false⟩ [I (bs.getD (w1 + k) default)] 3 4 vd) := by
                have c := small1D bs ⟨w1 + k, 0, false⟩ [I 0] [I (numR bs (w1 + k) 0 1)] 3 0 (by simp [SV.bnd, SV.bndL]) (by simp [SV.bnd, SV.bndL]) rfl h7 hn hby
                rw [numR1 bs (w1 + k) hlt hby, rdS, show wkR bs (w1 + k) 0 1 = w1 + k + 1 from if_pos ⟨rfl, by omega⟩, show erR bs (w1 + k) 0 1 = 0 from if_neg (by omega)] at c
                rw [← Int.natCast_add]
                exact c
              have htk : (bs.drop w1).take (k + 1) = (bs.drop w1).take k ++ [bs.getD (w1 + k) default] := by
                rw [List.take_succ_eq_append_getElem (by simp; omega)]
                simp [List.getD, hlt]
              have htl : ((bs.drop w1).take k).length = k := by simp; omega
              have hz := fun cap h => ih (k + 1, cap) ⟨by dsimp only; omega, h⟩ (by dsimp only; omega)
              dsimp only at hz
              rw [htk, show min (w1 + (k + 1)) bs.length = w1 + k + 1 by omega, show stepE bs.length w1 (k + 1) = 0 from if_pos (by omega)] at hz
              clear ih htk
              generalize (bs.drop w1).take k = pre at *
              refine (Does.D hκ.hP hκ.hgl _ (fun i => if i = 1 then 6 else if i = 3 then 7 else i) [0, 6, 2, 7] _ _ (c2) (by rfl) ⟨trivial, by simp [SV.bnd, SV.bndL], by simp [SV.bnd, SV.bndL]⟩ (by first | assumption | exact ec_bnd _ _ | (simp [SV.bnd, SV.bndL]; done)) (by decide) (by intro i hi; (repeat (first | omega | (dsimp only [id]; omega) | split))) (by intro i j; (repeat (first | omega | (dsimp only [id]; omega) | split))) (by repeat' (first | exact HeapIn.nil | refine HeapIn.cons (by decide) (by first | exact Blk.bnd_own0 (by assumption) | exact ec_bnd _ _ | (simp [Blk.bnd, SV.bnd, SV.bndL]; done)) (by simp) (by first | rfl | (rw [Blk.ren_own0 (by assumption)]; rfl)) ?_)) ?_)
              simp only [renH, Blk.ren, SV.renL, SV.ren, tau, without, List.mem_singleton, List.mem_cons, List.not_mem_nil, or_false, or_true, true_or, Nat.reduceEqDiff, Nat.reduceLT, Nat.zero_lt_one, Nat.one_ne_zero, Nat.zero_ne_one, Nat.zero_lt_succ, ↓reduceIte, List.cons_append, List.nil_append, List.append_nil, id]
              refine hκ.run 300 ?_
              simp (disch := omega) only [push_cast, simprocAttr, cset, pset, htl]
              refine Does.inl hκ.hP hκ.hgl Try.ok47 (nt := 22) (res := [.tmp 2]) Try.mixed Try.func47 rfl rfl rfl rfl fun κ_hst x_hst hst => hst.run 300 ?_
              simp (disch := omega) only [push_cast, simprocAttr, cset, pset, htl]
              refine Does.keep hst.hP hst.hgl 2 [.ptr 0 0 0 0] (err_ok bs _ _) rfl ⟨trivial, by first | (simp [SV.bnd, SV.bndL]; done) | (simp [SV.bnd, SV.bndL, ec_bnd]; done), by first | (simp [SV.bnd, SV.bndL]; done) | (simp [SV.bnd, SV.bndL, ec_bnd]; done) | assumption⟩ ⟨Rdr.good.1, Rdr.good.2, Rdr.good.1⟩ rfl (by first | omega | (dsimp only; omega)) ?_
              refine hst.run 300 ?_
              simp (disch := omega) only [push_cast, simprocAttr, cset, pset, htl]
              refine hst.ret _ _ _ _ _ _ trivial rfl ?_
              refine hκ.run 300 ?_
              simp (disch := omega) only [push_cast, simprocAttr, cset, pset, htl]
              refine hκ.draw (.q 0 (.q 1 (.q 2 (.q 3 (.q 4 (.l 5 [3] (.l 6 [4] (.q 7 (.l 8 [] (.fin)))))))))) [0, 1, 2, 3, 4, 7] (by kernel_rfl) (by kernel_rfl) rfl ?_
              simp (disch := omega) only [push_cast, simprocAttr, cset, pset, htl]
              (repeat (refine ⟨by first | omega | (refine ⟨?_, ?_⟩ <;> omega) | trivial | (simp; done) | decide +kernel, fun _ => ?_⟩))
              intro i
              have hy := hz (k + 1 + i) (by simp; omega)
              have et2 : List.take k (List.map (eI .i64) pre) = List.map (eI .i64) pre := List.take_of_length_le (by simp; omega)
              rw [et2]
              refine hκ.run 300 ?_
              simp (disch := omega) only [push_cast, simprocAttr]
              simp only [ec, List.set_cons_succ, List.set_cons_zero] at hy ⊢
              simp only [List.length_append, List.length_cons, List.length_nil, List.length_singleton, List.length_map, List.length_set, List.length_replicate, Nat.zero_add, Nat.add_zero, Int.natCast_add, Int.natCast_one, Int.ofNat_eq_natCast, List.map_append, List.map_cons, List.map_nil, List.take_length, eI, eB] at hy ⊢
              rw [htl] at hy
              refine Sat.via (fun i => if i = 5 then 9 else i) (hy) (by intro i j; (repeat (first | omega | split))) (by repeat' (first | exact EnvVia.nil | refine EnvVia.cons (by first | trivial | decide | (simp [SV.bnd, SV.bndL]; done)) rfl ?_)) (by repeat' (first | exact HeapVia.nil | refine HeapVia.cons (by decide) (by first | trivial | exact Blk.bnd_own0 (by assumption) | (simp [Blk.bnd, SV.bnd, SV.bndL]; done) | exact bndL_mapV _ _ _ | exact LR.bnd (by rw [l2]; simp [bndE, SV.bnd, SV.bndL]) (by rw [l6]; decide)) (by first | (rw [Blk.ren_own0 (by assumption)]; rfl) | rfl | (simp only [Blk.ren, renL_mapV]; rfl) | (rw [LR.ren (by rw [l2] <;> rfl) (by rw [l6] <;> rfl)]; rfl)) ?_)) ⟨by have := hκ.hm; (try dsimp only at this); (first | done | omega), fun i hi => by have := hκ.hm; (try dsimp only at this); (first | omega | (dsimp only; omega) | (rw [if_neg (by omega)]))⟩ ⟨by simp, rfl⟩
            · have c2 : Con Try.prog gl0 (fnv 49) [.ptr 0 0 0 0, .sl 3 1 0 1 1] 4 [(0, CaD false), (1, .own [I 0] 3), (2, Rdr bs ((w1 : Int) + k) 0), (3, .own [.ptr 1 0 0 0] 98)] (RetD bs ⟨w1 + k, 7, false⟩ [I 0] 3 4 vd) := by
                have c := small1D bs ⟨w1 + k, 0, false⟩ [I 0] [I (numR bs (w1 + k) 0 1)] 3 0 (by simp [SV.bnd, SV.bndL]) (by simp [SV.bnd, SV.bndL]) rfl h7 hn hby
                rw [show numR bs (w1 + k) 0 1 = 0 from if_neg (by omega), rdS, show wkR bs (w1 + k) 0 1 = w1 + k from if_neg (by omega), show erR bs (w1 + k) 0 1 = 7 from if_pos ⟨rfl, by omega⟩] at c
                rw [← Int.natCast_add]
                exact c
              have htk : (bs.drop w1).take (k + 1) = (bs.drop w1).take k := by
                rw [List.take_of_length_le (by simp; omega), List.take_of_length_le (by simp; omega)]
              have hz := fun cap h => ih (k + 1, cap) ⟨by dsimp only; omega, h⟩ (by dsimp only; omega)
              dsimp only at hz
              rw [htk, show min (w1 + (k + 1)) bs.length = w1 + k by omega, show stepE bs.length w1 (k + 1) = 7 from if_neg (by omega)] at hz
              clear ih htk
              generalize (bs.drop w1).take k = pre at *
              refine (Does.D hκ.hP hκ.hgl _ (fun i => if i = 1 then 6 else if i = 3 then 7 else i) [0, 6, 2, 7] _ _ (c2) (by rfl) ⟨trivial, by simp [SV.bnd, SV.bndL], by simp [SV.bnd, SV.bndL]⟩ (by first | assumption | exact ec_bnd _ _ | (simp [SV.bnd, SV.bndL]; done)) (by decide) (by intro i hi; (repeat (first | omega | (dsimp only [id]; omega) | split))) (by intro i j; (repeat (first | omega | (dsimp only [id]; omega) | split))) (by repeat' (first | exact HeapIn.nil | refine HeapIn.cons (by decide) (by first | exact Blk.bnd_own0 (by assumption) | exact ec_bnd _ _ | (simp [Blk.bnd, SV.bnd, SV.bndL]; done)) (by simp) (by first | rfl | (rw [Blk.ren_own0 (by assumption)]; rfl)) ?_)) ?_)
              simp only [renH, Blk.ren, SV.renL, SV.ren, tau, without, List.mem_singleton, List.mem_cons, List.not_mem_nil, or_false, or_true, true_or, Nat.reduceEqDiff, Nat.reduceLT, Nat.zero_lt_one, Nat.one_ne_zero, Nat.zero_ne_one, Nat.zero_lt_succ, ↓reduceIte, List.cons_append, List.nil_append, List.append_nil, id]
              refine hκ.run 300 ?_
              simp (disch := omega) only [push_cast, simprocAttr]
              refine Does.inl hκ.hP hκ.hgl Try.ok47 (nt := 22) (res := [.tmp 2]) Try.mixed Try.func47 rfl rfl rfl rfl fun κ_hst x_hst hst => hst.run 300 ?_
              simp (disch := omega) only [push_cast, simprocAttr]
              refine Does.keep hst.hP hst.hgl 2 [.ptr 0 0 0 0] (err_ok bs _ _) rfl ⟨trivial, by first | (simp [SV.bnd, SV.bndL]; done) | (simp [SV.bnd, SV.bndL, ec_bnd]; done), by first | (simp [SV.bnd, SV.bndL]; done) | (simp [SV.bnd, SV.bndL, ec_bnd]; done) | assumption⟩ ⟨Rdr.good.1, Rdr.good.2, Rdr.good.1⟩ rfl (by first | omega | (dsimp only; omega)) ?_
              refine hst.run 300 ?_
              simp (disch := omega) only [push_cast, simprocAttr]
              refine hst.ret _ _ _ _ _ _ trivial rfl ?_
              refine hκ.run 300 ?_
              simp (disch := omega) only [push_cast, simprocAttr]
              have hy := hz cp hcp
              simp only [ec, List.set_cons_succ, List.set_cons_zero] at hy ⊢
              simp only [List.length_append, List.length_cons, List.length_nil, List.length_singleton, List.length_map, List.length_set, List.length_replicate, Nat.zero_add, Nat.add_zero, Int.natCast_add, Int.natCast_one, Int.ofNat_eq_natCast, List.map_append, List.map_cons, List.map_nil, List.take_length, eI, eB] at hy ⊢
              refine Sat.via (fun i => i) (hy) (by intro i j; (repeat (first | omega | split))) (by repeat' (first | exact EnvVia.nil | refine EnvVia.cons (by first | trivial | decide | (simp [SV.bnd, SV.bndL]; done)) rfl ?_)) (by repeat' (first | exact HeapVia.nil | refine HeapVia.cons (by decide) (by first | trivial | exact Blk.bnd_own0 (by assumption) | (simp [Blk.bnd, SV.bnd, SV.bndL]; done) | exact bndL_mapV _ _ _ | exact LR.bnd (by rw [l2]; simp [bndE, SV.bnd, SV.bndL]) (by rw [l6]; decide)) (by first | (rw [Blk.ren_own0 (by assumption)]; rfl) | rfl | (simp only [Blk.ren, renL_mapV]; rfl) | (rw [LR.ren (by rw [l2] <;> rfl) (by rw [l6] <;> rfl)]; rfl)) ?_)) ⟨by have := hκ.hm; (try dsimp only at this); (first | done | omega), fun i hi => by have := hκ.hm; (try dsimp only at this); (first | omega | (dsimp only; omega) | (rw [if_neg (by omega)]))⟩ ⟨by simp, rfl⟩
          · have h8 : stepE bs.length w1 k = 7 := if_neg h7
            rw [h8]
            refine hst.run 300 ?_
            simp (disch := omega) only [push_cast, simprocAttr, q2]
            refine hst.ret _ _ _ _ _ _ trivial rfl ?_
            refine hκ.run 300 ?_
            simp (disch := omega) only [push_cast, simprocAttr, q2]
            rw [← h8]
            simp only [ec, List.set_cons_succ, List.set_cons_zero]
            refine Sat.frzOwn [5] 1 _ _ rfl (by decide) (by first | (simp [lendPL, lendP, lendSlP, Heap.get]; done) | (simp only [lendPL, lendP, lendSlP, Heap.get, List.mem_singleton, List.mem_cons, List.not_mem_nil, or_false, or_true, true_or, Nat.reduceEqDiff, Nat.one_ne_zero, Nat.zero_ne_one, ↓reduceIte, and_true, true_and, List.length_map, List.length_append, List.length_cons, List.length_nil, List.length_replicate]; omega)) ?_
            simp only [lendL, lendS, lendSl, Heap.get, without, List.mem_singleton, List.mem_cons, List.not_mem_nil, or_false, or_true, true_or, List.drop_zero, List.take_length, List.take_succ_cons, List.take_zero, Nat.reduceAdd, Nat.reduceEqDiff, Nat.one_ne_zero, Nat.zero_ne_one, ↓reduceIte]
            simp only [Heap.set, Nat.reduceEqDiff, ↓reduceIte, et]
            rw [hfin1 (Or.inr (by omega)), hfin2 (Or.inr (by omega)), hfin3 (Or.inr (by omega))] at hκ
            refine hκ.fin _ _ _ _ _ trivial rfl ?_
            exact Post.D (ec_bnd _ _) trivial (by decide) rfl rfl rfl
        · have q2 : ((k : Int) < (n : Int)) = False := by first | (simp only [eq_iff_iff, iff_false]; first | assumption | omega) | (simp; omega)
          refine hκ.run 300 ?_
          simp (disch := omega) only [push_cast, simprocAttr, q2]
          simp only [ec, List.set_cons_succ, List.set_cons_zero]
          refine Sat.frzOwn [5] 1 _ _ rfl (by decide) (by first | (simp [lendPL, lendP, lendSlP, Heap.get]; done) | (simp only [lendPL, lendP, lendSlP, Heap.get, List.mem_singleton, List.mem_cons, List.not_mem_nil, or_false, or_true, true_or, Nat.reduceEqDiff, Nat.one_ne_zero, Nat.zero_ne_one, ↓reduceIte, and_true, true_and, List.length_map, List.length_append, List.length_cons, List.length_nil, List.length_replicate]; omega)) ?_
          simp only [lendL, lendS, lendSl, Heap.get, without, List.mem_singleton, List.mem_cons, List.not_mem_nil, or_false, or_true, true_or, List.drop_zero, List.take_length, List.take_succ_cons, List.take_zero, Nat.reduceAdd, Nat.reduceEqDiff, Nat.one_ne_zero, Nat.zero_ne_one, ↓reduceIte]
          simp only [Heap.set, Nat.reduceEqDiff, ↓reduceIte, et]
          rw [hfin1 (Or.inl (by omega)), hfin2 (Or.inl (by omega)), hfin3 (Or.inl (by omega))] at hκ
          refine hκ.fin _ _ _ _ _ trivial rfl ?_
          exact Post.D (ec_bnd _ _) trivial (by decide) rfl rfl rfl
    · rw [if_pos (Or.inl he), if_pos (Or.inl he), decide_eq_false (by omega)] at hκ
      refine Sat.repOwn 1 _ _ _ rfl hnil ?_
      simp only [Heap.set, Nat.reduceEqDiff, ↓reduceIte]
      refine Sat.enter ?_
      by_cases h0 : 0 < n
      · have q2 : (0 < (n : Int)) = True := by first | (simp only [eq_iff_iff, iff_true]; first | assumption | omega) | (simp; omega)
        refine hκ.run 300 ?_
        simp (disch := omega) only [push_cast, simprocAttr, q2]
        refine Does.inl hκ.hP hκ.hgl Try.ok47 (nt := 22) (res := [.tmp 2]) Try.mixed Try.func47 rfl rfl rfl rfl fun κ_hst x_hst hst => hst.run 300 ?_
        simp (disch := omega) only [push_cast, simprocAttr, q2]
        refine Does.keep hst.hP hst.hgl 2 [.ptr 0 0 0 0] (err_ok bs w1 e1) rfl ⟨trivial, by first | (simp [SV.bnd, SV.bndL]; done) | (simp [SV.bnd, SV.bndL, ec_bnd]; done), by first | (simp [SV.bnd, SV.bndL]; done) | (simp [SV.bnd, SV.bndL, ec_bnd]; done) | assumption⟩ ⟨Rdr.good.1, Rdr.good.2, Rdr.good.1⟩ rfl (by first | omega | (dsimp only; omega)) ?_
        have q3 : (e1 = 0) = False := by first | (simp only [eq_iff_iff, iff_false]; first | assumption | omega) | (simp; omega)
        refine hst.run 300 ?_
        simp (disch := omega) only [push_cast, simprocAttr, q3, q2]
        refine hst.ret _ _ _ _ _ _ trivial rfl ?_
        refine hκ.run 300 ?_
        simp (disch := omega) only [push_cast, simprocAttr, q2]
        refine hκ.fin _ _ _ _ _ trivial rfl ?_
        exact Post.D (ec_bnd _ _) trivial (by decide) rfl rfl rfl
      · have q2 : (0 < (n : Int)) = False := by first | (simp only [eq_iff_iff, iff_false]; first | assumption | omega) | (simp; omega)
        refine hκ.run 300 ?_
        simp (disch := omega) only [push_cast, simprocAttr, q2]
        refine hκ.fin _ _ _ _ _ trivial rfl ?_
        exact Post.D (ec_bnd _ _) trivial (by decide) rfl rfl rfl
theorem listMD (bs : List Int) (s : In) (a : Evt) (hs : s.bad = false) (hw : s.wk ≤ bs.length) (hn : bs.length < 2 ^ 46) (hby : ∀ b ∈ bs, 0 ≤ b ∧ b < 256) :
    Con Try.prog gl0 (fnv 71) [.ptr 0 0 0 0, .ptr 1 0 0 27] 3 (HD bs s (ec a) 37) (RetD bs (listS bs s) (ec (setM a (listL bs s))) 37 3 vd) := by
  have c1 : Con Try.prog gl0 (fnv 49) [.ptr 0 0 0 0, .sl 3 1 0 1 1] 4 [(0, CaD false), (1, .own [I a.2.2.length] 3), (2, Rdr bs s.wk s.er), (3, .own [.ptr 1 0 0 0] 98)] (RetD bs ⟨(rdS bs 1 s).wk, (rdS bs 1 s).er, false⟩ [I (numR bs s.wk s.er 1)] 3 4 vd) :=
    small1D bs ⟨s.wk, s.er, false⟩ [I _] [I (numR bs s.wk s.er 1)] _ 0 (by simp [SV.bnd, SV.bndL]) (by simp [SV.bnd, SV.bndL]) rfl hw hn hby
  have cec : cut (ec a) 27 1 = some [Is a.2.2] := rfl
  have hS : listS bs s = if (rdS bs 1 s).er ≠ 0 ∨ 32 < numR bs s.wk s.er 1 then ⟨(rdS bs 1 s).wk, (rdS bs 1 s).er, decide (32 < numR bs s.wk s.er 1)⟩
    else ⟨min ((rdS bs 1 s).wk + (numR bs s.wk s.er 1).toNat) bs.length, if (rdS bs 1 s).wk + (numR bs s.wk s.er 1).toNat ≤ bs.length then 0 else 7, false⟩ := by simp only [listS, hs, Bool.false_or]
  have hL : listL bs s = if (rdS bs 1 s).er ≠ 0 ∨ 32 < numR bs s.wk s.er 1 then [] else (bs.drop (rdS bs 1 s).wk).take (numR bs s.wk s.er 1).toNat := rfl
  have hb := numR_bd bs s.wk s.er 1 hby
  have hw1 : (rdS bs 1 s).wk ≤ bs.length := rdS_wk hw
  generalize numR bs s.wk s.er 1 = x at *
  generalize (rdS bs 1 s).wk = w1 at *
  generalize (rdS bs 1 s).er = e1 at *
  obtain ⟨n, rfl⟩ : ∃ n : Nat, x = n := ⟨x.toNat, by omega⟩
  simp only [Int.toNat_natCast] at hS hL
  rw [hS, hL]
  clear hS hL
  have hHD : HD bs s (ec a) 37 = [(0, CaD false), (1, .own (ec a) 37), (2, Rdr bs s.wk s.er)] := by rw [HD, hs]
  rw [hHD]
  clear hHD hb
  have pec : paste (ec a) 27 [.v (.slice none 0 0)] = some (ec a |>.set 27 (.v (.slice none 0 0))) := rfl
  refine Con.of Try.ok71 (nt := 68) (res := []) Try.mixed Try.func71 rfl rfl rfl rfl fun κ xc hκ => hκ.run 300 ?_
  simp (disch := omega) only [push_cast, simprocAttr, cec, pec]
  refine (Does.D hκ.hP hκ.hgl _ (fun i => if i = 1 then 3 else if i = 3 then 4 else i) [0, 3, 2, 4] _ _ (c1) (by rfl) ⟨trivial, by simp [SV.bnd, SV.bndL], by simp [SV.bnd, SV.bndL]⟩ (by first | assumption | exact ec_bnd _ _ | (simp [SV.bnd, SV.bndL]; done)) (by decide) (by intro i hi; (repeat (first | omega | (dsimp only [id]; omega) | split))) (by intro i j; (repeat (first | omega | (dsimp only [id]; omega) | split))) (by repeat' (first | exact HeapIn.nil | refine HeapIn.cons (by decide) (by first | exact Blk.bnd_own0 (by assumption) | exact ec_bnd _ _ | (simp [Blk.bnd, SV.bnd, SV.bndL]; done)) (by simp) (by first | rfl | (rw [Blk.ren_own0 (by assumption)]; rfl)) ?_)) ?_)
  simp only [renH, Blk.ren, SV.renL, SV.ren, tau, without, List.mem_singleton, List.mem_cons, List.not_mem_nil, or_false, or_true, true_or, Nat.reduceEqDiff, Nat.reduceLT, Nat.zero_lt_one, Nat.one_ne_zero, Nat.zero_ne_one, Nat.zero_lt_succ, ↓reduceIte, List.cons_append, List.nil_append, List.append_nil, id]
  refine hκ.run 300 ?_
  simp (disch := omega) only [push_cast, simprocAttr, cec, pec]
  have hnil : ∀ ν vs, RelL ν ((ec a).set 27 (.v (.slice none 0 0))) vs → RelL ν (ec (setM a [])) vs := by
    intro ν
    simp only [ec, List.set_cons_succ, List.set_cons_zero, setM, List.map_nil]
    repeat' (first | exact RelL.nilrd (fun vs h => h) | refine RelL.keep ?_)
  by_cases h32 : 32 < n
  · have q1 : (32 < (n : Int)) = True := by first | (simp only [eq_iff_iff, iff_true]; first | assumption | omega) | (simp; omega)
    rw [if_pos (Or.inr (by omega)), if_pos (Or.inr (by omega)), decide_eq_true (by omega)] at hκ
    simp (disch := omega) only [push_cast, simprocAttr, cec, pec, q1]
    refine Sat.repOwn 1 _ _ _ rfl hnil ?_
    simp only [Heap.set, Nat.reduceEqDiff, ↓reduceIte]
    refine Sat.enter ?_
    have q2 : (0 < (n : Int)) = True := by first | (simp only [eq_iff_iff, iff_true]; first | assumption | omega) | (simp; omega)
    refine hκ.run 300 ?_
    simp (disch := omega) only [push_cast, simprocAttr, q2]
    refine Does.inl hκ.hP hκ.hgl Try.ok47 (nt := 22) (res := [.tmp 2]) Try.mixed Try.func47 rfl rfl rfl rfl fun κ_hst x_hst hst => hst.run 300 ?_
    simp (disch := omega) only [push_cast, simprocAttr, q2]
    refine hst.ret _ _ _ _ _ _ trivial rfl ?_
    refine hκ.run 300 ?_
    simp (disch := omega) only [push_cast, simprocAttr, q2]
    refine hκ.fin _ _ _ _ _ trivial rfl ?_
    exact Post.D (ec_bnd _ _) trivial (by decide) rfl rfl rfl
  · have q1 : (32 < (n : Int)) = False := by first | (simp only [eq_iff_iff, iff_false]; first | assumption | omega) | (simp; omega)
    simp (disch := omega) only [push_cast, simprocAttr, cec, pec, q1]
    by_cases he : e1 = 0
    · subst he
      rw [if_neg (show ¬((0 : Int) ≠ 0 ∨ 32 < (n : Int)) by omega), if_neg (show ¬((0 : Int) ≠ 0 ∨ 32 < (n : Int)) by omega)] at hκ
      refine Sat.nilCell 1 1 3 37 ((ec a).take 27) ((ec a).drop (27 + 1)) rfl ?_
      simp only [Heap.set, Nat.reduceEqDiff, ↓reduceIte]
      have hset : ∀ q, (ec a).take 27 ++ q :: (ec a).drop (27 + 1) = (ec a).set 27 q := fun q => rfl
      rw [hset]
      have cset : ∀ R len cap, cut ((ec a).set 27 (.sl R 1 0 len cap)) 27 1 = some [.sl R 1 0 len cap] := fun _ _ _ => rfl
      have pset : ∀ R len cap q, paste ((ec a).set 27 (.sl R 1 0 len cap)) 27 [q] = some ((ec a).set 27 q) := fun _ _ _ _ => rfl
      refine Sat.less (Sat.loop (γ := Nat × Nat) (fun g => ([(5, I g.1), (4, .ptr 3 0 0 0), (0, .ptr 0 0 0 0), (1, .ptr 1 0 0 27)], [(5, .row 1 g.2 3 (((bs.drop w1).take g.1).map (eI .i64))), (1, .own ((ec a).set 27 (.sl 5 1 0 ((bs.drop w1).take g.1).length g.2)) 37), (0, CaD false), (3, .own [I n] 3), (2, Rdr bs ((min (w1 + g.1) bs.length : Nat)) (stepE bs.length w1 g.1))], 6))
        (fun g => n - g.1) (fun g => g.1 ≤ n ∧ ((bs.drop w1).take g.1).length ≤ g.2) ?round (0, 0) ⟨Nat.zero_le _, by simp⟩) (by repeat' (first | exact EnvSub.nil _ | exact HeapSub.nil _ | refine EnvSub.cons rfl ?_ | refine HeapSub.cons rfl ?_ | (refine EnvSub.cons (by simp [Env.get]; done) ?_) | (refine HeapSub.cons (by simp [Heap.get]; done) ?_))) (by dsimp only; rw [show min (w1 + 0) bs.length = w1 by omega, show stepE bs.length w1 0 = 0 from if_pos (by omega)]; exact (by repeat' (first | exact EnvSub.nil _ | exact HeapSub.nil _ | refine EnvSub.cons rfl ?_ | refine HeapSub.cons rfl ?_ | (refine EnvSub.cons (by simp [Env.get]; done) ?_) | (refine HeapSub.cons (by simp [Heap.get]; done) ?_))))
      case round =>
        rintro ⟨k, cp⟩ ⟨hk, hcp⟩ ih
        dsimp only at hk hcp ih ⊢
        have hfin1 : (k = n ∨ bs.length < w1 + k) → min (w1 + n) bs.length = min (w1 + k) bs.length := by omega
        have hfin2 : (k = n ∨ bs.length < w1 + k) → (if w1 + n ≤ bs.length then (0 : Int) else 7) = stepE bs.length w1 k := by
          intro h
          rw [stepE]
          rcases h with rfl | h
          · rfl
          · rw [if_neg (by omega), if_neg (by omega)]
        have hfin3 : (k = n ∨ bs.length < w1 + k) → (bs.drop w1).take n = (bs.drop w1).take k := by
          rintro (rfl | h)
          · rfl
          · rw [List.take_of_length_le (by simp; omega), List.take_of_length_le (by simp; omega)]
        have et : ∀ t, List.take ((bs.drop w1).take k).length (List.map t ((bs.drop w1).take k)) = List.map t ((bs.drop w1).take k) := fun (t : Int → List SV) => List.take_of_length_le (by simp)
        by_cases hkn : k < n
        · have q2 : ((k : Int) < (n : Int)) = True := by first | (simp only [eq_iff_iff, iff_true]; first | assumption | omega) | (simp; omega)
          refine hκ.run 300 ?_
          simp (disch := omega) only [push_cast, simprocAttr, q2]
          refine Does.inl hκ.hP hκ.hgl Try.ok47 (nt := 22) (res := [.tmp 2]) Try.mixed Try.func47 rfl rfl rfl rfl fun κ_hst x_hst hst => hst.run 300 ?_
          simp (disch := omega) only [push_cast, simprocAttr, q2]
          refine Does.keep hst.hP hst.hgl 2 [.ptr 0 0 0 0] (err_ok bs _ _) rfl ⟨trivial, by first | (simp [SV.bnd, SV.bndL]; done) | (simp [SV.bnd, SV.bndL, ec_bnd]; done), by first | (simp [SV.bnd, SV.bndL]; done) | (simp [SV.bnd, SV.bndL, ec_bnd]; done) | assumption⟩ ⟨Rdr.good.1, Rdr.good.2, Rdr.good.1⟩ rfl (by first | omega | (dsimp only; omega)) ?_
          by_cases h7 : w1 + k ≤ bs.length
          · have h8 : stepE bs.length w1 k = 0 := if_pos h7
            have h9 : min (w1 + k) bs.length = w1 + k := by omega
            rw [h8, h9]
            refine hst.run 300 ?_
            simp (disch := omega) only [push_cast, simprocAttr, q2]
            refine hst.ret _ _ _ _ _ _ trivial rfl ?_
            refine hκ.run 300 ?_
            simp (disch := omega) only [push_cast, simprocAttr, q2]
            by_cases hlt : w1 + k < bs.length
            · have c2 : Con Try.prog gl0 (fnv 49) [.ptr 0 0 0 0, .sl 3 1 0 1 1] 4 [(0, CaD false), (1, .own [I 0] 3), (2, Rdr bs ((w1 : Int) + k) 0), (3, .own [.ptr 1 0 0 0] 98)] (RetD bs ⟨w1 + k + 1, 0, false⟩ [I (bs.getD (w1 + k) default)] 3 4 vd) := by
                have c := small1D bs ⟨w1 + k, 0, false⟩ [I 0] [I (numR bs (w1 + k) 0 1)] 3 0 (by simp [SV.bnd, SV.bndL]) (by simp [SV.bnd, SV.bndL]) rfl h7 hn hby
                rw [numR1 bs (w1 + k) hlt hby, rdS, show wkR bs (w1 + k) 0 1 = w1 + k + 1 from if_pos ⟨rfl, by omega⟩, show erR bs (w1 + k) 0 1 = 0 from if_neg (by omega)] at c
                rw [← Int.natCast_add]
                exact c
              have htk : (bs.drop w1).take (k + 1) = (bs.drop w1).take k ++ [bs.getD (w1 + k) default] := by
                rw [List.take_succ_eq_append_getElem (by simp; omega)]
                simp [List.getD, hlt]
              have htl : ((bs.drop w1).take k).length = k := by simp; omega
              have hz := fun cap h => ih (k + 1, cap) ⟨by dsimp only; omega, h⟩ (by dsimp only; omega)
              dsimp only at hz
              rw [htk, show min (w1 + (k + 1)) bs.length = w1 + k + 1 by omega, show stepE bs.length w1 (k + 1) = 0 from if_pos (by omega)] at hz
              clear ih htk
              generalize (bs.drop w1).take k = pre at *
              refine (Does.D hκ.hP hκ.hgl _ (fun i => if i = 1 then 6 else if i = 3 then 7 else i) [0, 6, 2, 7] _ _ (c2) (by rfl) ⟨trivial, by simp [SV.bnd, SV.bndL], by simp [SV.bnd, SV.bndL]⟩ (by first | assumption | exact ec_bnd _ _ | (simp [SV.bnd, SV.bndL]; done)) (by decide) (by intro i hi; (repeat (first | omega | (dsimp only [id]; omega) | split))) (by intro i j; (repeat (first | omega | (dsimp only [id]; omega) | split))) (by repeat' (first | exact HeapIn.nil | refine HeapIn.cons (by decide) (by first | exact Blk.bnd_own0 (by assumption) | exact ec_bnd _ _ | (simp [Blk.bnd, SV.bnd, SV.bndL]; done)) (by simp) (by first | rfl | (rw [Blk.ren_own0 (by assumption)]; rfl)) ?_)) ?_)
              simp only [renH, Blk.ren, SV.renL, SV.ren, tau, without, List.mem_singleton, List.mem_cons, List.not_mem_nil, or_false, or_true, true_or, Nat.reduceEqDiff, Nat.reduceLT, Nat.zero_lt_one, Nat.one_ne_zero, Nat.zero_ne_one, Nat.zero_lt_succ, ↓reduceIte, List.cons_append, List.nil_append, List.append_nil, id]
              refine hκ.run 300 ?_
              simp (disch := omega) only [push_cast, simprocAttr, cset, pset, htl]
              refine Does.inl hκ.hP hκ.hgl Try.ok47 (nt := 22) (res := [.tmp 2]) Try.mixed Try.func47 rfl rfl rfl rfl fun κ_hst x_hst hst => hst.run 300 ?_
              simp (disch := omega) only [push_cast, simprocAttr, cset, pset, htl]
              refine Does.keep hst.hP hst.hgl 2 [.ptr 0 0 0 0] (err_ok bs _ _) rfl ⟨trivial, by first | (simp [SV.bnd, SV.bndL]; done) | (simp [SV.bnd, SV.bndL, ec_bnd]; done), by first | (simp [SV.bnd, SV.bndL]; done) | (simp [SV.bnd, SV.bndL, ec_bnd]; done) | assumption⟩ ⟨Rdr.good.1, Rdr.good.2, Rdr.good.1⟩ rfl (by first | omega | (dsimp only; omega)) ?_
              refine hst.run 300 ?_
              simp (disch := omega) only [push_cast, simprocAttr, cset, pset, htl]
              refine hst.ret _ _ _ _ _ _ trivial rfl ?_
              refine hκ.run 300 ?_
              simp (disch := omega) only [push_cast, simprocAttr, cset, pset, htl]
              refine hκ.draw (.q 0 (.q 1 (.q 2 (.q 3 (.q 4 (.l 5 [3] (.l 6 [4] (.q 7 (.l 8 [] (.fin)))))))))) [0, 1, 2, 3, 4, 7] (by kernel_rfl) (by kernel_rfl) rfl ?_
              simp (disch := omega) only [push_cast, simprocAttr, cset, pset, htl]
              (repeat (refine ⟨by first | omega | (refine ⟨?_, ?_⟩ <;> omega) | trivial | (simp; done) | decide +kernel, fun _ => ?_⟩))
              intro i
              have hy := hz (k + 1 + i) (by simp; omega)
              have et2 : List.take k (List.map (eI .i64) pre) = List.map (eI .i64) pre := List.take_of_length_le (by simp; omega)
              rw [et2]
              refine hκ.run 300 ?_
              simp (disch := omega) only [push_cast, simprocAttr]
              simp only [ec, List.set_cons_succ, List.set_cons_zero] at hy ⊢
              simp only [List.length_append, List.length_cons, List.length_nil, List.length_singleton, List.length_map, List.length_set, List.length_replicate, Nat.zero_add, Nat.add_zero, Int.natCast_add, Int.natCast_one, Int.ofNat_eq_natCast, List.map_append, List.map_cons, List.map_nil, List.take_length, eI, eB] at hy ⊢
              rw [htl] at hy
              refine Sat.via (fun i => if i = 5 then 9 else i) (hy) (by intro i j; (repeat (first | omega | split))) (by repeat' (first | exact EnvVia.nil | refine EnvVia.cons (by first | trivial | decide | (simp [SV.bnd, SV.bndL]; done)) rfl ?_)) (by repeat' (first | exact HeapVia.nil | refine HeapVia.cons (by decide) (by first | trivial | exact Blk.bnd_own0 (by assumption) | (simp [Blk.bnd, SV.bnd, SV.bndL]; done) | exact bndL_mapV _ _ _ | exact LR.bnd (by rw [l2]; simp [bndE, SV.bnd, SV.bndL]) (by rw [l6]; decide)) (by first | (rw [Blk.ren_own0 (by assumption)]; rfl) | rfl | (simp only [Blk.ren, renL_mapV]; rfl) | (rw [LR.ren (by rw [l2] <;> rfl) (by rw [l6] <;> rfl)]; rfl)) ?_)) ⟨by have := hκ.hm; (try dsimp only at this); (first | done | omega), fun i hi => by have := hκ.hm; (try dsimp only at this); (first | omega | (dsimp only; omega) | (rw [if_neg (by omega)]))⟩ ⟨by simp, rfl⟩
            · have c2 : Con Try.prog gl0 (fnv 49) [.ptr 0 0 0 0, .sl 3 1 0 1 1] 4 [(0, CaD false), (1, .own [I 0] 3), (2, Rdr bs ((w1 : Int) + k) 0), (3, .own [.ptr 1 0 0 0] 98)] (RetD bs ⟨w1 + k, 7, false⟩ [I 0] 3 4 vd) := by
                have c := small1D bs ⟨w1 + k, 0, false⟩ [I 0] [I (numR bs (w1 + k) 0 1)] 3 0 (by simp [SV.bnd, SV.bndL]) (by simp [SV.bnd, SV.bndL]) rfl h7 hn hby
                rw [show numR bs (w1 + k) 0 1 = 0 from if_neg (by omega), rdS, show wkR bs (w1 + k) 0 1 = w1 + k from if_neg (by omega), show erR bs (w1 + k) 0 1 = 7 from if_pos ⟨rfl, by omega⟩] at c
                rw [← Int.natCast_add]
                exact c
              have htk : (bs.drop w1).take (k + 1) = (bs.drop w1).take k := by
                rw [List.take_of_length_le (by simp; omega), List.take_of_length_le (by simp; omega)]
              have hz := fun cap h => ih (k + 1, cap) ⟨by dsimp only; omega, h⟩ (by dsimp only; omega)
              dsimp only at hz
              rw [htk, show min (w1 + (k + 1)) bs.length = w1 + k by omega, show stepE bs.length w1 (k + 1) = 7 from if_neg (by omega)] at hz
              clear ih htk
              generalize (bs.drop w1).take k = pre at *
              refine (Does.D hκ.hP hκ.hgl _ (fun i => if i = 1 then 6 else if i = 3 then 7 else i) [0, 6, 2, 7] _ _ (c2) (by rfl) ⟨trivial, by simp [SV.bnd, SV.bndL], by simp [SV.bnd, SV.bndL]⟩ (by first | assumption | exact ec_bnd _ _ | (simp [SV.bnd, SV.bndL]; done)) (by decide) (by intro i hi; (repeat (first | omega | (dsimp only [id]; omega) | split))) (by intro i j; (repeat (first | omega | (dsimp only [id]; omega) | split))) (by repeat' (first | exact HeapIn.nil | refine HeapIn.cons (by decide) (by first | exact Blk.bnd_own0 (by assumption) | exact ec_bnd _ _ | (simp [Blk.bnd, SV.bnd, SV.bndL]; done)) (by simp) (by first | rfl | (rw [Blk.ren_own0 (by assumption)]; rfl)) ?_)) ?_)
              simp only [renH, Blk.ren, SV.renL, SV.ren, tau, without, List.mem_singleton, List.mem_cons, List.not_mem_nil, or_false, or_true, true_or, Nat.reduceEqDiff, Nat.reduceLT, Nat.zero_lt_one, Nat.one_ne_zero, Nat.zero_ne_one, Nat.zero_lt_succ, ↓reduceIte, List.cons_append, List.nil_append, List.append_nil, id]
              refine hκ.run 300 ?_
              simp (disch := omega) only [push_cast, simprocAttr]
              refine Does.inl hκ.hP hκ.hgl Try.ok47 (nt := 22) (res := [.tmp 2]) Try.mixed Try.func47 rfl rfl rfl rfl fun κ_hst x_hst hst => hst.run 300 ?_
              simp (disch := omega) only [push_cast, simprocAttr]
              refine Does.keep hst.hP hst.hgl 2 [.ptr 0 0 0 0] (err_ok bs _ _) rfl ⟨trivial, by first | (simp [SV.bnd, SV.bndL]; done) | (simp [SV.bnd, SV.bndL, ec_bnd]; done), by first | (simp [SV.bnd, SV.bndL]; done) | (simp [SV.bnd, SV.bndL, ec_bnd]; done) | assumption⟩ ⟨Rdr.good.1, Rdr.good.2, Rdr.good.1⟩ rfl (by first | omega | (dsimp only; omega)) ?_
              refine hst.run 300 ?_
              simp (disch := omega) only [push_cast, simprocAttr]
              refine hst.ret _ _ _ _ _ _ trivial rfl ?_
              refine hκ.run 300 ?_
              simp (disch := omega) only [push_cast, simprocAttr]
              have hy := hz cp hcp
              simp only [ec, List.set_cons_succ, List.set_cons_zero] at hy ⊢
              simp only [List.length_append, List.length_cons, List.length_nil, List.length_singleton, List.length_map, List.length_set, List.length_replicate, Nat.zero_add, Nat.add_zero, Int.natCast_add, Int.natCast_one, Int.ofNat_eq_natCast, List.map_append, List.map_cons, List.map_nil, List.take_length, eI, eB] at hy ⊢
              refine Sat.via (fun i => i) (hy) (by intro i j; (repeat (first | omega | split))) (by repeat' (first | exact EnvVia.nil | refine EnvVia.cons (by first | trivial | decide | (simp [SV.bnd, SV.bndL]; done)) rfl ?_)) (by repeat' (first | exact HeapVia.nil | refine HeapVia.cons (by decide) (by first | trivial | exact Blk.bnd_own0 (by assumption) | (simp [Blk.bnd, SV.bnd, SV.bndL]; done) | exact bndL_mapV _ _ _ | exact LR.bnd (by rw [l2]; simp [bndE, SV.bnd, SV.bndL]) (by rw [l6]; decide)) (by first | (rw [Blk.ren_own0 (by assumption)]; rfl) | rfl | (simp only [Blk.ren, renL_mapV]; rfl) | (rw [LR.ren (by rw [l2] <;> rfl) (by rw [l6] <;> rfl)]; rfl)) ?_)) ⟨by have := hκ.hm; (try dsimp only at this); (first | done | omega), fun i hi => by have := hκ.hm; (try dsimp only at this); (first | omega | (dsimp only; omega) | (rw [if_neg (by omega)]))⟩ ⟨by simp, rfl⟩
          · have h8 : stepE bs.length w1 k = 7 := if_neg h7
            rw [h8]
            refine hst.run 300 ?_
            simp (disch := omega) only [push_cast, simprocAttr, q2]
            refine hst.ret _ _ _ _ _ _ trivial rfl ?_
            refine hκ.run 300 ?_
            simp (disch := omega) only [push_cast, simprocAttr, q2]
            rw [← h8]
            simp only [ec, List.set_cons_succ, List.set_cons_zero]
            refine Sat.frzOwn [5] 1 _ _ rfl (by decide) (by first | (simp [lendPL, lendP, lendSlP, Heap.get]; done) | (simp only [lendPL, lendP, lendSlP, Heap.get, List.mem_singleton, List.mem_cons, List.not_mem_nil, or_false, or_true, true_or, Nat.reduceEqDiff, Nat.one_ne_zero, Nat.zero_ne_one, ↓reduceIte, and_true, true_and, List.length_map, List.length_append, List.length_cons, List.length_nil, List.length_replicate]; omega)) ?_
            simp only [lendL, lendS, lendSl, Heap.get, without, List.mem_singleton, List.mem_cons, List.not_mem_nil, or_false, or_true, true_or, List.drop_zero, List.take_length, List.take_succ_cons, List.take_zero, Nat.reduceAdd, Nat.reduceEqDiff, Nat.one_ne_zero, Nat.zero_ne_one, ↓reduceIte]
            simp only [Heap.set, Nat.reduceEqDiff, ↓reduceIte, et]
            rw [hfin1 (Or.inr (by omega)), hfin2 (Or.inr (by omega)), hfin3 (Or.inr (by omega))] at hκ
            refine hκ.fin _ _ _ _ _ trivial rfl ?_
            exact Post.D (ec_bnd _ _) trivial (by decide) rfl rfl rfl
        · have q2 : ((k : Int) < (n : Int)) = False := by first | (simp only [eq_iff_iff, iff_false]; first | assumption | omega) | (simp; omega)
          refine hκ.run 300 ?_
          simp (disch := omega) only [push_cast, simprocAttr, q2]
          simp only [ec, List.set_cons_succ, List.set_cons_zero]
          refine Sat.frzOwn [5] 1 _ _ rfl (by decide) (by first | (simp [lendPL, lendP, lendSlP, Heap.get]; done) | (simp only [lendPL, lendP, lendSlP, Heap.get, List.mem_singleton, List.mem_cons, List.not_mem_nil, or_false, or_true, true_or, Nat.reduceEqDiff, Nat.one_ne_zero, Nat.zero_ne_one, ↓reduceIte, and_true, true_and, List.length_map, List.length_append, List.length_cons, List.length_nil, List.length_replicate]; omega)) ?_
          simp only [lendL, lendS, lendSl, Heap.get, without, List.mem_singleton, List.mem_cons, List.not_mem_nil, or_false, or_true, true_or, List.drop_zero, List.take_length, List.take_succ_cons, List.take_zero, Nat.reduceAdd, Nat.reduceEqDiff, Nat.one_ne_zero, Nat.zero_ne_one, ↓reduceIte]
          simp only [Heap.set, Nat.reduceEqDiff, ↓reduceIte, et]
          rw [hfin1 (Or.inl (by omega)), hfin2 (Or.inl (by omega)), hfin3 (Or.inl (by omega))] at hκ
          refine hκ.fin _ _ _ _ _ trivial rfl ?_
          exact Post.D (ec_bnd _ _) trivial (by decide) rfl rfl rfl
    · rw [if_pos (Or.inl he), if_pos (Or.inl he), decide_eq_false (by omega)] at hκ
      refine Sat.repOwn 1 _ _ _ rfl hnil ?_
      simp only [Heap.set, Nat.reduceEqDiff, ↓reduceIte]
      refine Sat.enter ?_
      by_cases h0 : 0 < n
      · have q2 : (0 < (n : Int)) = True := by first | (simp only [eq_iff_iff, iff_true]; first | assumption | omega) | (simp; omega)
        refine hκ.run 300 ?_
        simp (disch := omega) only [push_cast, simprocAttr, q2]
        refine Does.inl hκ.hP hκ.hgl Try.ok47 (nt := 22) (res := [.tmp 2]) Try.mixed Try.func47 rfl rfl rfl rfl fun κ_hst x_hst hst => hst.run 300 ?_
        simp (disch := omega) only [push_cast, simprocAttr, q2]
        refine Does.keep hst.hP hst.hgl 2 [.ptr 0 0 0 0] (err_ok bs w1 e1) rfl ⟨trivial, by first | (simp [SV.bnd, SV.bndL]; done) | (simp [SV.bnd, SV.bndL, ec_bnd]; done), by first | (simp [SV.bnd, SV.bndL]; done) | (simp [SV.bnd, SV.bndL, ec_bnd]; done) | assumption⟩ ⟨Rdr.good.1, Rdr.good.2, Rdr.good.1⟩ rfl (by first | omega | (dsimp only; omega)) ?_
        have q3 : (e1 = 0) = False := by first | (simp only [eq_iff_iff, iff_false]; first | assumption | omega) | (simp; omega)
        refine hst.run 300 ?_
        simp (disch := omega) only [push_cast, simprocAttr, q3, q2]
        refine hst.ret _ _ _ _ _ _ trivial rfl ?_
        refine hκ.run 300 ?_
        simp (disch := omega) only [push_cast, simprocAttr, q2]
        refine hκ.fin _ _ _ _ _ trivial rfl ?_
        exact Post.D (ec_bnd _ _) trivial (by decide) rfl rfl rfl
      · have q2 : (0 < (n : Int)) = False := by first | (simp only [eq_iff_iff, iff_false]; first | assumption | omega) | (simp; omega)
        refine hκ.run 300 ?_
        simp (disch := omega) only [push_cast, simprocAttr, q2]
        refine hκ.fin _ _ _ _ _ trivial rfl ?_
        exact Post.D (ec_bnd _ _) trivial (by decide) rfl rfl rfl
end Go.Proofs.Ytmieikflcolbaaa
namespace Go.Proofs.Ytmieikflcolbaaa
open Go Go.Sy
set_option maxRecDepth 100000
set_option linter.unusedSimpArgs false
set_option linter.unusedVariables false
theorem listS_wk {bs : List Int} {s : In} (h : s.wk ≤ bs.length) : (listS bs s).wk ≤ bs.length := by
  have h1 : (rdS bs 1 s).wk ≤ bs.length := rdS_wk h
  rw [listS]
  split
  · exact h1
  · exact Nat.min_le_right _ _
theorem flagS_wk {bs : List Int} {s : In} (h : s.wk ≤ bs.length) : (flagS bs s).wk ≤ bs.length := rdS_wk (w := 1) h
def dC (bs : List Int) (p : In × Evt) (c : Nat) : In × Evt :=
  if c = 109 then (rdS bs 4 (rdS bs 4 p.1), upd (upd p.2 13 (numR bs p.1.wk p.1.er 4)) 14 (numR bs (rdS bs 4 p.1).wk (rdS bs 4 p.1).er 4))
  else if c = 77 then (rdS bs 4 (rdS bs 4 p.1), upd (upd p.2 24 (numR bs p.1.wk p.1.er 4)) 25 (numR bs (rdS bs 4 p.1).wk (rdS bs 4 p.1).er 4))
  else if c = 110 then (listS bs p.1, setL p.2 (listL bs p.1)) else if c = 78 then (listS bs p.1, setM p.2 (listL bs p.1))
  else if c = 102 then (flagS bs p.1, upd p.2 5 (numR bs p.1.wk p.1.er 1))
  else if c = 97 ∨ c = 101 ∨ c = 116 then (rdS bs 8 p.1, upd p.2 (cel c) (IntKind.i64.wrap (numR bs p.1.wk p.1.er 8)))
  else (rdS bs (wid c) p.1, upd p.2 (cel c) (numR bs p.1.wk p.1.er (wid c)))
def dLs (bs : List Int) (p : In × Evt) (l : List Nat) : In × Evt := l.foldl (dC bs) p
theorem dC_wk {bs : List Int} {p : In × Evt} (c : Nat) (h : p.1.wk ≤ bs.length) : (dC bs p c).1.wk ≤ bs.length := by
  unfold dC
  repeat' split
  all_goals first | exact rdS_wk h | exact rdS_wk (rdS_wk h) | exact listS_wk h | exact flagS_wk h
theorem dLs_wk {bs : List Int} : ∀ (l : List Nat) (p : In × Evt), p.1.wk ≤ bs.length → (dLs bs p l).1.wk ≤ bs.length
  | [], _, h => h
  | c :: l, p, h => dLs_wk l (dC bs p c) (dC_wk c h)
end Go.Proofs.Ytmieikflcolbaaa
