/- The events of a row's bytes: Events. No condition. -/
import Derived.Test.YtmieikflcolbaaaIa
namespace Go.Proofs.Ytmieikflcolbaaa
open Go Go.Sy
set_option maxRecDepth 100000
set_option linter.unusedSimpArgs false
set_option linter.unusedVariables false
set_option maxHeartbeats 4000000
def many (b : List Int) : Nat → In → List Evt × In
  | 0, s => ([], s)
  | n + 1, s => if errOf s ≠ 0 then ([], s) else if errOf (dEv b s ev0).1 ≠ 0 then ([], (dEv b s ev0).1) else ((dEv b s ev0).2 :: (many b n (dEv b s ev0).1).1, (many b n (dEv b s ev0).1).2)
theorem many_err {b : List Int} {s : In} (n : Nat) (h : errOf s ≠ 0) : many b n s = ([], s) := by
  cases n with
  | zero => rfl
  | succ n => rw [many, if_pos h]
def evN (b : List Int) : Nat := (numR b 0 0 2).toNat
def evM (b : List Int) : List Evt × In := many b (evN b) (rdS b 2 s0)
def evE (b : List Int) : Int := if 2000 < evN b then 3 else if errOf (evM b).2 ≠ 0 then errOf (evM b).2 else if (evM b).2.wk < b.length then 361 else 0
def evK (b : List Int) : Int := if 2000 < evN b then 0 else ((evM b).1.length : Int)
def evL (b : List Int) : List Evt := if evE b = 0 then (evM b).1 else []
theorem events_ok (b : List Int) (hb : isY b) (hn : b.length < 2 ^ 46) : Con Try.prog gl0 (fnv 23) [By b] 0 [] (Ret (.tup [Es (evL b), I (evK b), I (evE b)])) := by
  suffices H : Con Try.prog gl0 (fnv 23) [By b] 0 [] (Ret (.tup [if evE b = 0 then Es (evM b).1 else .v (.slice none 0 0), I (evK b), I (evE b)])) by
    by_cases ho : evE b = 0
    · rw [if_pos ho] at H; rw [evL, if_pos ho]; exact H
    · rw [if_neg ho] at H; rw [evL, if_neg ho]; exact Con.repR (fun ν => Rel.tupMap (RelL.mapHead fun _ => nil_rd)) H
  have hE : evE b = if 2000 < evN b then 3 else if errOf (evM b).2 ≠ 0 then errOf (evM b).2 else if (evM b).2.wk < b.length then 361 else 0 := rfl
  have hK : evK b = if 2000 < evN b then 0 else ((evM b).1.length : Int) := rfl
  obtain ⟨b0, b1⟩ := numR_bd b 0 0 2 hb
  simp only [Int.reducePow] at b1
  have hN : ((evN b : Nat) : Int) = numR b 0 0 2 := by rw [evN]; omega
  have u16 := u16_ok b 0 0 (Nat.zero_le _) hn hb
  simp only [Nat.reduceDiv] at u16
  rw [← hN] at u16
  have hM : evM b = many b (evN b) (rdS b 2 s0) := rfl
  have hw1 : (rdS b 2 s0).wk ≤ b.length := rdS_wk (Nat.zero_le _)
  have hs1 : (rdS b 2 s0).bad = false := rfl
  have hwk : wkR b 0 0 2 = (rdS b 2 s0).wk := rfl
  have her : erR b 0 0 2 = (rdS b 2 s0).er := rfl
  rw [hwk, her] at u16
  have hNb : evN b < 65536 := by omega
  rw [hE, hK]
  clear hE hK hN hwk her
  generalize evM b = mm at *
  generalize evN b = n at *
  generalize rdS b 2 s0 = s1 at *
  clear b0 b1
  have cw : ∀ y : Int, 0 ≤ y → y < 65536 → IntKind.i64.wrap y = y := fun y h1 h2 => wrap_i64 (by omega) (by omega)
  refine Con.of Try.ok23 (nt := 51) (res := [.tmp 2, .tmp 3, .tmp 4]) Try.mixed Try.func23 rfl rfl rfl rfl fun κ xc hκ => hκ.run 300 ?_
  simp (disch := omega) only [push_cast, simprocAttr, tec, lec, oec, ones_ec]
  refine Does.new hκ.hP hκ.hgl (read_ok b hn) ⟨trivial, by simp [SV.bnd, SV.bndL]⟩ Rdr.good.1 ?_
  refine hκ.run 300 ?_
  simp (disch := omega) only [push_cast, simprocAttr, tec, lec, oec, ones_ec]
  refine Does.keep hκ.hP hκ.hgl 0 [.ptr 0 0 0 0] u16 rfl ⟨trivial, by first | (simp [SV.bnd, SV.bndL]; done) | (simp [SV.bnd, SV.bndL, ec_bnd]; done), by first | (simp [SV.bnd, SV.bndL]; done) | (simp [SV.bnd, SV.bndL, ec_bnd]; done) | assumption⟩ ⟨Rdr.good.1, Rdr.good.2, Rdr.good.1⟩ rfl (by first | omega | (dsimp only; omega)) ?_
  by_cases h2 : 2000 < n
  · rw [if_pos h2, if_pos h2, if_neg (show ¬(3 : Int) = 0 by decide)] at hκ
    have q1 : (2000 < (n : Int)) = True := by first | (simp only [eq_iff_iff, iff_true]; first | assumption | omega) | (simp; omega)
    refine hκ.run 300 ?_
    simp (disch := omega) only [push_cast, simprocAttr, q1]
    refine hκ.ret _ _ _ _ _ _ trivial rfl ?_
    exact .ret (by simp [SV.bnd, SV.bndL])
  rw [if_neg h2, if_neg h2] at hκ
  have q1 : (2000 < (n : Int)) = False := by first | (simp only [eq_iff_iff, iff_false]; first | assumption | omega) | (simp; omega)
  refine hκ.runA 6 300 ?_
  simp (disch := omega) only [push_cast, simprocAttr, q1]
  refine Sat.nilRow 7 29 37 rfl ?_
  apply Sat.join (α := List Evt × In × Nat) (nx := 3) (dfs := []) (fun g => mm = (g.1, g.2.1) ∧ g.2.1.wk ≤ b.length ∧ g.1.length ≤ g.2.2) (fun g => ([(7, .sl 2 29 0 g.1.length g.2.2), (5, .ptr 1 0 0 0)], [(2, .row 29 g.2.2 37 (g.1.map ec)), (1, .own [.ptr 0 0 0 0, .v (.slice none 0 0), Bo g.2.1.bad] 65), (0, Rdr b g.2.1.wk g.2.1.er)]))
  · intro hj
    refine Sat.less (Sat.loop (γ := List Evt × In × Nat) (fun g => ([(7, .sl 2 29 0 g.1.length g.2.2), (6, I n), (5, .ptr 1 0 0 0)], [(2, .row 29 g.2.2 37 (g.1.map ec)), (1, .own [.ptr 0 0 0 0, .v (.slice none 0 0), Bo g.2.1.bad] 65), (0, Rdr b g.2.1.wk g.2.1.er)], 3))
      (fun g => (n - g.1.length) + (if errOf g.2.1 = 0 then 1 else 0)) (fun g => g.1.length ≤ n ∧ g.2.1.wk ≤ b.length ∧ mm = (g.1 ++ (many b (n - g.1.length) g.2.1).1, (many b (n - g.1.length) g.2.1).2) ∧ g.1.length ≤ g.2.2) ?round ([], s1, 0) ⟨Nat.zero_le _, hw1, by rw [hM]; rfl, Nat.le_refl _⟩) (by repeat' (first | exact EnvSub.nil _ | exact HeapSub.nil _ | refine EnvSub.cons rfl ?_ | refine HeapSub.cons rfl ?_ | (refine EnvSub.cons (by simp [Env.get]; done) ?_) | (refine HeapSub.cons (by simp [Heap.get]; done) ?_))) (by rw [hs1]; exact (by repeat' (first | exact EnvSub.nil _ | exact HeapSub.nil _ | refine EnvSub.cons rfl ?_ | refine HeapSub.cons rfl ?_ | (refine EnvSub.cons (by simp [Env.get]; done) ?_) | (refine HeapSub.cons (by simp [Heap.get]; done) ?_))))
    case round =>
      rintro ⟨pre, ⟨wk, er, bad⟩, cp⟩ ⟨hk, hw, hm, hcp⟩ ih
      dsimp only at hk hw hm hcp ih ⊢
      by_cases hkn : pre.length < n
      · have q2 : ((pre.length : Int) < n) = True := by first | (simp only [eq_iff_iff, iff_true]; first | assumption | omega) | (simp; omega)
        obtain ⟨m, hm2⟩ : ∃ m, n - pre.length = m + 1 := ⟨n - pre.length - 1, by omega⟩
        rw [hm2] at hm
        by_cases he : errOf ⟨wk, er, bad⟩ = 0
        · obtain rfl : bad = false := by
            cases bad
            · rfl
            · simp [errOf] at he
          obtain rfl : er = 0 := by simpa [errOf] using he
          rw [many, if_neg (fun h => h he)] at hm
          have cE := eventD b ⟨wk, 0, false⟩ ev0 rfl hw hn hb
          have hwq : (dEv b ⟨wk, 0, false⟩ ev0).1.wk ≤ b.length := dEv_wk hw
          generalize dEv b ⟨wk, 0, false⟩ ev0 = q at *
          obtain ⟨⟨wk2, er2, bad2⟩, a2⟩ := q
          dsimp only at hm cE hwq
          have hno : errOf ⟨wk2, er2, bad2⟩ ≠ 0 → _ := fun h => ih (pre, ⟨wk2, er2, bad2⟩, cp) ⟨hk, hwq, by rw [if_pos h] at hm; dsimp only; rw [many_err _ h]; exact hm, hcp⟩ (by dsimp only; rw [if_pos he, if_neg h]; omega)
          have hyes : errOf ⟨wk2, er2, bad2⟩ = 0 → ∀ cap, (pre ++ [a2]).length ≤ cap → _ := fun h cap hc => ih (pre ++ [a2], ⟨wk2, er2, bad2⟩, cap) ⟨by simp; omega, hwq, by
            rw [if_neg (fun x => x h)] at hm
            have e : n - (pre ++ [a2]).length = m := by simp; omega
            dsimp only
            rw [e, hm, List.append_assoc]
            rfl, hc⟩ (by have e : (pre ++ [a2]).length = pre.length + 1 := by simp
                         dsimp only; rw [if_pos he, e]; split <;> omega)
          dsimp only at hno hyes
          clear ih
          have te : List.take 29 (ec a2) = ec a2 := rfl
          have tf : idFrees (ec a2) = true := rfl
          refine hκ.runA 8 300 ?_
          simp (disch := omega) only [push_cast, simprocAttr, q2, tec, lec, oec, ones_ec, te, tf]
          refine Does.inl hκ.hP hκ.hgl Try.ok47 (nt := 22) (res := [.tmp 2]) Try.mixed Try.func47 rfl rfl rfl rfl fun κ_hst1 x_hst1 hst1 => hst1.run 300 ?_
          simp (disch := omega) only [push_cast, simprocAttr, q2, tec, lec, oec, ones_ec, te, tf]
          refine Does.keep hst1.hP hst1.hgl 0 [.ptr 0 0 0 0] (err_ok b _ _) rfl ⟨trivial, by first | (simp [SV.bnd, SV.bndL]; done) | (simp [SV.bnd, SV.bndL, ec_bnd]; done), by first | (simp [SV.bnd, SV.bndL]; done) | (simp [SV.bnd, SV.bndL, ec_bnd]; done) | assumption⟩ ⟨Rdr.good.1, Rdr.good.2, Rdr.good.1⟩ rfl (by first | omega | (dsimp only; omega)) ?_
          refine hst1.run 300 ?_
          simp (disch := omega) only [push_cast, simprocAttr, q2, tec, lec, oec, ones_ec, te, tf]
          refine hst1.ret _ _ _ _ _ _ trivial rfl ?_
          refine hκ.runA 8 300 ?_
          simp (disch := omega) only [push_cast, simprocAttr, q2, tec, lec, oec, ones_ec, te, tf]
          refine Sat.repOwn 3 _ _ _ rfl zero_ec ?_
          simp only [Heap.set, Nat.reduceEqDiff, ↓reduceIte]
          refine hκ.runA 11 300 ?_
          simp (disch := omega) only [push_cast, simprocAttr, q2, tec, lec, oec, ones_ec, te, tf]
          refine (Does.D hκ.hP hκ.hgl _ (fun i => if i = 0 then 1 else if i = 1 then 3 else if i = 2 then 0 else i) [1, 3, 0] _ _ (cE) (by rfl) ⟨trivial, by simp [SV.bnd, SV.bndL], by simp [SV.bnd, SV.bndL]⟩ (by first | assumption | exact ec_bnd _ _ | (simp [SV.bnd, SV.bndL]; done)) (by decide) (by intro i hi; (repeat (first | omega | (dsimp only [id]; omega) | split))) (by intro i j; (repeat (first | omega | (dsimp only [id]; omega) | split))) (by repeat' (first | exact HeapIn.nil | refine HeapIn.cons (by decide) (by first | exact Blk.bnd_own0 (by assumption) | exact ec_bnd _ _ | (simp [Blk.bnd, SV.bnd, SV.bndL]; done)) (by simp) (by first | rfl | (rw [Blk.ren_own0 (by assumption)]; rfl)) ?_)) ?_)
          simp only [renH, Blk.ren, SV.renL, SV.ren, tau, without, List.mem_singleton, List.mem_cons, List.not_mem_nil, or_false, or_true, true_or, Nat.reduceEqDiff, Nat.reduceLT, Nat.zero_lt_one, Nat.one_ne_zero, Nat.zero_ne_one, Nat.zero_lt_succ, ↓reduceIte, List.cons_append, List.nil_append, List.append_nil, id]
          refine hκ.runA 11 300 ?_
          simp (disch := omega) only [push_cast, simprocAttr, q2, tec, lec, oec, ones_ec, te, tf]
          cases bad2
          · by_cases e2 : er2 = 0
            · subst e2
              refine Does.inl hκ.hP hκ.hgl Try.ok47 (nt := 22) (res := [.tmp 2]) Try.mixed Try.func47 rfl rfl rfl rfl fun κ_hst4 x_hst4 hst4 => hst4.run 300 ?_
              simp (disch := omega) only [push_cast, simprocAttr, q2, tec, lec, oec, ones_ec, te, tf]
              refine Does.keep hst4.hP hst4.hgl 0 [.ptr 0 0 0 0] (err_ok b _ _) rfl ⟨trivial, by first | (simp [SV.bnd, SV.bndL]; done) | (simp [SV.bnd, SV.bndL, ec_bnd]; done), by first | (simp [SV.bnd, SV.bndL]; done) | (simp [SV.bnd, SV.bndL, ec_bnd]; done) | assumption⟩ ⟨Rdr.good.1, Rdr.good.2, Rdr.good.1⟩ rfl (by first | omega | (dsimp only; omega)) ?_
              refine hst4.run 300 ?_
              simp (disch := omega) only [push_cast, simprocAttr, q2, tec, lec, oec, ones_ec, te, tf]
              refine hst4.ret _ _ _ _ _ _ trivial rfl ?_
              refine hκ.runA 11 300 ?_
              simp (disch := omega) only [push_cast, simprocAttr, q2, tec, lec, oec, ones_ec, te, tf]
              (repeat (refine ⟨by first | omega | (refine ⟨?_, ?_⟩ <;> omega) | trivial | (simp; done) | decide +kernel, fun _ => ?_⟩))
              intro c
              have et : List.take pre.length (List.map ec pre) = List.map ec pre := List.take_of_length_le (by simp)
              have hy := hyes (by simp [errOf]) (pre.length + 1 + c) (by simp)
              simp only [List.length_append, List.length_cons, List.length_nil, List.length_singleton, List.length_map, List.length_set, List.length_replicate, Nat.zero_add, Nat.add_zero, Int.natCast_add, Int.natCast_one, Int.ofNat_eq_natCast, List.map_append, List.map_cons, List.map_nil, List.take_length, eI, eB] at hy ⊢
              rw [et]
              refine Sat.via (fun i => if i = 2 then 5 else i) (hy) (by intro i j; (repeat (first | omega | split))) (by repeat' (first | exact EnvVia.nil | refine EnvVia.cons (by first | trivial | decide | (simp [SV.bnd, SV.bndL]; done)) rfl ?_)) (by repeat' (first | exact HeapVia.nil | refine HeapVia.cons (by decide) (by first | trivial | exact Blk.bnd_own0 (by assumption) | (simp [Blk.bnd, SV.bnd, SV.bndL]; done) | exact bndL_mapV _ _ _ | exact LR.bnd (by rw [l2]; simp [bndE, SV.bnd, SV.bndL]) (by rw [l6]; decide)) (by first | (rw [Blk.ren_own0 (by assumption)]; rfl) | rfl | (simp only [Blk.ren, renL_mapV]; rfl) | (rw [LR.ren (by rw [l2] <;> rfl) (by rw [l6] <;> rfl)]; rfl)) ?_)) ⟨by have := hκ.hm; (try dsimp only at this); (first | done | omega), fun i hi => by have := hκ.hm; (try dsimp only at this); (first | omega | (dsimp only; omega) | (rw [if_neg (by omega)]))⟩ ⟨by simp, rfl⟩
            · have hy := hno (by simpa [errOf] using e2)
              have q3 : (er2 = 0) = False := by first | (simp only [eq_iff_iff, iff_false]; first | assumption | omega) | (simp; omega)
              refine Does.inl hκ.hP hκ.hgl Try.ok47 (nt := 22) (res := [.tmp 2]) Try.mixed Try.func47 rfl rfl rfl rfl fun κ_hst5 x_hst5 hst5 => hst5.run 300 ?_
              simp (disch := omega) only [push_cast, simprocAttr, q2, tec, lec, oec, ones_ec, te, tf]
              refine Does.keep hst5.hP hst5.hgl 0 [.ptr 0 0 0 0] (err_ok b _ _) rfl ⟨trivial, by first | (simp [SV.bnd, SV.bndL]; done) | (simp [SV.bnd, SV.bndL, ec_bnd]; done), by first | (simp [SV.bnd, SV.bndL]; done) | (simp [SV.bnd, SV.bndL, ec_bnd]; done) | assumption⟩ ⟨Rdr.good.1, Rdr.good.2, Rdr.good.1⟩ rfl (by first | omega | (dsimp only; omega)) ?_
              refine hst5.run 300 ?_
              simp (disch := omega) only [push_cast, simprocAttr, q3, q2, tec, lec, oec, ones_ec, te, tf]
              refine hst5.ret _ _ _ _ _ _ trivial rfl ?_
              refine hκ.runA 11 300 ?_
              simp (disch := omega) only [push_cast, simprocAttr, q2, tec, lec, oec, ones_ec, te, tf]
              refine Sat.via (fun i => i) (hy) (by intro i j; (repeat (first | omega | split))) (by repeat' (first | exact EnvVia.nil | refine EnvVia.cons (by first | trivial | decide | (simp [SV.bnd, SV.bndL]; done)) rfl ?_)) (by repeat' (first | exact HeapVia.nil | refine HeapVia.cons (by decide) (by first | trivial | exact Blk.bnd_own0 (by assumption) | (simp [Blk.bnd, SV.bnd, SV.bndL]; done) | exact bndL_mapV _ _ _ | exact LR.bnd (by rw [l2]; simp [bndE, SV.bnd, SV.bndL]) (by rw [l6]; decide)) (by first | (rw [Blk.ren_own0 (by assumption)]; rfl) | rfl | (simp only [Blk.ren, renL_mapV]; rfl) | (rw [LR.ren (by rw [l2] <;> rfl) (by rw [l6] <;> rfl)]; rfl)) ?_)) ⟨by have := hκ.hm; (try dsimp only at this); (first | done | omega), fun i hi => by have := hκ.hm; (try dsimp only at this); (first | omega | (dsimp only; omega) | (rw [if_neg (by omega)]))⟩ ⟨by simp, rfl⟩
          · have hy := hno (by simp [errOf])
            refine Does.inl hκ.hP hκ.hgl Try.ok47 (nt := 22) (res := [.tmp 2]) Try.mixed Try.func47 rfl rfl rfl rfl fun κ_hst6 x_hst6 hst6 => hst6.run 300 ?_
            simp (disch := omega) only [push_cast, simprocAttr, q2, tec, lec, oec, ones_ec, te, tf]
            refine hst6.ret _ _ _ _ _ _ trivial rfl ?_
            refine hκ.runA 11 300 ?_
            simp (disch := omega) only [push_cast, simprocAttr, q2, tec, lec, oec, ones_ec, te, tf]
            refine Sat.via (fun i => i) (hy) (by intro i j; (repeat (first | omega | split))) (by repeat' (first | exact EnvVia.nil | refine EnvVia.cons (by first | trivial | decide | (simp [SV.bnd, SV.bndL]; done)) rfl ?_)) (by repeat' (first | exact HeapVia.nil | refine HeapVia.cons (by decide) (by first | trivial | exact Blk.bnd_own0 (by assumption) | (simp [Blk.bnd, SV.bnd, SV.bndL]; done) | exact bndL_mapV _ _ _ | exact LR.bnd (by rw [l2]; simp [bndE, SV.bnd, SV.bndL]) (by rw [l6]; decide)) (by first | (rw [Blk.ren_own0 (by assumption)]; rfl) | rfl | (simp only [Blk.ren, renL_mapV]; rfl) | (rw [LR.ren (by rw [l2] <;> rfl) (by rw [l6] <;> rfl)]; rfl)) ?_)) ⟨by have := hκ.hm; (try dsimp only at this); (first | done | omega), fun i hi => by have := hκ.hm; (try dsimp only at this); (first | omega | (dsimp only; omega) | (rw [if_neg (by omega)]))⟩ ⟨by simp, rfl⟩
        · have hmm : mm = (pre, ⟨wk, er, bad⟩) := by rw [hm, many_err _ he]; simp
          have hy := hj (pre, ⟨wk, er, bad⟩, cp) ⟨hmm, hw, hcp⟩
          dsimp only at hy
          cases bad
          · have her : er ≠ 0 := by simpa [errOf] using he
            have q3 : (er = 0) = False := by first | (simp only [eq_iff_iff, iff_false]; first | assumption | omega) | (simp; omega)
            refine hκ.runA 11 300 ?_
            simp (disch := omega) only [push_cast, simprocAttr, q2]
            refine Does.inl hκ.hP hκ.hgl Try.ok47 (nt := 22) (res := [.tmp 2]) Try.mixed Try.func47 rfl rfl rfl rfl fun κ_hst2 x_hst2 hst2 => hst2.run 300 ?_
            simp (disch := omega) only [push_cast, simprocAttr, q2]
            refine Does.keep hst2.hP hst2.hgl 0 [.ptr 0 0 0 0] (err_ok b _ _) rfl ⟨trivial, by first | (simp [SV.bnd, SV.bndL]; done) | (simp [SV.bnd, SV.bndL, ec_bnd]; done), by first | (simp [SV.bnd, SV.bndL]; done) | (simp [SV.bnd, SV.bndL, ec_bnd]; done) | assumption⟩ ⟨Rdr.good.1, Rdr.good.2, Rdr.good.1⟩ rfl (by first | omega | (dsimp only; omega)) ?_
            refine hst2.run 300 ?_
            simp (disch := omega) only [push_cast, simprocAttr, q3, q2]
            refine hst2.ret _ _ _ _ _ _ trivial rfl ?_
            refine hκ.runA 11 300 ?_
            simp (disch := omega) only [push_cast, simprocAttr, q2]
            exact hy.less (by repeat' (first | exact EnvSub.nil _ | exact HeapSub.nil _ | refine EnvSub.cons rfl ?_ | refine HeapSub.cons rfl ?_ | (refine EnvSub.cons (by simp [Env.get]; done) ?_) | (refine HeapSub.cons (by simp [Heap.get]; done) ?_))) (by repeat' (first | exact EnvSub.nil _ | exact HeapSub.nil _ | refine EnvSub.cons rfl ?_ | refine HeapSub.cons rfl ?_ | (refine EnvSub.cons (by simp [Env.get]; done) ?_) | (refine HeapSub.cons (by simp [Heap.get]; done) ?_)))
          · refine hκ.runA 11 300 ?_
            simp (disch := omega) only [push_cast, simprocAttr, q2]
            refine Does.inl hκ.hP hκ.hgl Try.ok47 (nt := 22) (res := [.tmp 2]) Try.mixed Try.func47 rfl rfl rfl rfl fun κ_hst3 x_hst3 hst3 => hst3.run 300 ?_
            simp (disch := omega) only [push_cast, simprocAttr, q2]
            refine hst3.ret _ _ _ _ _ _ trivial rfl ?_
            refine hκ.runA 11 300 ?_
            simp (disch := omega) only [push_cast, simprocAttr, q2]
            exact hy.less (by repeat' (first | exact EnvSub.nil _ | exact HeapSub.nil _ | refine EnvSub.cons rfl ?_ | refine HeapSub.cons rfl ?_ | (refine EnvSub.cons (by simp [Env.get]; done) ?_) | (refine HeapSub.cons (by simp [Heap.get]; done) ?_))) (by repeat' (first | exact EnvSub.nil _ | exact HeapSub.nil _ | refine EnvSub.cons rfl ?_ | refine HeapSub.cons rfl ?_ | (refine EnvSub.cons (by simp [Env.get]; done) ?_) | (refine HeapSub.cons (by simp [Heap.get]; done) ?_)))
      · have q2 : ((pre.length : Int) < n) = False := by first | (simp only [eq_iff_iff, iff_false]; first | assumption | omega) | (simp; omega)
        have hmm : mm = (pre, ⟨wk, er, bad⟩) := by rw [hm, show n - pre.length = 0 by omega, many]; simp
        have hy := hj (pre, ⟨wk, er, bad⟩, cp) ⟨hmm, hw, hcp⟩
        dsimp only at hy
        refine hκ.runA 11 300 ?_
        simp (disch := omega) only [push_cast, simprocAttr, q2]
        exact hy.less (by repeat' (first | exact EnvSub.nil _ | exact HeapSub.nil _ | refine EnvSub.cons rfl ?_ | refine HeapSub.cons rfl ?_ | (refine EnvSub.cons (by simp [Env.get]; done) ?_) | (refine HeapSub.cons (by simp [Heap.get]; done) ?_))) (by repeat' (first | exact EnvSub.nil _ | exact HeapSub.nil _ | refine EnvSub.cons rfl ?_ | refine HeapSub.cons rfl ?_ | (refine EnvSub.cons (by simp [Env.get]; done) ?_) | (refine HeapSub.cons (by simp [Heap.get]; done) ?_)))
  · rintro ⟨l, s, cp⟩ ⟨rfl, hw, hcp⟩
    dsimp only at hw hcp hκ ⊢
    obtain ⟨wk, er, bad⟩ := s
    dsimp only at *
    have et : List.take l.length (List.map ec l) = List.map ec l := List.take_of_length_le (by simp)
    cases bad
    · refine hκ.runA 12 300 ?_
      simp (disch := omega) only [push_cast, simprocAttr, tec, lec, oec, ones_ec]
      refine Does.inl hκ.hP hκ.hgl Try.ok29 (nt := 12) (res := [.tmp 2]) Try.mixed Try.func29 rfl rfl rfl rfl fun κ_hf x_hf hf => hf.run 300 ?_
      simp (disch := omega) only [push_cast, simprocAttr, tec, lec, oec, ones_ec]
      refine Does.keep hf.hP hf.hgl 0 [.ptr 0 0 0 0] (err_ok b _ _) rfl ⟨trivial, by first | (simp [SV.bnd, SV.bndL]; done) | (simp [SV.bnd, SV.bndL, ec_bnd]; done), by first | (simp [SV.bnd, SV.bndL]; done) | (simp [SV.bnd, SV.bndL, ec_bnd]; done) | assumption⟩ ⟨Rdr.good.1, Rdr.good.2, Rdr.good.1⟩ rfl (by first | omega | (dsimp only; omega)) ?_
      by_cases he : er = 0
      · subst he
        have e0 : errOf ⟨wk, 0, false⟩ = 0 := by simp [errOf]
        rw [e0] at hκ
        simp only [ne_eq, not_true_eq_false, if_false] at hκ
        refine hf.run 300 ?_
        simp (disch := omega) only [push_cast, simprocAttr, tec, lec, oec, ones_ec]
        refine hf.ret _ _ _ _ _ _ trivial rfl ?_
        refine hκ.run 300 ?_
        simp (disch := omega) only [push_cast, simprocAttr, tec, lec, oec, ones_ec]
        refine Does.keep hκ.hP hκ.hgl 0 [.ptr 0 0 0 0] (left_ok b wk _ hw hn) rfl ⟨trivial, by first | (simp [SV.bnd, SV.bndL]; done) | (simp [SV.bnd, SV.bndL, ec_bnd]; done), by first | (simp [SV.bnd, SV.bndL]; done) | (simp [SV.bnd, SV.bndL, ec_bnd]; done) | assumption⟩ ⟨Rdr.good.1, Rdr.good.2, Rdr.good.1⟩ rfl (by first | omega | (dsimp only; omega)) ?_
        by_cases hl : wk < b.length
        · rw [if_pos hl, if_neg (show ¬(361 : Int) = 0 by decide)] at hκ
          have q1 : ((0 : Int) < (b.length : Int) - wk) = True := by first | (simp only [eq_iff_iff, iff_true]; first | assumption | omega) | (simp; omega)
          refine hκ.run 300 ?_
          simp (disch := omega) only [push_cast, simprocAttr, q1, tec, lec, oec, ones_ec]
          refine hκ.ret _ _ _ _ _ _ trivial rfl ?_
          exact .ret (by simp [SV.bnd, SV.bndL])
        · rw [if_neg hl, if_pos rfl] at hκ
          have q1 : ((0 : Int) < (b.length : Int) - wk) = False := by first | (simp only [eq_iff_iff, iff_false]; first | assumption | omega) | (simp; omega)
          refine hκ.run 300 ?_
          simp (disch := omega) only [push_cast, simprocAttr, q1, tec, lec, oec, ones_ec]
          refine hκ.ret _ _ _ _ _ _ trivial rfl ?_
          refine Post.frz [2] (by first | (simp [lendPL, lendP, lendSlP, dropL, Heap.get, Heap.drop, resV]; done) | (simp [lendPL, lendP, lendSlP, dropL, Heap.get, Heap.drop, resV]; omega) | (simp [lendPL, lendP, lendSlP, dropL, Heap.get, Heap.drop, resV, -List.length_eq_zero_iff]; omega)) ?_
          simp only [resV, lendL, lendS, lendSl, dropL, Heap.drop, Heap.get, List.mem_singleton, List.mem_cons, List.not_mem_nil, or_false, or_true, true_or, List.drop_zero, Nat.reduceEqDiff, Nat.one_ne_zero, Nat.zero_ne_one, ↓reduceIte, et]
          exact .ret (by simp [SV.bnd, SV.bndL])
      · have e0 : errOf ⟨wk, er, false⟩ = er := by simp [errOf]
        rw [e0, if_pos he, if_neg he] at hκ
        have q3 : (er = 0) = False := by first | (simp only [eq_iff_iff, iff_false]; first | assumption | omega) | (simp; omega)
        refine hf.run 300 ?_
        simp (disch := omega) only [push_cast, simprocAttr, q3, tec, lec, oec, ones_ec]
        refine hf.ret _ _ _ _ _ _ trivial rfl ?_
        refine hκ.run 300 ?_
        simp (disch := omega) only [push_cast, simprocAttr, q3, tec, lec, oec, ones_ec]
        refine hκ.ret _ _ _ _ _ _ trivial rfl ?_
        exact .ret (by simp [SV.bnd, SV.bndL])
    · have e0 : errOf ⟨wk, er, true⟩ = 361 := by simp [errOf]
      rw [e0, if_pos (show (361 : Int) ≠ 0 by decide), if_neg (show ¬(361 : Int) = 0 by decide)] at hκ
      refine hκ.runA 12 300 ?_
      simp (disch := omega) only [push_cast, simprocAttr, tec, lec, oec, ones_ec]
      refine Does.inl hκ.hP hκ.hgl Try.ok29 (nt := 12) (res := [.tmp 2]) Try.mixed Try.func29 rfl rfl rfl rfl fun κ_hf x_hf hf => hf.run 300 ?_
      simp (disch := omega) only [push_cast, simprocAttr, tec, lec, oec, ones_ec]
      refine hf.ret _ _ _ _ _ _ trivial rfl ?_
      refine hκ.run 300 ?_
      simp (disch := omega) only [push_cast, simprocAttr, tec, lec, oec, ones_ec]
      refine hκ.ret _ _ _ _ _ _ trivial rfl ?_
      exact .ret (by simp [SV.bnd, SV.bndL])
end Go.Proofs.Ytmieikflcolbaaa
