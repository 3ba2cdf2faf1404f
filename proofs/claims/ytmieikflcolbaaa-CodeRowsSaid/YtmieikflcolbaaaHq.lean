/- An event of bytes: Decode. No condition. -/
import Derived.Test.YtmieikflcolbaaaEh
import Derived.Test.YtmieikflcolbaaaHb
namespace Go.Proofs.Ytmieikflcolbaaa
open Go Go.Sy
set_option maxRecDepth 100000
set_option linter.unusedSimpArgs false
set_option linter.unusedVariables false
def ev0 : Evt := (fun _ => 0, [], [])
def s0 : In := ⟨0, 0, false⟩
def decP (b : List Int) : In × Evt := dEv b s0 ev0
def decE (b : List Int) : Int := if (decP b).1.bad = true then 361 else if (decP b).1.er ≠ 0 then (decP b).1.er else if (decP b).1.wk < b.length then 361 else 0
def decA (b : List Int) : Evt := if decE b = 0 then (decP b).2 else ev0
theorem zero_ec : ∀ ν vs, RelL ν [I 0, I 0, I 0, I 0, I 0, Bo false, .v (.slice none 0 0), I 0, I 0, I 0, I 0, I 0, I 0, U 0, U 0, I 0, I 0, I 0, I 0, I 0, I 0, I 0, I 0, I 0, U 0, U 0, U 0, .v (.slice none 0 0), I 0] vs → RelL ν (ec ev0) vs := by
  intro ν
  show ∀ vs, _ → RelL ν [I 0, I 0, I 0, I 0, I 0, Bo false, .rd 1 [], I 0, I 0, I 0, I 0, I 0, I 0, U 0, U 0, I 0, I 0, I 0, I 0, I 0, I 0, I 0, I 0, I 0, U 0, U 0, U 0, .rd 1 [], I 0] vs
  repeat' (first | exact (fun vs h => h) | refine RelL.nilrd ?_ | refine RelL.keep ?_)
theorem dSub_wk {bs : List Int} {s : In} (a : Evt) (l : Option (List Nat)) (h : s.wk ≤ bs.length) (p : In × Evt) (hp : p.1.wk ≤ bs.length) : (match l with | some l => dLs bs (s, a) l | none => p).1.wk ≤ bs.length := by
  cases l with
  | none => exact hp
  | some l => exact dLs_wk l _ h
theorem dEv_wk {bs : List Int} {s : In} {a : Evt} (h : s.wk ≤ bs.length) : (dEv bs s a).1.wk ≤ bs.length := by
  have h1 : (rdS bs 1 s).wk ≤ bs.length := rdS_wk h
  have h2 : (rdS bs 1 (rdS bs 1 s)).wk ≤ bs.length := rdS_wk h1
  unfold dEv
  split
  · exact dSub_wk _ _ h2 _ h2
  split
  · exact dSub_wk _ _ h2 _ h2
  split
  · exact rdS_wk h1
  · exact h1
theorem decode_ok (b : List Int) (hby : ∀ x ∈ b, 0 ≤ x ∧ x < 256) (hn : b.length < 2 ^ 46) : Con Try.prog gl0 (fnv 10) [By b] 0 [] (Ret (.tup [Ev (decA b), I (decE b)])) := by
  suffices H : Con Try.prog gl0 (fnv 10) [By b] 0 [] (Ret (.tup [if decE b = 0 then Ev (decP b).2 else .agg [I 0, I 0, I 0, I 0, I 0, Bo false, .v (.slice none 0 0), I 0, I 0, I 0, I 0, I 0, I 0, U 0, U 0, I 0, I 0, I 0, I 0, I 0, I 0, I 0, I 0, I 0, U 0, U 0, U 0, .v (.slice none 0 0), I 0], I (decE b)])) by
    by_cases ho : decE b = 0
    · rw [if_pos ho] at H; rw [decA, if_pos ho]; exact H
    · rw [if_neg ho] at H; rw [decA, if_neg ho]; exact Con.repR (fun ν => Rel.tupMap (RelL.mapHead (Rel.aggMap (zero_ec ν)))) H
  have hw : (decP b).1.wk ≤ b.length := dEv_wk (Nat.zero_le _)
  have hE : decE b = if (decP b).1.bad = true then 361 else if (decP b).1.er ≠ 0 then (decP b).1.er else if (decP b).1.wk < b.length then 361 else 0 := rfl
  have hc := eventD b s0 ev0 rfl (Nat.zero_le _) hn hby
  rw [show dEv b s0 ev0 = decP b from rfl] at hc
  rw [hE]
  clear hE
  generalize decP b = q at *
  refine Con.of Try.ok10 (nt := 25) (res := [.cell 2 37, .tmp 3]) Try.mixed Try.func10 rfl rfl rfl rfl fun κ xc hκ => hκ.run 300 ?_
  simp (disch := omega) only [push_cast, simprocAttr]
  refine Does.new hκ.hP hκ.hgl (read_ok b hn) ⟨trivial, by simp [SV.bnd, SV.bndL]⟩ Rdr.good.1 ?_
  refine hκ.runA 3 300 ?_
  simp (disch := omega) only [push_cast, simprocAttr]
  refine Sat.repOwn 3 _ _ _ rfl zero_ec ?_
  simp only [Heap.set, Nat.reduceEqDiff, ↓reduceIte]
  refine hκ.run 300 ?_
  simp (disch := omega) only [push_cast, simprocAttr]
  refine (Does.D hκ.hP hκ.hgl _ (fun i => if i = 0 then 2 else if i = 1 then 3 else if i = 2 then 1 else i) [2, 3, 1] _ _ (hc) (by rfl) ⟨trivial, by simp [SV.bnd, SV.bndL], by simp [SV.bnd, SV.bndL]⟩ (by first | assumption | exact ec_bnd _ _ | (simp [SV.bnd, SV.bndL]; done)) (by decide) (by intro i hi; (repeat (first | omega | (dsimp only [id]; omega) | split))) (by intro i j; (repeat (first | omega | (dsimp only [id]; omega) | split))) (by repeat' (first | exact HeapIn.nil | refine HeapIn.cons (by decide) (by first | exact Blk.bnd_own0 (by assumption) | exact ec_bnd _ _ | (simp [Blk.bnd, SV.bnd, SV.bndL]; done)) (by simp) (by first | rfl | (rw [Blk.ren_own0 (by assumption)]; rfl)) ?_)) ?_)
  simp only [renH, Blk.ren, SV.renL, SV.ren, tau, without, List.mem_singleton, List.mem_cons, List.not_mem_nil, or_false, or_true, true_or, Nat.reduceEqDiff, Nat.reduceLT, Nat.zero_lt_one, Nat.one_ne_zero, Nat.zero_ne_one, Nat.zero_lt_succ, ↓reduceIte, List.cons_append, List.nil_append, List.append_nil, id]
  refine hκ.run 300 ?_
  simp (disch := omega) only [push_cast, simprocAttr]
  refine Does.inl hκ.hP hκ.hgl Try.ok29 (nt := 12) (res := [.tmp 2]) Try.mixed Try.func29 rfl rfl rfl rfl fun κ_hf x_hf hf => hf.run 300 ?_
  simp (disch := omega) only [push_cast, simprocAttr]
  cases hb : q.1.bad
  · rw [hb] at hκ
    simp only [Bool.false_eq_true, if_false] at hκ
    simp (disch := omega) only [push_cast, simprocAttr, hb]
    refine Does.keep hf.hP hf.hgl 1 [.ptr 0 0 0 0] (err_ok b _ _) rfl ⟨trivial, by first | (simp [SV.bnd, SV.bndL]; done) | (simp [SV.bnd, SV.bndL, ec_bnd]; done), by first | (simp [SV.bnd, SV.bndL]; done) | (simp [SV.bnd, SV.bndL, ec_bnd]; done) | assumption⟩ ⟨Rdr.good.1, Rdr.good.2, Rdr.good.1⟩ rfl (by first | omega | (dsimp only; omega)) ?_
    refine hf.run 300 ?_
    simp (disch := omega) only [push_cast, simprocAttr]
    refine hf.ret _ _ _ _ _ _ trivial rfl ?_
    refine hκ.run 300 ?_
    simp (disch := omega) only [push_cast, simprocAttr]
    by_cases he : q.1.er = 0
    · rw [if_neg (show ¬ q.1.er ≠ 0 from fun h => h he)] at hκ
      simp (disch := omega) only [push_cast, simprocAttr, he]
      refine Does.keep hκ.hP hκ.hgl 1 [.ptr 0 0 0 0] (left_ok b q.1.wk _ hw hn) rfl ⟨trivial, by first | (simp [SV.bnd, SV.bndL]; done) | (simp [SV.bnd, SV.bndL, ec_bnd]; done), by first | (simp [SV.bnd, SV.bndL]; done) | (simp [SV.bnd, SV.bndL, ec_bnd]; done) | assumption⟩ ⟨Rdr.good.1, Rdr.good.2, Rdr.good.1⟩ rfl (by first | omega | (dsimp only; omega)) ?_
      by_cases hl : q.1.wk < b.length
      · rw [if_pos hl, if_neg (show ¬(361 : Int) = 0 by decide)] at hκ
        have q1 : ((0 : Int) < (b.length : Int) - q.1.wk) = True := by first | (simp only [eq_iff_iff, iff_true]; first | assumption | omega) | (simp; omega)
        refine hκ.run 300 ?_
        simp (disch := omega) only [push_cast, simprocAttr, q1]
        refine hκ.ret _ _ _ _ _ _ trivial rfl ?_
        exact .ret (by simp [SV.bnd, SV.bndL, ec])
      · rw [if_neg hl, if_pos rfl] at hκ
        have q1 : ((0 : Int) < (b.length : Int) - q.1.wk) = False := by first | (simp only [eq_iff_iff, iff_false]; first | assumption | omega) | (simp; omega)
        refine hκ.run 300 ?_
        simp (disch := omega) only [push_cast, simprocAttr, q1, ec]
        refine hκ.ret _ _ _ _ _ _ trivial rfl ?_
        exact .ret (by simp [SV.bnd, SV.bndL, ec])
    · rw [if_pos (show q.1.er ≠ 0 from he), if_neg he] at hκ
      simp (disch := omega) only [push_cast, simprocAttr, he]
      refine hκ.ret _ _ _ _ _ _ trivial rfl ?_
      exact .ret (by simp [SV.bnd, SV.bndL, ec])
  · rw [hb] at hκ
    simp only [if_true] at hκ
    rw [if_neg (show ¬(361 : Int) = 0 by decide)] at hκ
    simp (disch := omega) only [push_cast, simprocAttr, hb]
    refine hf.ret _ _ _ _ _ _ trivial rfl ?_
    refine hκ.run 300 ?_
    simp (disch := omega) only [push_cast, simprocAttr]
    refine hκ.ret _ _ _ _ _ _ trivial rfl ?_
    exact .ret (by simp [SV.bnd, SV.bndL, ec])
end Go.Proofs.Ytmieikflcolbaaa
namespace Go.Proofs.Ytmieikflcolbaaa
open Go Go.Sy
set_option maxRecDepth 100000
set_option linter.unusedSimpArgs false
set_option linter.unusedVariables false
set_option maxHeartbeats 4000000
theorem Con.repS {P : Program} {gl : Gl} {f : SV} {args : List SV} {m : Nat} {H H0 : Heap} {s s' : SV} (hr : ∀ ν v, Rel ν s v → Rel ν s' v) (h : Con P gl f args m H (RetS s H0 m)) : Con P gl f args m H (RetS s' H0 m) := by
  intro ν w fv vs h1 h2 h3 h4
  refine (h ν w fv vs h1 h2 h3 h4).mono ?_
  rintro v w' ⟨ν', s0, H', ⟨rfl, rfl, h5⟩, hg, hH, hs⟩
  exact ⟨ν', s', _, ⟨rfl, rfl, h5⟩, hg, hH, hr _ _ hs⟩
abbrev RwB (b : List Int) (cap : Nat) : Blk := .row 1 cap 5 (b.map (eI .u8))
end Go.Proofs.Ytmieikflcolbaaa
