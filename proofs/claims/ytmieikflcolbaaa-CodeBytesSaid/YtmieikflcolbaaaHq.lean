/- Decode of a row that may be written afterwards. No condition. -/
import Derived.Test.YtmieikflcolbaaaHa
namespace Go.Proofs.Ytmieikflcolbaaa
open Go Go.Sy
set_option maxRecDepth 100000
set_option linter.unusedSimpArgs false
set_option linter.unusedVariables false
set_option maxHeartbeats 4000000

theorem Con.repS {P : Program} {gl : Gl} {f : SV} {args : List SV} {m : Nat} {H H0 : Heap} {s s' : SV} (hr : ∀ ν v, Rel ν s v → Rel ν s' v) (h : Con P gl f args m H (RetS s H0 m)) : Con P gl f args m H (RetS s' H0 m) := by
  intro ν w fv vs h1 h2 h3 h4
  refine (h ν w fv vs h1 h2 h3 h4).mono ?_
  rintro v w' ⟨ν', s0, H', ⟨rfl, rfl, h5⟩, hg, hH, hs⟩
  exact ⟨ν', s', _, ⟨rfl, rfl, h5⟩, hg, hH, hr _ _ hs⟩
abbrev RwB (b : List Int) (cap : Nat) : Blk := .row 1 cap 5 (b.map (eI .u8))
theorem readS_ok (bs : List Int) (cap : Nat) (hc : bs.length ≤ cap) (hn : bs.length < 2 ^ 46) : Con Try.prog gl0 (fnv 27) [.sl 0 1 0 bs.length cap] 1 [(0, RwB bs cap)] (fun s H n => s = .ptr 1 0 0 0 ∧ H = [(1, Rdr bs 0 0), (0, RwB bs cap)] ∧ n = 2) := by
  have e : List.take bs.length (List.map (eI .u8) bs) = List.map (eI .u8) bs := List.take_of_length_le (by simp)
  refine Con.of Try.ok27 (nt := 8) (res := [.tmp 2]) Try.mixed Try.func27 rfl rfl rfl rfl fun κ xc hκ => hκ.run 300 ?_
  simp (disch := omega) only [push_cast, simprocAttr, e]
  refine ⟨⟨⟨Nat.le_refl _, hc, fun _ => by omega⟩, by omega, by omega⟩, fun _ => ?_⟩
  intro c
  refine hκ.ret _ _ _ _ _ _ trivial rfl ?_
  refine Post.frzOwn [1] 2 _ _ rfl (by simp) (by simp [lendPL, lendP, lendSlP, dropL, Heap.get]; intro h1 h2; subst h2; simp at h1; omega) ?_
  simp only [dropL, lendL, lendS, lendSl, Heap.get, Heap.set, without, List.mem_singleton, List.drop_zero, e, Nat.one_ne_zero, Nat.reduceEqDiff, ↓reduceIte]
  exact Post.via 2 (fun i => if i = 0 then 0 else 2) (.ptr 1 0 0 0) [(1, Rdr bs 0 0), (0, RwB bs cap)] ⟨rfl, rfl, rfl⟩ rfl (by simp [SV.bnd]) (fun a b ha hb => by intro h; (repeat (first | omega | split at h))) (.cons (by omega) (by simp [Blk.bnd, SV.bnd, SV.bndL]) rfl (.cons (by omega) trivial rfl .nil)) ⟨by omega, fun a h => by (repeat (first | omega | split))⟩
theorem decodeS_ok (b : List Int) (cap : Nat) (hc : b.length ≤ cap) (hby : ∀ x ∈ b, 0 ≤ x ∧ x < 256) (hn : b.length < 2 ^ 46) : Con Try.prog gl0 (fnv 10) [.sl 0 1 0 b.length cap] 1 [(0, RwB b cap)] (RetS (.tup [Ev (decA b), I (decE b)]) [(0, RwB b cap)] 1) := by
  suffices H : Con Try.prog gl0 (fnv 10) [.sl 0 1 0 b.length cap] 1 [(0, RwB b cap)] (RetS (.tup [if decE b = 0 then Ev (decP b).2 else .agg [I 0, I 0, I 0, I 0, I 0, Bo false, .v (.slice none 0 0), I 0, I 0, I 0, I 0, I 0, I 0, U 0, U 0, I 0, I 0, I 0, I 0, I 0, I 0, I 0, I 0, I 0, U 0, U 0, U 0, .v (.slice none 0 0), I 0], I (decE b)]) [(0, RwB b cap)] 1) by
    by_cases ho : decE b = 0
    · rw [if_pos ho] at H; rw [decA, if_pos ho]; exact H
    · rw [if_neg ho] at H; rw [decA, if_neg ho]; exact Con.repS (fun ν => Rel.tupMap (RelL.mapHead (Rel.aggMap (zero_ec ν)))) H
  have hw : (decP b).1.wk ≤ b.length := dEv_wk (Nat.zero_le _)
  have hE : decE b = if (decP b).1.bad = true then 361 else if (decP b).1.er ≠ 0 then (decP b).1.er else if (decP b).1.wk < b.length then 361 else 0 := rfl
  have hcc := eventD b s0 ev0 rfl (Nat.zero_le _) hn hby
  rw [show dEv b s0 ev0 = decP b from rfl] at hcc
  rw [hE]
  clear hE
  generalize decP b = q at *
  refine Con.of Try.ok10 (nt := 25) (res := [.cell 2 37, .tmp 3]) Try.mixed Try.func10 rfl rfl rfl rfl fun κ xc hκ => hκ.run 300 ?_
  simp (disch := omega) only [push_cast, simprocAttr]
  refine Does.fn hκ.hP hκ.hgl 1 id [0] _ [.sl 0 1 0 b.length cap] [(0, RwB b cap)] (readS_ok b cap hc hn) rfl rfl trivial (by simp [SV.bnd, SV.bndL]) (fun i hi => by dsimp only [id]; omega) (fun i j _ _ e => e) (by repeat' (first | exact HeapIn.nil | refine HeapIn.cons (by decide) trivial (by simp) rfl ?_)) ?_
  rintro s H n ⟨rfl, rfl, rfl⟩
  refine ⟨(by repeat' (first | exact Once.nil | refine Once.cons (by simp) ?_)), fun _ => ?_⟩
  simp only [renH, Blk.ren, SV.renL, SV.ren, tau, without, List.mem_singleton, List.mem_cons, List.not_mem_nil, or_false, or_true, true_or, Nat.reduceEqDiff, Nat.reduceLT, Nat.zero_lt_one, Nat.one_ne_zero, Nat.zero_ne_one, Nat.zero_lt_succ, ↓reduceIte, List.cons_append, List.nil_append, List.append_nil, id]
  refine hκ.runA 3 300 ?_
  simp (disch := omega) only [push_cast, simprocAttr]
  refine Sat.repOwn 4 _ _ _ rfl zero_ec ?_
  simp only [Heap.set, Nat.reduceEqDiff, ↓reduceIte]
  refine hκ.run 300 ?_
  simp (disch := omega) only [push_cast, simprocAttr]
  refine (Does.D hκ.hP hκ.hgl _ (fun i => if i = 0 then 3 else if i = 1 then 4 else i) [3, 4, 2] _ _ (hcc) (by rfl) ⟨trivial, by simp [SV.bnd, SV.bndL], by simp [SV.bnd, SV.bndL]⟩ (by first | assumption | exact ec_bnd _ _ | (simp [SV.bnd, SV.bndL]; done)) (by decide) (by intro i hi; (repeat (first | omega | (dsimp only [id]; omega) | split))) (by intro i j; (repeat (first | omega | (dsimp only [id]; omega) | split))) (by repeat' (first | exact HeapIn.nil | refine HeapIn.cons (by decide) (by first | exact Blk.bnd_own0 (by assumption) | exact ec_bnd _ _ | (simp [Blk.bnd, SV.bnd, SV.bndL]; done)) (by simp) (by first | rfl | (rw [Blk.ren_own0 (by assumption)]; rfl)) ?_)) ?_)
  simp only [renH, Blk.ren, SV.renL, SV.ren, tau, without, List.mem_singleton, List.mem_cons, List.not_mem_nil, or_false, or_true, true_or, Nat.reduceEqDiff, Nat.reduceLT, Nat.zero_lt_one, Nat.one_ne_zero, Nat.zero_ne_one, Nat.zero_lt_succ, ↓reduceIte, List.cons_append, List.nil_append, List.append_nil, id]
  refine hκ.run 300 ?_
  simp (disch := omega) only [push_cast, simprocAttr]
  refine Does.inl hκ.hP hκ.hgl Try.ok29 (nt := 12) (res := [.tmp 2]) Try.mixed Try.func29 rfl rfl rfl rfl fun κ_hf x_hf hf => hf.run 300 ?_
  simp (disch := omega) only [push_cast, simprocAttr]
  cases hb : q.1.bad
  · rw [hb] at hκ
    simp only [Bool.false_eq_true, if_false] at hκ
    simp (disch := omega) only [push_cast, simprocAttr, hb]
    refine Does.keep hf.hP hf.hgl 2 [.ptr 0 0 0 0] (err_ok b _ _) rfl ⟨trivial, by first | (simp [SV.bnd, SV.bndL]; done) | (simp [SV.bnd, SV.bndL, ec_bnd]; done), by first | (simp [SV.bnd, SV.bndL]; done) | (simp [SV.bnd, SV.bndL, ec_bnd]; done) | assumption⟩ ⟨Rdr.good.1, Rdr.good.2, Rdr.good.1⟩ rfl (by first | omega | (dsimp only; omega)) ?_
    refine hf.run 300 ?_
    simp (disch := omega) only [push_cast, simprocAttr]
    refine hf.ret _ _ _ _ _ _ trivial rfl ?_
    refine hκ.run 300 ?_
    simp (disch := omega) only [push_cast, simprocAttr]
    by_cases he : q.1.er = 0
    · rw [if_neg (show ¬ q.1.er ≠ 0 from fun h => h he)] at hκ
      simp (disch := omega) only [push_cast, simprocAttr, he]
      refine Does.keep hκ.hP hκ.hgl 2 [.ptr 0 0 0 0] (left_ok b q.1.wk _ hw hn) rfl ⟨trivial, by first | (simp [SV.bnd, SV.bndL]; done) | (simp [SV.bnd, SV.bndL, ec_bnd]; done), by first | (simp [SV.bnd, SV.bndL]; done) | (simp [SV.bnd, SV.bndL, ec_bnd]; done) | assumption⟩ ⟨Rdr.good.1, Rdr.good.2, Rdr.good.1⟩ rfl (by first | omega | (dsimp only; omega)) ?_
      by_cases hl : q.1.wk < b.length
      · rw [if_pos hl, if_neg (show ¬(361 : Int) = 0 by decide)] at hκ
        have q1 : ((0 : Int) < (b.length : Int) - q.1.wk) = True := by first | (simp only [eq_iff_iff, iff_true]; first | assumption | omega) | (simp; omega)
        refine hκ.run 300 ?_
        simp (disch := omega) only [push_cast, simprocAttr, q1]
        refine hκ.ret _ _ _ _ _ _ trivial rfl ?_
        exact Post.look (by simp [SV.bnd, SV.bndL, ec]) (by repeat' (first | exact HeapVia.nil | refine HeapVia.cons (by decide) (by first | trivial | exact Blk.bnd_own0 (by assumption) | (simp [Blk.bnd, SV.bnd, SV.bndL]; done) | exact bndL_mapV _ _ _ | exact LR.bnd (by rw [l2]; simp [bndE, SV.bnd, SV.bndL]) (by rw [l6]; decide)) (by first | (rw [Blk.ren_own0 (by assumption)]; rfl) | rfl | (simp only [Blk.ren, renL_mapV]; rfl) | (rw [LR.ren (by rw [l2] <;> rfl) (by rw [l6] <;> rfl)]; rfl)) ?_))
      · rw [if_neg hl, if_pos rfl] at hκ
        have q1 : ((0 : Int) < (b.length : Int) - q.1.wk) = False := by first | (simp only [eq_iff_iff, iff_false]; first | assumption | omega) | (simp; omega)
        refine hκ.run 300 ?_
        simp (disch := omega) only [push_cast, simprocAttr, q1, ec]
        refine hκ.ret _ _ _ _ _ _ trivial rfl ?_
        exact Post.look (by simp [SV.bnd, SV.bndL, ec]) (by repeat' (first | exact HeapVia.nil | refine HeapVia.cons (by decide) (by first | trivial | exact Blk.bnd_own0 (by assumption) | (simp [Blk.bnd, SV.bnd, SV.bndL]; done) | exact bndL_mapV _ _ _ | exact LR.bnd (by rw [l2]; simp [bndE, SV.bnd, SV.bndL]) (by rw [l6]; decide)) (by first | (rw [Blk.ren_own0 (by assumption)]; rfl) | rfl | (simp only [Blk.ren, renL_mapV]; rfl) | (rw [LR.ren (by rw [l2] <;> rfl) (by rw [l6] <;> rfl)]; rfl)) ?_))
    · rw [if_pos (show q.1.er ≠ 0 from he), if_neg he] at hκ
      simp (disch := omega) only [push_cast, simprocAttr, he]
      refine hκ.ret _ _ _ _ _ _ trivial rfl ?_
      exact Post.look (by simp [SV.bnd, SV.bndL, ec]) (by repeat' (first | exact HeapVia.nil | refine HeapVia.cons (by decide) (by first | trivial | exact Blk.bnd_own0 (by assumption) | (simp [Blk.bnd, SV.bnd, SV.bndL]; done) | exact bndL_mapV _ _ _ | exact LR.bnd (by rw [l2]; simp [bndE, SV.bnd, SV.bndL]) (by rw [l6]; decide)) (by first | (rw [Blk.ren_own0 (by assumption)]; rfl) | rfl | (simp only [Blk.ren, renL_mapV]; rfl) | (rw [LR.ren (by rw [l2] <;> rfl) (by rw [l6] <;> rfl)]; rfl)) ?_))
  · rw [hb] at hκ
    simp only [if_true] at hκ
    rw [if_neg (show ¬(361 : Int) = 0 by decide)] at hκ
    simp (disch := omega) only [push_cast, simprocAttr, hb]
    refine hf.ret _ _ _ _ _ _ trivial rfl ?_
    refine hκ.run 300 ?_
    simp (disch := omega) only [push_cast, simprocAttr]
    refine hκ.ret _ _ _ _ _ _ trivial rfl ?_
    exact Post.look (by simp [SV.bnd, SV.bndL, ec]) (by repeat' (first | exact HeapVia.nil | refine HeapVia.cons (by decide) (by first | trivial | exact Blk.bnd_own0 (by assumption) | (simp [Blk.bnd, SV.bnd, SV.bndL]; done) | exact bndL_mapV _ _ _ | exact LR.bnd (by rw [l2]; simp [bndE, SV.bnd, SV.bndL]) (by rw [l6]; decide)) (by first | (rw [Blk.ren_own0 (by assumption)]; rfl) | rfl | (simp only [Blk.ren, renL_mapV]; rfl) | (rw [LR.ren (by rw [l2] <;> rfl) (by rw [l6] <;> rfl)]; rfl)) ?_))
end Go.Proofs.Ytmieikflcolbaaa
