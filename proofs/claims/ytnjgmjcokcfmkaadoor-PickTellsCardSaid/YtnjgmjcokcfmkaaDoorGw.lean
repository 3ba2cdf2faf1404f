/- Walks of gang: matching. No condition. -/
import Derived.Test.YtnjgmjcokcfmkaaDoorGv
namespace Go.Proofs.YtnjgmjcokcfmkaaDoor
open Go Go.Sy
set_option maxRecDepth 100000
set_option linter.unusedSimpArgs false
set_option linter.unusedVariables false
set_option maxHeartbeats 4000000

def hasF (h : Has) : List Int → Option SV
  | [c] => (h c).map fun i => I i
  | _ => none
def askF (A : Ask) : List Int → Option SV
  | [c] => if A c = true then some (Bo true) else none
  | _ => none
theorem hasF_set (h : Has) (c : Int) (i : Nat) : (fun q => if q = [c] then some (I i) else hasF h q) = hasF (setH h c i) := by
  funext q
  match q with
  | [] => simp [hasF]
  | [d] =>
    by_cases e : d = c
    · subst e; simp [hasF, setH]
    · simp [hasF, setH, e]
  | _ :: _ :: _ => simp [hasF]
theorem askF_set (A : Ask) (c : Int) : (fun q => if q = [c] then some (Bo true) else askF A q) = askF (setA A c) := by
  funext q
  match q with
  | [] => simp [askF]
  | [d] =>
    by_cases e : d = c
    · subst e; simp [askF, setA]
    · simp [askF, setA, e]
  | _ :: _ :: _ => simp [askF]
abbrev gvC : SV := .fn (.func 117) [] [.ptr 0 0 0 0, .ptr 1 0 0 0, .ptr 2 0 0 0]
abbrev gH (rows : List (List Int)) (h : Has) (A : Ask) : Heap := [(0, .own [Rws rows] 110), (1, .own [.mp 3] 155), (2, .own [gvC] 156), (3, .map false [.i64] (hasF h)), (4, .map false [.i64] (askF A))]
abbrev gQ (rows : List (List Int)) (q : Bool × Has × Ask) : SV → Heap → Nat → Prop := fun r H n => r = Bo q.1 ∧ H = gH rows q.2.1 q.2.2 ∧ n = 5
/-- Each one that has a place is there. -/
abbrev bdH (rows : List (List Int)) (h : Has) : Prop := ∀ c k, h c = some k → k < rows.length
theorem bd_set {rows : List (List Int)} {h : Has} {c : Int} {i : Nat} (hb : bdH rows h) (hi : i < rows.length) : bdH rows (setH h c i) := fun d k hd => by
  simp only [setH] at hd
  split at hd
  · rw [← Option.some.inj hd]; exact hi
  · exact hb d k hd
theorem gl_bd {rows : List (List Int)} {rec : Nat → Has → Ask → Bool × Has × Ask} (hr : ∀ o h A, o < rows.length → bdH rows h → bdH rows (rec o h A).2.1) {i : Nat} (hi : i < rows.length) :
    ∀ (l : List Int) (h : Has) (A : Ask), bdH rows h → bdH rows (gl rec i l h A).2.1
  | [], h, A, hb => hb
  | c :: l, h, A, hb => by
    rw [gl]
    split
    · exact gl_bd hr hi l h A hb
    · cases hc : h c with
      | none => exact bd_set hb hi
      | some o =>
        have hq := hr o h (setA A c) (hb c o hc) hb
        dsimp only
        split
        · exact bd_set hq hi
        · exact gl_bd hr hi l _ _ hq
theorem gv_bd {rows : List (List Int)} : ∀ (n i : Nat) (h : Has) (A : Ask), i < rows.length → bdH rows h → bdH rows (gv rows n i h A).2.1
  | 0, i, h, A, hi, hb => gl_bd (rec := fun _ h A => (false, h, A)) (fun _ _ _ _ hb => hb) hi _ h A hb
  | n + 1, i, h, A, hi, hb => gl_bd (rec := gv rows n) (fun o h A ho hb => gv_bd n o h A ho hb) hi _ h A hb
theorem un_mono {A B : Ask} (h : ∀ c, A c = true → B c = true) : un B ≤ un A := List.countP_mono_left fun d _ hd => by
  cases e : A d
  · rfl
  · rw [h d e] at hd; cases hd
theorem gl_sub {rec : Nat → Has → Ask → Bool × Has × Ask} (hr : ∀ o h A c, A c = true → (rec o h A).2.2 c = true) {i : Nat} : ∀ (l : List Int) (h : Has) (A : Ask) (c : Int), A c = true → (gl rec i l h A).2.2 c = true
  | [], h, A, c, hc => hc
  | d :: l, h, A, c, hc => by
    have hs : setA A d c = true := by simp [setA, hc]
    rw [gl]
    split
    · exact gl_sub hr l h A c hc
    · cases hd : h d with
      | none => exact hs
      | some o =>
        dsimp only
        split
        · exact hr o h (setA A d) c hs
        · exact gl_sub hr l _ _ c (hr o h (setA A d) c hs)
theorem gv_sub {rows : List (List Int)} : ∀ (n i : Nat) (h : Has) (A : Ask) (c : Int), A c = true → (gv rows n i h A).2.2 c = true
  | 0, i, h, A, c, hc => gl_sub (rec := fun _ h A => (false, h, A)) (fun _ _ _ _ hc => hc) _ h A c hc
  | n + 1, i, h, A, c, hc => gl_sub (rec := gv rows n) (fun o h A c hc => gv_sub n o h A c hc) _ h A c hc
theorem gives_step (rows : List (List Int)) (hv : okR rows) (hn : rows.length < 2 ^ 40) (hl : ∀ r ∈ rows, r.length < 2 ^ 40) (n : Nat) (rec : Nat → Has → Ask → Bool × Has × Ask)
    (hbd : ∀ o h A, o < rows.length → bdH rows h → bdH rows (rec o h A).2.1) (hsub : ∀ o h A c, A c = true → (rec o h A).2.2 c = true)
    (hrec : ∀ o h A, un A + 1 ≤ n → o < rows.length → bdH rows h → Con Tryd.prog gl0 gvC [I o, .mp 4] 5 (gH rows h A) (gQ rows (rec o h A)))
    (i : Nat) (h : Has) (A : Ask) (hu : un A ≤ n) (hi : i < rows.length) (hb : bdH rows h) : Con Tryd.prog gl0 gvC [I i, .mp 4] 5 (gH rows h A) (gQ rows (gl rec i (rows.getD i []) h A)) := by
  have gk : (List.map eRw rows).getD i [] = eRw (rows.getD i []) := getD_map _ _ _ hi
  have h8 := getD_row hv i
  have hlen : (rows.getD i []).length < 2 ^ 40 := by
    rw [List.getD, List.getElem?_eq_getElem hi]; exact hl _ (List.getElem_mem _)
  generalize rows.getD i [] = row at *
  rw [eRw] at gk
  refine Con.clo Tryd.ok117 (nt := 44) (res := [.tmp 7]) Tryd.mixed Tryd.func117 rfl rfl rfl rfl fun κ xc hκ => hκ.run 300 ?_
  simp (disch := omega) only [push_cast, simprocAttr, gk]
  (repeat (refine ⟨by first | omega | (refine ⟨?_, ?_⟩ <;> omega) | trivial | (simp; done) | decide +kernel, fun _ => ?_⟩))
  refine Sat.less (Sat.loop (γ := Nat × Has × Ask) (fun g => ([(17, I g.1), (16, I row.length), (15, Is row), (0, I i), (1, .mp 4), (2, .ptr 0 0 0 0), (3, .ptr 1 0 0 0), (4, .ptr 2 0 0 0)], gH rows g.2.1 g.2.2, 5)) (fun g => row.length - g.1)
    (fun g => g.1 ≤ row.length ∧ bdH rows g.2.1 ∧ un g.2.2 ≤ n ∧ gl rec i (row.drop g.1) g.2.1 g.2.2 = gl rec i row h A) ?round (0, h, A) ⟨Nat.zero_le _, hb, hu, rfl⟩) (by repeat' (first | exact EnvSub.nil _ | exact HeapSub.nil _ | refine EnvSub.cons rfl ?_ | refine HeapSub.cons rfl ?_ | (refine EnvSub.cons (by simp [Env.get]; done) ?_) | (refine HeapSub.cons (by simp [Heap.get]; done) ?_))) (by repeat' (first | exact EnvSub.nil _ | exact HeapSub.nil _ | refine EnvSub.cons rfl ?_ | refine HeapSub.cons rfl ?_ | (refine EnvSub.cons (by simp [Env.get]; done) ?_) | (refine HeapSub.cons (by simp [Heap.get]; done) ?_)))
  case round =>
    rintro ⟨k, h1, A1⟩ ⟨hk, hb1, hu1, hg⟩ ih
    dsimp only at hk hb1 hu1 hg ih ⊢
    by_cases hkl : k < row.length
    · have q1 : ((k : Int) < row.length) = True := by first | (simp only [eq_iff_iff, iff_true]; first | assumption | omega) | (simp; omega)
      have gj : (List.map (eI .i64) row).getD k [] = eI .i64 (row.getD k default) := getD_map _ _ _ hkl
      have hdk : row.drop k = row.getD k default :: row.drop (k + 1) := by
        rw [List.drop_eq_getElem_cons hkl, List.getD, List.getElem?_eq_getElem hkl]; rfl
      have hc8 := h8 _ (getD_mem' hkl)
      rw [hdk, gl] at hg
      have hz := fun h A x y z => ih (k + 1, h, A) ⟨by omega, x, y, z⟩ (by dsimp only; omega)
      dsimp only at hz
      clear ih
      generalize row.getD k default = c at *
      by_cases hA : A1 c = true
      · rw [if_pos hA] at hg
        have hz := hz h1 A1 hb1 hu1 hg
        have la : askF A1 [c] = some (Bo true) := if_pos hA
        refine hκ.run 300 ?_
        simp (disch := omega) only [push_cast, simprocAttr, q1, gj, la]
        (repeat (refine ⟨by first | omega | (refine ⟨?_, ?_⟩ <;> omega) | trivial | (simp; done) | decide +kernel, fun _ => ?_⟩))
        exact hz.less (by repeat' (first | exact EnvSub.nil _ | exact HeapSub.nil _ | refine EnvSub.cons rfl ?_ | refine HeapSub.cons rfl ?_ | (refine EnvSub.cons (by simp [Env.get]; done) ?_) | (refine HeapSub.cons (by simp [Heap.get]; done) ?_))) (by repeat' (first | exact EnvSub.nil _ | exact HeapSub.nil _ | refine EnvSub.cons rfl ?_ | refine HeapSub.cons rfl ?_ | (refine EnvSub.cons (by simp [Env.get]; done) ?_) | (refine HeapSub.cons (by simp [Heap.get]; done) ?_)))
      · rw [if_neg hA] at hg
        have hA : A1 c = false := by simpa using hA
        have la : askF A1 [c] = none := by simp [askF, hA]
        have hun := un_set hc8 hA
        cases hh : h1 c with
        | none =>
          have lh : hasF h1 [c] = none := by simp [hasF, hh]
          rw [hh] at hg
          dsimp only at hg
          rw [← hg] at hκ
          refine hκ.run 300 ?_
          simp (disch := omega) only [push_cast, simprocAttr, q1, gj, la, lh]
          (repeat (refine ⟨by first | omega | (refine ⟨?_, ?_⟩ <;> omega) | trivial | (simp; done) | decide +kernel, fun _ => ?_⟩))
          rw [hasF_set, askF_set]
          refine hκ.ret _ _ _ _ _ _ trivial rfl ?_
          exact Post.same ⟨rfl, rfl, rfl⟩ (fun _ _ h => h)
        | some o =>
          have lh : hasF h1 [c] = some (I o) := by simp [hasF, hh]
          rw [hh] at hg
          dsimp only at hg
          have cr := hrec o h1 (setA A1 c) (by omega) (hb1 c o hh) hb1
          have hqb := hbd o h1 (setA A1 c) (hb1 c o hh) hb1
          have hqs := hsub o h1 (setA A1 c)
          have hqu : un (rec o h1 (setA A1 c)).2.2 ≤ un (setA A1 c) := un_mono hqs
          generalize rec o h1 (setA A1 c) = q at *
          refine hκ.run 300 ?_
          simp (disch := omega) only [push_cast, simprocAttr, q1, gj, la, lh]
          (repeat (refine ⟨by first | omega | (refine ⟨?_, ?_⟩ <;> omega) | trivial | (simp; done) | decide +kernel, fun _ => ?_⟩))
          rw [askF_set]
          refine Does.fn hκ.hP hκ.hgl 5 (fun i => i) [0, 1, 2, 3, 4] _ [I o, .mp 4] (gH rows h1 (setA A1 c)) cr (by simp [SV.ren, SV.renL]) (by simp [SV.ren, SV.renL]) (by simp [SV.bnd, SV.bndL]) (by simp [SV.bnd, SV.bndL]) (fun i hi => by omega) (fun i j _ _ h => h) (by repeat' (first | exact HeapIn.nil | refine HeapIn.cons (by decide) (by simp [Blk.bnd, SV.bnd, SV.bndL]) (by simp) (by first | rfl | simp [Blk.ren, SV.ren, SV.renL, Heap.get]) ?_)) ?_
          rintro r H n' ⟨rfl, rfl, rfl⟩
          refine ⟨(by repeat' (first | exact Once.nil | refine Once.cons (by simp) ?_)), fun _ => ?_⟩
          have er : renH (tau 5 5 fun i => i) (gH rows q.2.1 q.2.2) = gH rows q.2.1 q.2.2 := by simp [renH, Blk.ren, SV.renL, SV.ren, tau]
          rw [er]
          simp only [without, List.mem_cons, List.mem_singleton, List.not_mem_nil, or_false, or_true, true_or, ↓reduceIte, List.append_nil]
          cases hq : q.1
          · rw [hq, if_neg (by decide)] at hg
            have hz := hz q.2.1 q.2.2 hqb (by omega) hg
            simp (disch := omega) only [push_cast, simprocAttr, SV.ren, q1, gj, la, lh]
            refine hκ.run 300 ?_
            simp (disch := omega) only [push_cast, simprocAttr, q1, gj, la, lh]
            exact hz.less (by repeat' (first | exact EnvSub.nil _ | exact HeapSub.nil _ | refine EnvSub.cons rfl ?_ | refine HeapSub.cons rfl ?_ | (refine EnvSub.cons (by simp [Env.get]; done) ?_) | (refine HeapSub.cons (by simp [Heap.get]; done) ?_))) (by repeat' (first | exact EnvSub.nil _ | exact HeapSub.nil _ | refine EnvSub.cons rfl ?_ | refine HeapSub.cons rfl ?_ | (refine EnvSub.cons (by simp [Env.get]; done) ?_) | (refine HeapSub.cons (by simp [Heap.get]; done) ?_)))
          · rw [hq, if_pos rfl] at hg
            rw [← hg] at hκ
            simp (disch := omega) only [push_cast, simprocAttr, SV.ren, q1, gj, la, lh]
            refine hκ.run 300 ?_
            simp (disch := omega) only [push_cast, simprocAttr, q1, gj, la, lh]
            rw [hasF_set]
            refine hκ.ret _ _ _ _ _ _ trivial rfl ?_
            exact Post.same ⟨rfl, rfl, rfl⟩ (fun _ _ h => h)
    · obtain rfl : k = row.length := by omega
      rw [List.drop_length, gl] at hg
      rw [← hg] at hκ
      have q1 : ((row.length : Int) < row.length) = False := by first | (simp only [eq_iff_iff, iff_false]; first | assumption | omega) | (simp; omega)
      refine hκ.run 300 ?_
      simp (disch := omega) only [push_cast, simprocAttr, q1]
      refine hκ.ret _ _ _ _ _ _ trivial rfl ?_
      exact Post.same ⟨rfl, rfl, rfl⟩ (fun _ _ h => h)
theorem gives_ok (rows : List (List Int)) (hv : okR rows) (hn : rows.length < 2 ^ 40) (hl : ∀ r ∈ rows, r.length < 2 ^ 40) : ∀ (n i : Nat) (h : Has) (A : Ask), un A ≤ n → i < rows.length → bdH rows h →
    Con Tryd.prog gl0 gvC [I i, .mp 4] 5 (gH rows h A) (gQ rows (gv rows n i h A))
  | 0, i, h, A, hu, hi, hb => gives_step rows hv hn hl 0 (fun _ h A => (false, h, A)) (fun _ _ _ _ hb => hb) (fun _ _ _ _ hc => hc) (fun o h A hx => absurd hx (by omega)) i h A hu hi hb
  | n + 1, i, h, A, hu, hi, hb => gives_step rows hv hn hl (n + 1) (gv rows n) (fun o h A ho hb => gv_bd n o h A ho hb) (fun o h A c hc => gv_sub n o h A c hc) (fun o h A hx ho hb => gives_ok rows hv hn hl n o h A (by omega) ho hb) i h A hu hi hb
theorem matching_ok (rows : List (List Int)) (hv : okR rows) (hn : rows.length < 2 ^ 40) (hl : ∀ r ∈ rows, r.length < 2 ^ 40) : Con Tryd.prog gl0 (fnv 106) [Rws rows] 0 [] (Ret (Bo (matchB rows))) := by
  have h0 : (fun _ : List Int => (none : Option SV)) = hasF fun _ => none := by
    funext q
    match q with
    | [] => rfl
    | [_] => rfl
    | _ :: _ :: _ => rfl
  have a0 : (fun _ : List Int => (none : Option SV)) = askF fun _ => false := by
    funext q
    match q with
    | [] => rfl
    | [_] => rfl
    | _ :: _ :: _ => rfl
  have hM : matchB rows = mtF rows rows.length 0 fun _ => none := rfl
  refine Con.of Tryd.ok106 (nt := 19) (res := [.tmp 2]) Tryd.mixed Tryd.func106 rfl rfl rfl rfl fun κ xc hκ => hκ.run 300 ?_
  simp (disch := omega) only [push_cast, simprocAttr]
  refine Sat.less (Sat.loop (γ := Nat × Has) (fun g => ([(10, I g.1), (9, I rows.length), (4, .ptr 3 0 0 0), (1, .ptr 0 0 0 0)], [(0, .own [Rws rows] 110), (1, .map false [.i64] (hasF g.2)), (2, .own [.mp 1] 155), (3, .own [.fn (.func 117) [] [.ptr 0 0 0 0, .ptr 2 0 0 0, .ptr 3 0 0 0]] 156)], 4)) (fun g => rows.length - g.1)
    (fun g => g.1 ≤ rows.length ∧ bdH rows g.2 ∧ mtF rows (rows.length - g.1) g.1 g.2 = matchB rows) ?round (0, fun _ => none) ⟨Nat.zero_le _, (fun _ _ h => nomatch h), hM.symm⟩) (by repeat' (first | exact EnvSub.nil _ | exact HeapSub.nil _ | refine EnvSub.cons rfl ?_ | refine HeapSub.cons rfl ?_ | (refine EnvSub.cons (by simp [Env.get]; done) ?_) | (refine HeapSub.cons (by simp [Heap.get]; done) ?_))) (by rw [← h0]; exact (by repeat' (first | exact EnvSub.nil _ | exact HeapSub.nil _ | refine EnvSub.cons rfl ?_ | refine HeapSub.cons rfl ?_ | (refine EnvSub.cons (by simp [Env.get]; done) ?_) | (refine HeapSub.cons (by simp [Heap.get]; done) ?_))))
  case round =>
    rintro ⟨k, h⟩ ⟨hk, hb, hm⟩ ih
    dsimp only at hk hb hm ih ⊢
    by_cases hkl : k < rows.length
    · have q1 : ((k : Int) < rows.length) = True := by first | (simp only [eq_iff_iff, iff_true]; first | assumption | omega) | (simp; omega)
      obtain ⟨m, hm2⟩ : ∃ m, rows.length - k = m + 1 := ⟨rows.length - k - 1, by omega⟩
      have hm3 : rows.length - (k + 1) = m := by omega
      rw [hm2, mtF] at hm
      have cr := gives_ok rows hv hn hl 8 k h (fun _ => false) (by decide) hkl hb
      have hqb := gv_bd 8 k h (fun _ => false) hkl hb
      have hz := fun h x y => ih (k + 1, h) ⟨by omega, x, y⟩ (by dsimp only; omega)
      dsimp only at hz
      rw [hm3] at hz
      clear ih
      generalize gv rows 8 k h (fun _ => false) = q at *
      refine hκ.run 300 ?_
      simp (disch := omega) only [push_cast, simprocAttr, q1]
      rw [a0]
      refine Does.fn hκ.hP hκ.hgl 5 (fun i => if i = 1 then 2 else if i = 2 then 3 else if i = 3 then 1 else i) [0, 1, 2, 3, 4] gvC [I k, .mp 4] (gH rows h fun _ => false) cr (by simp [SV.ren, SV.renL]) (by simp [SV.ren, SV.renL]) (by simp [SV.bnd, SV.bndL]) (by simp [SV.bnd, SV.bndL]) (fun i hi => by (try dsimp only); (repeat' split) <;> omega) (fun i j hi hj h => by (try dsimp only at h); revert h; (repeat' split) <;> omega) (by repeat' (first | exact HeapIn.nil | refine HeapIn.cons (by decide) (by simp [Blk.bnd, SV.bnd, SV.bndL]) (by simp) (by first | rfl | simp [Blk.ren, SV.ren, SV.renL, Heap.get]) ?_)) ?_
      rintro r H n' ⟨rfl, rfl, rfl⟩
      refine ⟨(by repeat' (first | exact Once.nil | refine Once.cons (by simp) ?_)), fun _ => ?_⟩
      have er : renH (tau 5 5 fun i => if i = 1 then 2 else if i = 2 then 3 else if i = 3 then 1 else i) (gH rows q.2.1 q.2.2) = [(0, .own [Rws rows] 110), (2, .own [.mp 1] 155), (3, .own [.fn (.func 117) [] [.ptr 0 0 0 0, .ptr 2 0 0 0, .ptr 3 0 0 0]] 156), (1, .map false [.i64] (hasF q.2.1)), (4, .map false [.i64] (askF q.2.2))] := by simp [renH, Blk.ren, SV.renL, SV.ren, tau]
      rw [er]
      simp only [without, List.mem_cons, List.mem_singleton, List.not_mem_nil, or_false, or_true, true_or, ↓reduceIte, List.append_nil]
      cases hq : q.1
      · rw [hq, if_neg (by decide)] at hm
        rw [← hm] at hκ
        simp (disch := omega) only [push_cast, simprocAttr, SV.ren, q1]
        refine hκ.run 300 ?_
        simp (disch := omega) only [push_cast, simprocAttr, q1]
        refine hκ.ret _ _ _ _ _ _ trivial rfl ?_
        exact .ret trivial
      · rw [hq, if_pos rfl] at hm
        have hz := hz q.2.1 hqb hm
        simp (disch := omega) only [push_cast, simprocAttr, SV.ren, q1]
        refine hκ.run 300 ?_
        simp (disch := omega) only [push_cast, simprocAttr, q1]
        refine Sat.via (fun i => i) (hz) (by intro i j; (repeat (first | omega | split))) (by repeat' (first | exact EnvVia.nil | refine EnvVia.cons (by first | trivial | decide | (simp [SV.bnd, SV.bndL]; done)) rfl ?_)) (by repeat' (first | exact HeapVia.nil | refine HeapVia.cons (by decide) (by first | trivial | exact Blk.bnd_own0 (by assumption) | (simp [Blk.bnd, SV.bnd, SV.bndL]; done) | exact bndL_mapV _ _ _ | exact LR.bnd (by rw [l2]; simp [bndE, SV.bnd, SV.bndL]) (by rw [l6]; decide)) (by first | (rw [Blk.ren_own0 (by assumption)]; rfl) | rfl | (simp only [Blk.ren, renL_mapV]; rfl) | (rw [LR.ren (by rw [l2] <;> rfl) (by rw [l6] <;> rfl)]; rfl)) ?_)) ⟨by have := hκ.hm; (try dsimp only at this); (first | done | omega), fun i hi => by have := hκ.hm; (try dsimp only at this); (first | omega | (dsimp only; omega) | (rw [if_neg (by omega)]))⟩ ⟨by simp, rfl⟩
    · have hkk : rows.length - k = 0 := by omega
      rw [hkk, mtF] at hm
      rw [← hm] at hκ
      have q1 : ((k : Int) < rows.length) = False := by first | (simp only [eq_iff_iff, iff_false]; first | assumption | omega) | (simp; omega)
      refine hκ.run 300 ?_
      simp (disch := omega) only [push_cast, simprocAttr, q1]
      refine hκ.ret _ _ _ _ _ _ trivial rfl ?_
      exact .ret trivial
end Go.Proofs.YtnjgmjcokcfmkaaDoor
