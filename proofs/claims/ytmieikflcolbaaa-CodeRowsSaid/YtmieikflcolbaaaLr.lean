/- CodeRows: the walk of the law. No condition. -/
import Derived.Test.YtmieikflcolbaaaVj
import Derived.Test.YtmieikflcolbaaaIr
import Derived.Test.YtmieikflcolbaaaRk
namespace Go.Proofs.Ytmieikflcolbaaa
open Go Go.Sy
set_option maxRecDepth 100000
set_option linter.unusedSimpArgs false
set_option linter.unusedVariables false
set_option maxHeartbeats 8000000
def eBy (b : List Int) : List SV := [By b]
abbrev Bys (l : List (List Int)) : SV := .rd 1 (l.map eBy)
theorem getD_mem' {α : Type} [Inhabited α] {l : List α} {k : Nat} (h : k < l.length) : l.getD k default ∈ l := by
  rw [List.getD, List.getElem?_eq_getElem h]; exact List.getElem_mem _
theorem rowB_Y (l : List Evt) : isY (rowB l) := by
  rw [rowB]
  split
  · intro b hb
    rcases List.mem_append.1 hb with hb | hb
    · exact bytesF2_Y _ b hb
    · exact flat_Y l b hb
  · intro b hb; cases hb
theorem evL_wf {b : List Int} (hb : isY b) : (∀ a ∈ evL b, wf a) ∧ (evL b).length < 2 ^ 46 := by
  by_cases h : evE b = 0
  · obtain ⟨h1, h2, -⟩ := of_events hb h
    exact ⟨fun a ha => (h1 a ha).1, by omega⟩
  · rw [evL, if_neg h]
    exact ⟨(fun a ha => nomatch ha), by decide⟩
theorem lim_le (more : Int) : IntKind.i64.wrap (IntKind.i64.wrap (2000 + (IntKind.i64.wrap (more.tmod 3 + 3)).tmod 3) - 1) ≤ 2001 := by
  have h1 : -2 ≤ more.tmod 3 ∧ more.tmod 3 ≤ 2 := by
    rcases Int.le_total 0 more with h | h
    · rw [Int.tmod_eq_emod_of_nonneg h]; omega
    · have e : more.tmod 3 = -((-more).tmod 3) := by rw [Int.neg_tmod, Int.neg_neg]
      rw [e, Int.tmod_eq_emod_of_nonneg (show 0 ≤ -more by omega)]; omega
  rw [wrap_i64 (x := more.tmod 3 + 3) (by omega) (by omega), Int.tmod_eq_emod_of_nonneg (show 0 ≤ more.tmod 3 + 3 by omega)]
  have h2 : 0 ≤ (more.tmod 3 + 3) % 3 ∧ (more.tmod 3 + 3) % 3 ≤ 2 := by omega
  generalize (more.tmod 3 + 3) % 3 = z at *
  rw [wrap_i64 (x := 2000 + z) (by omega) (by omega), wrap_i64 (by omega) (by omega)]
  omega
theorem rows_law (l : List Evt) (rs : List (List Int)) (more : Int) (hl : ∀ a ∈ l, wf0 a) (hn : l.length < 2 ^ 46) (hr : ∀ b ∈ rs, isY b ∧ b.length < 2 ^ 47) (hn2 : rs.length < 2 ^ 62) (hm : -2 ^ 63 ≤ more ∧ more < 2 ^ 63) : Law Try.prog gl0 7 [Es l, Bys rs, I more] := by
  refine Law.of (nt := 159) (res := [.tmp 6]) Try.mixed Try.func7 rfl rfl rfl rfl fun κ xc hκ => hκ.run 300 ?_
  simp (disch := omega) only [push_cast, simprocAttr, tec, lec, oec, oec2, ones_ec]
  refine Does.ret hκ.hP hκ.hgl wakes_ok ⟨trivial, by first | (simp [SV.bnd, SV.bndL]; done) | (simp [SV.bnd, SV.bndL, ec_bnd]; done), by first | (simp [SV.bnd, SV.bndL]; done) | (simp [SV.bnd, SV.bndL, ec_bnd]; done) | assumption⟩ ?_
  refine hκ.runA 4 300 ?_
  simp (disch := omega) only [push_cast, simprocAttr, tec, lec, oec, oec2, ones_ec]
  refine Sat.nilRow 7 29 37 rfl ?_
  apply Sat.join (κ := κ) (x := xc) (α := List Evt × Nat) (nx := 1) (dfs := []) (fun g => (∀ a ∈ g.1, wf a) ∧ g.1.length ≤ 20 ∧ g.1.length ≤ g.2)
    (fun g => ([(7, .sl 0 29 0 g.1.length g.2), (2, I more), (1, Bys rs)], [(0, RwE g.1 g.2)]))
  · intro hj
    refine hκ.runA 10 300 ?_
    simp (disch := omega) only [push_cast, simprocAttr, tec, lec, oec, oec2, ones_ec]
    refine Sat.less (Sat.loop (γ := Nat × List Evt × Nat) (fun g => ([(29, I g.1), (28, I l.length), (27, Es l), (7, .sl 0 29 0 g.2.1.length g.2.2), (2, I more), (1, Bys rs)], [(0, RwE g.2.1 g.2.2)], 1))
      (fun g => l.length - g.1) (fun g => g.1 ≤ l.length ∧ (∀ a ∈ g.2.1, wf a) ∧ g.2.1.length ≤ g.1 ∧ g.2.1.length ≤ 20 ∧ g.2.1.length ≤ g.2.2) ?round (0, [], 0) ⟨Nat.zero_le _, (fun a ha => nomatch ha), Nat.le_refl _, Nat.zero_le _, Nat.le_refl _⟩) (by repeat' (first | exact EnvSub.nil _ | exact HeapSub.nil _ | refine EnvSub.cons rfl ?_ | refine HeapSub.cons rfl ?_ | (refine EnvSub.cons (by simp [Env.get]; done) ?_) | (refine HeapSub.cons (by simp [Heap.get]; done) ?_))) (by repeat' (first | exact EnvSub.nil _ | exact HeapSub.nil _ | refine EnvSub.cons rfl ?_ | refine HeapSub.cons rfl ?_ | (refine EnvSub.cons (by simp [Env.get]; done) ?_) | (refine HeapSub.cons (by simp [Heap.get]; done) ?_)))
    case round =>
      rintro ⟨k, pre, cp⟩ ⟨hk, hok, hpk, hp20, hcp⟩ ih
      dsimp only at hk hok hpk hp20 hcp ih ⊢
      have hy := hj (pre, cp) ⟨hok, hp20, hcp⟩
      dsimp only at hy
      by_cases hkl : k < l.length
      · have q1 : ((k : Int) < l.length) = True := by first | (simp only [eq_iff_iff, iff_true]; first | assumption | omega) | (simp; omega)
        have gk : (List.map ec l).getD k [] = ec (l.getD k default) := getD_map _ _ _ hkl
        have hw := hl _ (getD_mem' hkl)
        generalize l.getD k default = x at *
        by_cases h20 : k < 20
        · have q2 : ((k : Int) < 20) = True := by first | (simp only [eq_iff_iff, iff_true]; first | assumption | omega) | (simp; omega)
          have f1 := few_okw x hw
          have wa := wf_few hw
          generalize few x = a at *
          have te : List.take 29 (ec a) = ec a := rfl
          have tf : idFrees (ec a) = true := rfl
          have hz := fun d g => ih (k + 1, pre ++ [a], d) ⟨by dsimp only; omega, by
            intro y hy
            rcases List.mem_append.1 hy with hy | hy
            · exact hok y hy
            · rw [List.mem_singleton.1 hy]; exact wa, by simp; omega, by simp; omega, g⟩ (by dsimp only; omega)
          dsimp only at hz
          clear ih hy hj
          have et1 : List.take pre.length (List.map ec pre) = List.map ec pre := List.take_of_length_le (by simp)
          refine hκ.runA 10 300 ?_
          simp (disch := omega) only [push_cast, simprocAttr, q1, gk, q2, te, tf, et1, tec, lec, oec, oec2, ones_ec]
          (repeat (refine ⟨by first | omega | (refine ⟨?_, ?_⟩ <;> omega) | trivial | (simp; done) | decide +kernel, fun _ => ?_⟩))
          refine Does.ret hκ.hP hκ.hgl f1 ⟨trivial, by first | (simp [SV.bnd, SV.bndL]; done) | (simp [SV.bnd, SV.bndL, ec_bnd]; done), by first | (simp [SV.bnd, SV.bndL]; done) | (simp [SV.bnd, SV.bndL, ec_bnd]; done) | assumption⟩ ?_
          refine hκ.runA 10 300 ?_
          simp (disch := omega) only [push_cast, simprocAttr, q1, gk, q2, te, tf, et1, tec, lec, oec, oec2, ones_ec]
          refine ⟨⟨Nat.le_refl _, by omega, by omega⟩, fun _ => ?_⟩
          intro c
          have hy := hz (pre.length + 1 + c) (by simp)
          simp only [RwE] at hy
          simp only [List.length_append, List.length_cons, List.length_nil, List.length_singleton, List.length_map, List.length_set, List.length_replicate, Nat.zero_add, Nat.add_zero, Int.natCast_add, Int.natCast_one, Int.ofNat_eq_natCast, List.map_append, List.map_cons, List.map_nil, List.take_length, eI, eB] at hy ⊢
          refine Sat.via (fun i => if i = 0 then 3 else i) (hy) (by intro i j; (repeat (first | omega | split))) (by repeat' (first | exact EnvVia.nil | refine EnvVia.cons (by first | trivial | decide | (simp [SV.bnd, SV.bndL]; done)) rfl ?_)) (by repeat' (first | exact HeapVia.nil | refine HeapVia.cons (by decide) (by first | trivial | exact Blk.bnd_own0 (by assumption) | (simp [Blk.bnd, SV.bnd, SV.bndL]; done) | exact bndL_mapV _ _ _ | exact LR.bnd (by rw [l2]; simp [bndE, SV.bnd, SV.bndL]) (by rw [l6]; decide)) (by first | (rw [Blk.ren_own0 (by assumption)]; rfl) | rfl | (simp only [Blk.ren, renL_mapV]; rfl) | (rw [LR.ren (by rw [l2] <;> rfl) (by rw [l6] <;> rfl)]; rfl)) ?_)) ⟨by have := hκ.hm; (try dsimp only at this); (first | done | omega), fun i hi => by have := hκ.hm; (try dsimp only at this); (first | omega | (dsimp only; omega) | (rw [if_neg (by omega)]))⟩ ⟨by simp, rfl⟩
        · have q2 : ((k : Int) < 20) = False := by first | (simp only [eq_iff_iff, iff_false]; first | assumption | omega) | (simp; omega)
          have hz := ih (k + 1, pre, cp) ⟨by dsimp only; omega, hok, by dsimp only; omega, hp20, hcp⟩ (by dsimp only; omega)
          dsimp only at hz
          clear ih
          refine hκ.runA 10 300 ?_
          simp (disch := omega) only [push_cast, simprocAttr, q1, gk, q2, tec, lec, oec, oec2, ones_ec]
          (repeat (refine ⟨by first | omega | (refine ⟨?_, ?_⟩ <;> omega) | trivial | (simp; done) | decide +kernel, fun _ => ?_⟩))
          simp only [List.length_append, List.length_cons, List.length_nil, List.length_singleton, List.length_map, List.length_set, List.length_replicate, Nat.zero_add, Nat.add_zero, Int.natCast_add, Int.natCast_one, Int.ofNat_eq_natCast, List.map_append, List.map_cons, List.map_nil, List.take_length, eI, eB] at hz ⊢
          refine Sat.via (fun i => i) (hz) (by intro i j; (repeat (first | omega | split))) (by repeat' (first | exact EnvVia.nil | refine EnvVia.cons (by first | trivial | decide | (simp [SV.bnd, SV.bndL]; done)) rfl ?_)) (by repeat' (first | exact HeapVia.nil | refine HeapVia.cons (by decide) (by first | trivial | exact Blk.bnd_own0 (by assumption) | (simp [Blk.bnd, SV.bnd, SV.bndL]; done) | exact bndL_mapV _ _ _ | exact LR.bnd (by rw [l2]; simp [bndE, SV.bnd, SV.bndL]) (by rw [l6]; decide)) (by first | (rw [Blk.ren_own0 (by assumption)]; rfl) | rfl | (simp only [Blk.ren, renL_mapV]; rfl) | (rw [LR.ren (by rw [l2] <;> rfl) (by rw [l6] <;> rfl)]; rfl)) ?_)) ⟨by have := hκ.hm; (try dsimp only at this); (first | done | omega), fun i hi => by have := hκ.hm; (try dsimp only at this); (first | omega | (dsimp only; omega) | (rw [if_neg (by omega)]))⟩ ⟨by simp, rfl⟩
      · have q1 : ((k : Int) < l.length) = False := by first | (simp only [eq_iff_iff, iff_false]; first | assumption | omega) | (simp; omega)
        refine hκ.runA 10 300 ?_
        simp (disch := omega) only [push_cast, simprocAttr, q1]
        exact hy.less (by repeat' (first | exact EnvSub.nil _ | exact HeapSub.nil _ | refine EnvSub.cons rfl ?_ | refine HeapSub.cons rfl ?_ | (refine EnvSub.cons (by simp [Env.get]; done) ?_) | (refine HeapSub.cons (by simp [Heap.get]; done) ?_))) (by repeat' (first | exact EnvSub.nil _ | exact HeapSub.nil _ | refine EnvSub.cons rfl ?_ | refine HeapSub.cons rfl ?_ | (refine EnvSub.cons (by simp [Env.get]; done) ?_) | (refine HeapSub.cons (by simp [Heap.get]; done) ?_)))
  rintro ⟨pre, c0⟩ ⟨hok, h20, hcp⟩
  dsimp only at hok h20 hcp ⊢
  have same := fun (x : List Evt) => bequal_ok (rowB x) (rowB x) (isB_Y (rowB_Y x)) (isB_Y (rowB_Y x))
  simp only [decide_true] at same
  have ra := fun (x : List Evt) c hc h1 h2 => rowS_ok x c hc h1 h2
  have rb := fun (x : List Evt) c hc h1 h2 => rrowS_ok x c hc h1 h2
  refine hκ.runA 11 300 ?_
  simp (disch := omega) only [push_cast, simprocAttr, tec, lec, oec, oec2, ones_ec]
  refine (Does.look hκ.hP hκ.hgl 1 (fun _ => 0) [0] [.sl 0 29 0 pre.length c0] [(0, RwE pre c0)] (ra pre c0 hcp hok (by omega)) rfl ⟨trivial, by simp [SV.bnd, SV.bndL], by simp [SV.bnd, SV.bndL]⟩ (by intro i hi; (repeat (first | omega | (dsimp only; omega) | split))) (by intro i j; (repeat (first | omega | split))) (by repeat' (first | exact HeapIn.nil | refine HeapIn.cons (by decide) (by simp [Blk.bnd, SV.bnd, SV.bndL]) (by simp) rfl ?_)) (by repeat' (first | exact Once.nil | refine Once.cons (by simp) ?_)) ?_)
  simp only [renH, Blk.ren, SV.renL, SV.ren, tau, without, List.mem_singleton, List.mem_cons, List.not_mem_nil, or_false, or_true, true_or, Nat.reduceEqDiff, Nat.reduceLT, Nat.zero_lt_one, Nat.one_ne_zero, Nat.zero_ne_one, Nat.zero_lt_succ, ↓reduceIte, List.cons_append, List.nil_append, List.append_nil]
  refine hκ.runA 12 300 ?_
  simp (disch := omega) only [push_cast, simprocAttr, tec, lec, oec, oec2, ones_ec]
  refine (Does.look hκ.hP hκ.hgl 1 (fun _ => 0) [0] [.sl 0 29 0 pre.length c0] [(0, RwE pre c0)] (rb pre c0 hcp hok (by omega)) rfl ⟨trivial, by simp [SV.bnd, SV.bndL], by simp [SV.bnd, SV.bndL]⟩ (by intro i hi; (repeat (first | omega | (dsimp only; omega) | split))) (by intro i j; (repeat (first | omega | split))) (by repeat' (first | exact HeapIn.nil | refine HeapIn.cons (by decide) (by simp [Blk.bnd, SV.bnd, SV.bndL]) (by simp) rfl ?_)) (by repeat' (first | exact Once.nil | refine Once.cons (by simp) ?_)) ?_)
  simp only [renH, Blk.ren, SV.renL, SV.ren, tau, without, List.mem_singleton, List.mem_cons, List.not_mem_nil, or_false, or_true, true_or, Nat.reduceEqDiff, Nat.reduceLT, Nat.zero_lt_one, Nat.one_ne_zero, Nat.zero_ne_one, Nat.zero_lt_succ, ↓reduceIte, List.cons_append, List.nil_append, List.append_nil]
  refine hκ.runA 14 300 ?_
  simp (disch := omega) only [push_cast, simprocAttr, tec, lec, oec, oec2, ones_ec]
  refine Does.ret hκ.hP hκ.hgl (same pre) ⟨trivial, by first | (simp [SV.bnd, SV.bndL]; done) | (simp [SV.bnd, SV.bndL, ec_bnd]; done), by first | (simp [SV.bnd, SV.bndL]; done) | (simp [SV.bnd, SV.bndL, ec_bnd]; done) | assumption⟩ ?_
  refine hκ.runA 14 300 ?_
  simp (disch := omega) only [push_cast, simprocAttr, tec, lec, oec, oec2, ones_ec]
  apply Sat.join (κ := κ) (x := xc) (α := List Evt × Nat) (nx := 1) (dfs := []) (fun g => (∀ a ∈ g.1, wf a) ∧ g.1.length ≤ 2001 ∧ g.1.length ≤ g.2)
    (fun g => ([(7, .sl 0 29 0 g.1.length g.2), (1, Bys rs)], [(0, RwE g.1 g.2)]))
  · intro hj
    refine Sat.less (Sat.loop (γ := List Evt × Nat) (fun g => ([(7, .sl 0 29 0 g.1.length g.2), (2, I more), (1, Bys rs)], [(0, RwE g.1 g.2)], 1))
      (fun g => 2001 - g.1.length) (fun g => (∀ a ∈ g.1, wf a) ∧ g.1.length ≤ 2001 ∧ g.1.length ≤ g.2) ?ext (pre, c0) ⟨hok, by dsimp only; omega, hcp⟩) (by repeat' (first | exact EnvSub.nil _ | exact HeapSub.nil _ | refine EnvSub.cons rfl ?_ | refine HeapSub.cons rfl ?_ | (refine EnvSub.cons (by simp [Env.get]; done) ?_) | (refine HeapSub.cons (by simp [Heap.get]; done) ?_))) (by repeat' (first | exact EnvSub.nil _ | exact HeapSub.nil _ | refine EnvSub.cons rfl ?_ | refine HeapSub.cons rfl ?_ | (refine EnvSub.cons (by simp [Env.get]; done) ?_) | (refine HeapSub.cons (by simp [Heap.get]; done) ?_)))
    case ext =>
      rintro ⟨x, cp⟩ ⟨hx, hx1, hxc⟩ ih
      dsimp only at hx hx1 hxc ih ⊢
      have hy := hj (x, cp) ⟨hx, hx1, hxc⟩
      dsimp only at hy
      by_cases h0 : 0 < x.length
      · have q1 : ((0 : Int) < x.length) = True := by first | (simp only [eq_iff_iff, iff_true]; first | assumption | omega) | (simp; omega)
        refine hκ.runA 16 300 ?_
        simp (disch := omega) only [push_cast, simprocAttr, q1, tec, lec, oec, oec2, ones_ec]
        have hlim := lim_le more
        generalize IntKind.i64.wrap (IntKind.i64.wrap (2000 + (IntKind.i64.wrap (more.tmod 3 + 3)).tmod 3) - 1) = lim at *
        by_cases hlt : (x.length : Int) < lim
        · have q2 : ((x.length : Int) < lim) = True := by first | (simp only [eq_iff_iff, iff_true]; first | assumption | omega) | (simp; omega)
          have g0 : (List.map ec x).getD 0 [] = ec (x.getD 0 default) := getD_map _ _ _ h0
          have hw := hx _ (getD_mem' h0)
          generalize x.getD 0 default = a at *
          have te : List.take 29 (ec a) = ec a := rfl
          have tf : idFrees (ec a) = true := rfl
          have hz := fun d g => ih (x ++ [a], d) ⟨by
            intro y hy
            rcases List.mem_append.1 hy with hy | hy
            · exact hx y hy
            · rw [List.mem_singleton.1 hy]; exact hw, by simp; omega, g⟩ (by simp; omega)
          dsimp only at hz
          clear ih hy hj
          have et1 : List.take x.length (List.map ec x) = List.map ec x := List.take_of_length_le (by simp)
          simp (disch := omega) only [push_cast, simprocAttr, q1, q2, g0, te, tf, et1, tec, lec, oec, oec2, ones_ec]
          refine ⟨hxc, fun _ => ⟨h0, fun _ => ⟨⟨Nat.le_refl _, by omega, by omega⟩, fun _ => ?_⟩⟩⟩
          intro c
          have hy := hz (x.length + 1 + c) (by simp)
          simp only [RwE] at hy
          simp only [List.length_append, List.length_cons, List.length_nil, List.length_singleton, List.length_map, List.length_set, List.length_replicate, Nat.zero_add, Nat.add_zero, Int.natCast_add, Int.natCast_one, Int.ofNat_eq_natCast, List.map_append, List.map_cons, List.map_nil, List.take_length, eI, eB] at hy ⊢
          refine Sat.via (fun i => if i = 0 then 2 else i) (hy) (by intro i j; (repeat (first | omega | split))) (by repeat' (first | exact EnvVia.nil | refine EnvVia.cons (by first | trivial | decide | (simp [SV.bnd, SV.bndL]; done)) rfl ?_)) (by repeat' (first | exact HeapVia.nil | refine HeapVia.cons (by decide) (by first | trivial | exact Blk.bnd_own0 (by assumption) | (simp [Blk.bnd, SV.bnd, SV.bndL]; done) | exact bndL_mapV _ _ _ | exact LR.bnd (by rw [l2]; simp [bndE, SV.bnd, SV.bndL]) (by rw [l6]; decide)) (by first | (rw [Blk.ren_own0 (by assumption)]; rfl) | rfl | (simp only [Blk.ren, renL_mapV]; rfl) | (rw [LR.ren (by rw [l2] <;> rfl) (by rw [l6] <;> rfl)]; rfl)) ?_)) ⟨by have := hκ.hm; (try dsimp only at this); (first | done | omega), fun i hi => by have := hκ.hm; (try dsimp only at this); (first | omega | (dsimp only; omega) | (rw [if_neg (by omega)]))⟩ ⟨by simp, rfl⟩
        · have q2 : ((x.length : Int) < lim) = False := by first | (simp only [eq_iff_iff, iff_false]; first | assumption | omega) | (simp; omega)
          simp (disch := omega) only [push_cast, simprocAttr, q1, q2, tec, lec, oec, oec2, ones_ec]
          exact hy.less (by repeat' (first | exact EnvSub.nil _ | exact HeapSub.nil _ | refine EnvSub.cons rfl ?_ | refine HeapSub.cons rfl ?_ | (refine EnvSub.cons (by simp [Env.get]; done) ?_) | (refine HeapSub.cons (by simp [Heap.get]; done) ?_))) (by repeat' (first | exact EnvSub.nil _ | exact HeapSub.nil _ | refine EnvSub.cons rfl ?_ | refine HeapSub.cons rfl ?_ | (refine EnvSub.cons (by simp [Env.get]; done) ?_) | (refine HeapSub.cons (by simp [Heap.get]; done) ?_)))
      · have q1 : ((0 : Int) < x.length) = False := by first | (simp only [eq_iff_iff, iff_false]; first | assumption | omega) | (simp; omega)
        refine hκ.runA 16 300 ?_
        simp (disch := omega) only [push_cast, simprocAttr, q1, tec, lec, oec, oec2, ones_ec]
        exact hy.less (by repeat' (first | exact EnvSub.nil _ | exact HeapSub.nil _ | refine EnvSub.cons rfl ?_ | refine HeapSub.cons rfl ?_ | (refine EnvSub.cons (by simp [Env.get]; done) ?_) | (refine HeapSub.cons (by simp [Heap.get]; done) ?_))) (by repeat' (first | exact EnvSub.nil _ | exact HeapSub.nil _ | refine EnvSub.cons rfl ?_ | refine HeapSub.cons rfl ?_ | (refine EnvSub.cons (by simp [Env.get]; done) ?_) | (refine HeapSub.cons (by simp [Heap.get]; done) ?_)))
  rintro ⟨x, cx⟩ ⟨hx, hx1, hxc⟩
  dsimp only at hx hx1 hxc ⊢
  refine hκ.runA 17 300 ?_
  simp (disch := omega) only [push_cast, simprocAttr, tec, lec, oec, oec2, ones_ec]
  refine (Does.look hκ.hP hκ.hgl 1 (fun _ => 0) [0] [.sl 0 29 0 x.length cx] [(0, RwE x cx)] (ra x cx hxc hx (by omega)) rfl ⟨trivial, by simp [SV.bnd, SV.bndL], by simp [SV.bnd, SV.bndL]⟩ (by intro i hi; (repeat (first | omega | (dsimp only; omega) | split))) (by intro i j; (repeat (first | omega | split))) (by repeat' (first | exact HeapIn.nil | refine HeapIn.cons (by decide) (by simp [Blk.bnd, SV.bnd, SV.bndL]) (by simp) rfl ?_)) (by repeat' (first | exact Once.nil | refine Once.cons (by simp) ?_)) ?_)
  simp only [renH, Blk.ren, SV.renL, SV.ren, tau, without, List.mem_singleton, List.mem_cons, List.not_mem_nil, or_false, or_true, true_or, Nat.reduceEqDiff, Nat.reduceLT, Nat.zero_lt_one, Nat.one_ne_zero, Nat.zero_ne_one, Nat.zero_lt_succ, ↓reduceIte, List.cons_append, List.nil_append, List.append_nil]
  refine hκ.runA 18 300 ?_
  simp (disch := omega) only [push_cast, simprocAttr, tec, lec, oec, oec2, ones_ec]
  refine (Does.look hκ.hP hκ.hgl 1 (fun _ => 0) [0] [.sl 0 29 0 x.length cx] [(0, RwE x cx)] (rb x cx hxc hx (by omega)) rfl ⟨trivial, by simp [SV.bnd, SV.bndL], by simp [SV.bnd, SV.bndL]⟩ (by intro i hi; (repeat (first | omega | (dsimp only; omega) | split))) (by intro i j; (repeat (first | omega | split))) (by repeat' (first | exact HeapIn.nil | refine HeapIn.cons (by decide) (by simp [Blk.bnd, SV.bnd, SV.bndL]) (by simp) rfl ?_)) (by repeat' (first | exact Once.nil | refine Once.cons (by simp) ?_)) ?_)
  simp only [renH, Blk.ren, SV.renL, SV.ren, tau, without, List.mem_singleton, List.mem_cons, List.not_mem_nil, or_false, or_true, true_or, Nat.reduceEqDiff, Nat.reduceLT, Nat.zero_lt_one, Nat.one_ne_zero, Nat.zero_ne_one, Nat.zero_lt_succ, ↓reduceIte, List.cons_append, List.nil_append, List.append_nil]
  refine hκ.runA 20 300 ?_
  simp (disch := omega) only [push_cast, simprocAttr, tec, lec, oec, oec2, ones_ec]
  refine Does.ret hκ.hP hκ.hgl (same x) ⟨trivial, by first | (simp [SV.bnd, SV.bndL]; done) | (simp [SV.bnd, SV.bndL, ec_bnd]; done), by first | (simp [SV.bnd, SV.bndL]; done) | (simp [SV.bnd, SV.bndL, ec_bnd]; done) | assumption⟩ ?_
  refine hκ.runA 21 300 ?_
  simp (disch := omega) only [push_cast, simprocAttr, tec, lec, oec, oec2, ones_ec]
  refine Sat.less (Sat.loop (γ := Nat) (fun k => ([(116, I k), (115, I rs.length), (114, Bys rs)], [], 1)) (fun k => rs.length - k) (fun k => k ≤ rs.length) ?rows 0 (Nat.zero_le _)) (by repeat' (first | exact EnvSub.nil _ | exact HeapSub.nil _ | refine EnvSub.cons rfl ?_ | refine HeapSub.cons rfl ?_ | (refine EnvSub.cons (by simp [Env.get]; done) ?_) | (refine HeapSub.cons (by simp [Heap.get]; done) ?_))) (by repeat' (first | exact EnvSub.nil _ | exact HeapSub.nil _ | refine EnvSub.cons rfl ?_ | refine HeapSub.cons rfl ?_ | (refine EnvSub.cons (by simp [Env.get]; done) ?_) | (refine HeapSub.cons (by simp [Heap.get]; done) ?_)))
  case rows =>
    intro k hk ih
    dsimp only at hk ih ⊢
    by_cases hkl : k < rs.length
    · have q0 : ((k : Int) < rs.length) = True := by first | (simp only [eq_iff_iff, iff_true]; first | assumption | omega) | (simp; omega)
      have hz := ih (k + 1) (by omega) (by omega)
      clear ih
      have hx := hr _ (getD_mem' hkl)
      have gk : (List.map eBy rs).getD k [] = eBy (rs.getD k default) := getD_map _ _ _ (by omega)
      generalize rs.getD k default = x at gk hx
      rw [eBy] at gk
      by_cases h8 : k = 8
      · have e0 : ((k : Int) = 8) = True := by first | (simp only [eq_iff_iff, iff_true]; first | assumption | omega) | (simp; omega)
        refine hκ.run 300 ?_
        simp (disch := omega) only [push_cast, simprocAttr, e0, q0, gk]
        (repeat (refine ⟨by first | omega | (refine ⟨?_, ?_⟩ <;> omega) | trivial | (simp; done) | decide +kernel, fun _ => ?_⟩))
        refine hκ.ret _ _ _ _ _ _ trivial rfl ?_
        rfl
      have e0 : ((k : Int) = 8) = False := by first | (simp only [eq_iff_iff, iff_false]; first | assumption | omega) | (simp; omega)
      have etk : List.take (min (x.length : Int) 1200).toNat (List.map (eI .u8) x) = List.map (eI .u8) (x.take 1200) := by
        rw [List.map_take, show (min (x.length : Int) 1200).toNat = min 1200 (List.map (eI .u8) x).length by rw [List.length_map]; omega, ← List.take_take, List.take_length]
      have hyB : isY (x.take 1200) := fun b hb => hx.1 b (List.mem_of_mem_take hb)
      have hyl : (x.take 1200).length ≤ 1200 := by rw [List.length_take]; omega
      generalize x.take 1200 = y at etk hyB hyl
      have c1 := events_ok y hyB (by omega)
      have c2 := revents_ok y hyB (by omega)
      obtain ⟨w1, w2⟩ := evL_wf hyB
      have c3 := sameAll_ok (evL y) w1 w2
      have ety : List.take y.length (List.map (eI .u8) y) = List.map (eI .u8) y := List.take_of_length_le (by simp)
      refine hκ.runA 25 300 ?_
      simp (disch := omega) only [push_cast, simprocAttr, e0, q0, gk, etk, ety, tec, lec, oec, oec2, ones_ec]
      (repeat (refine ⟨by first | omega | (refine ⟨?_, ?_⟩ <;> omega) | trivial | (simp; done) | decide +kernel, fun _ => ?_⟩))
      intro cp
      refine Sat.frz [2] 18 _ rfl (by first | (simp [lendPL, lendP, lendSlP, Heap.get]; done) | (simp only [lendPL, lendP, lendSlP, Heap.get, List.mem_singleton, List.mem_cons, List.not_mem_nil, or_false, or_true, true_or, Nat.reduceEqDiff, Nat.one_ne_zero, Nat.zero_ne_one, ↓reduceIte, and_true, true_and, List.length_map, List.length_append, List.length_cons, List.length_nil, List.length_replicate]; omega)) ?_
      simp only [lendL, lendS, lendSl, Heap.get, without, List.mem_singleton, List.mem_cons, List.not_mem_nil, or_false, or_true, true_or, List.drop_zero, List.take_length, List.take_succ_cons, List.take_zero, Nat.reduceAdd, Nat.reduceEqDiff, Nat.one_ne_zero, Nat.zero_ne_one, ↓reduceIte]
      rw [ety]
      refine hκ.run 300 ?_
      simp (disch := omega) only [push_cast, simprocAttr, e0, q0, gk, etk, ety, tec, lec, oec, oec2, ones_ec]
      refine Does.ret hκ.hP hκ.hgl (c1) ⟨trivial, by first | (simp [SV.bnd, SV.bndL]; done) | (simp [SV.bnd, SV.bndL, ec_bnd]; done), by first | (simp [SV.bnd, SV.bndL]; done) | (simp [SV.bnd, SV.bndL, ec_bnd]; done) | assumption⟩ ?_
      refine hκ.run 300 ?_
      simp (disch := omega) only [push_cast, simprocAttr, e0, q0, gk, etk, ety, tec, lec, oec, oec2, ones_ec]
      (repeat (refine ⟨by first | omega | (refine ⟨?_, ?_⟩ <;> omega) | trivial | (simp; done) | decide +kernel, fun _ => ?_⟩))
      intro cq
      refine Does.frz [4] ⟨trivial, rfl⟩ (by first | (simp [lendPL, lendP, lendSlP, Heap.get]; done) | (simp only [lendPL, lendP, lendSlP, Heap.get, List.mem_singleton, List.mem_cons, List.not_mem_nil, or_false, or_true, true_or, Nat.reduceEqDiff, Nat.one_ne_zero, Nat.zero_ne_one, ↓reduceIte, and_true, true_and, List.length_map, List.length_append, List.length_cons, List.length_nil, List.length_replicate]; omega)) ?_
      simp only [lendL, lendS, lendSl, Heap.get, without, List.mem_singleton, List.mem_cons, List.not_mem_nil, or_false, or_true, true_or, List.drop_zero, List.take_length, List.take_succ_cons, List.take_zero, Nat.reduceAdd, Nat.reduceEqDiff, Nat.one_ne_zero, Nat.zero_ne_one, ↓reduceIte]
      rw [ety]
      refine Does.ret hκ.hP hκ.hgl (c2) ⟨trivial, by first | (simp [SV.bnd, SV.bndL]; done) | (simp [SV.bnd, SV.bndL, ec_bnd]; done), by first | (simp [SV.bnd, SV.bndL]; done) | (simp [SV.bnd, SV.bndL, ec_bnd]; done) | assumption⟩ ?_
      refine hκ.run 300 ?_
      simp (disch := omega) only [push_cast, simprocAttr, e0, q0, gk, etk, ety, tec, lec, oec, oec2, ones_ec]
      refine Does.ret hκ.hP hκ.hgl (c3) ⟨trivial, by first | (simp [SV.bnd, SV.bndL]; done) | (simp [SV.bnd, SV.bndL, ec_bnd]; done), by first | (simp [SV.bnd, SV.bndL]; done) | (simp [SV.bnd, SV.bndL, ec_bnd]; done) | assumption⟩ ?_
      refine hκ.run 300 ?_
      simp (disch := omega) only [push_cast, simprocAttr, e0, q0, gk, etk, ety, tec, lec, oec, oec2, ones_ec]
      refine Sat.via (fun i => i) (hz) (by intro i j; (repeat (first | omega | split))) (by repeat' (first | exact EnvVia.nil | refine EnvVia.cons (by first | trivial | decide | (simp [SV.bnd, SV.bndL]; done)) rfl ?_)) (by repeat' (first | exact HeapVia.nil | refine HeapVia.cons (by decide) (by first | trivial | exact Blk.bnd_own0 (by assumption) | (simp [Blk.bnd, SV.bnd, SV.bndL]; done) | exact bndL_mapV _ _ _ | exact LR.bnd (by rw [l2]; simp [bndE, SV.bnd, SV.bndL]) (by rw [l6]; decide)) (by first | (rw [Blk.ren_own0 (by assumption)]; rfl) | rfl | (simp only [Blk.ren, renL_mapV]; rfl) | (rw [LR.ren (by rw [l2] <;> rfl) (by rw [l6] <;> rfl)]; rfl)) ?_)) ⟨by have := hκ.hm; (try dsimp only at this); (first | done | omega), fun i hi => by have := hκ.hm; (try dsimp only at this); (first | omega | (dsimp only; omega) | (rw [if_neg (by omega)]))⟩ ⟨by simp, rfl⟩
    · have q0 : ((k : Int) < rs.length) = False := by first | (simp only [eq_iff_iff, iff_false]; first | assumption | omega) | (simp; omega)
      refine hκ.run 300 ?_
      simp (disch := omega) only [push_cast, simprocAttr, q0]
      refine hκ.ret _ _ _ _ _ _ trivial rfl ?_
      rfl
end Go.Proofs.Ytmieikflcolbaaa
