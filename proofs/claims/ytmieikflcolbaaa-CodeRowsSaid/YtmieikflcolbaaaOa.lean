/- octet's put. No condition. -/
import Derived.Test.YtmieikflcolbaaaBy
import Derived.Test.YtmieikflcolbaaaSyZ
import Derived.Test.YtmieikflcolbaaaSyO
namespace Go.Proofs.Ytmieikflcolbaaa
open Go Go.Sy
set_option maxRecDepth 100000
set_option linter.unusedSimpArgs false
set_option linter.unusedVariables false
def num (l : List Int) : Int := l.foldl (fun x c => (x * 256 + c) % 18446744073709551616) 0
theorem num_snoc (l : List Int) (c : Int) : num (l ++ [c]) = (num l * 256 + c) % 18446744073709551616 := by simp [num, List.foldl_append]
theorem num_bd (l : List Int) : 0 ≤ num l ∧ num l < 18446744073709551616 := by
  rcases List.eq_nil_or_concat l with rfl | ⟨l', c, rfl⟩
  · simp [num]
  · rw [List.concat_eq_append, num_snoc]
    exact ⟨Int.emod_nonneg _ (by decide), Int.emod_lt_of_pos _ (by decide)⟩
def bytesF : Int → Nat → List Int
  | _, 0 => []
  | x, w + 1 => x / 256 ^ w % 256 :: bytesF (x % 256 ^ w) w
theorem bytesF_length : ∀ (w : Nat) (x : Int), (bytesF x w).length = w
  | 0, _ => rfl
  | w + 1, x => by simp [bytesF, bytesF_length w]
theorem bytesF_bd : ∀ (w : Nat) (x : Int), ∀ b ∈ bytesF x w, 0 ≤ b ∧ b < 256
  | 0, _, b, h => by simp [bytesF] at h
  | w + 1, x, b, h => by
    simp only [bytesF, List.mem_cons] at h
    rcases h with rfl | h
    · exact ⟨Int.emod_nonneg _ (by decide), Int.emod_lt_of_pos _ (by decide)⟩
    · exact bytesF_bd w _ b h
theorem pw_bd : ∀ e : Nat, e ≤ 7 → 1 ≤ (256 : Int) ^ e ∧ (256 : Int) ^ e ≤ 72057594037927936 := by decide
theorem pw_shl : ∀ n : Nat, n ≤ 7 → IntKind.u64.wrap (1 * 2 ^ (8 * (n : Int)).toNat) = 256 ^ n := by decide
theorem pw_shr : ∀ n : Nat, n ≤ 7 → 1 < (256 : Int) ^ n → (256 : Int) ^ n / 256 = 256 ^ (n - 1) := by decide
theorem pw_one : ∀ n : Nat, n ≤ 7 → ¬ 1 < (256 : Int) ^ n → n = 0 := by decide
theorem div_bd {x p : Int} (h0 : 0 ≤ x) (h1 : x ≤ 18446744073709551615) (hp : 1 ≤ p) : 0 ≤ x / p ∧ x / p ≤ 18446744073709551615 ∧ x / p * p ≤ x ∧ 0 ≤ x / p * p := by
  have h2 := Int.ediv_nonneg h0 (show 0 ≤ p by omega)
  have h3 := Int.ediv_le_self p h0
  have h4 := Int.ediv_mul_le x (show p ≠ 0 by omega)
  have h5 := Int.mul_nonneg h2 (show 0 ≤ p by omega)
  omega
theorem put_ok (bs : List Int) (x0 : Int) (width : Nat) (h0 : 0 ≤ x0) (h1 : x0 ≤ 18446744073709551615) (hw : width ≤ 8) (hw1 : 1 ≤ width) (hn : bs.length < 2 ^ 45) :
    Con Try.prog gl0 (fnv 57) [By bs, .v (.int .u64 x0), .v (.int .i64 width)] 0 [] (RetRow 5 1 ((bs ++ bytesF x0 width).map (eI .u8))) := by
  refine Con.of Try.ok57 (nt := 23) (res := [.tmp 6]) Try.mixed Try.func57 rfl rfl rfl rfl fun κ x hκ => hκ.run 300 ?_
  simp (disch := omega) only [push_cast, simprocAttr]
  (repeat (refine ⟨by first | omega | (refine ⟨?_, ?_⟩ <;> omega) | trivial | (simp; done) | decide +kernel, fun _ => ?_⟩))
  have eR : List.take bs.length (List.map (eI .u8) bs) ++ List.drop (min bs.length bs.length) (List.replicate bs.length [SV.v (Value.int .u8 0)]) = List.map (eI .u8) bs := by
    rw [List.take_of_length_le (by simp), List.drop_of_length_le (by simp), List.append_nil]
  rw [eR]
  refine Does.inl hκ.hP hκ.hgl Try.ok76 (nt := 28) (res := []) Try.mixed Try.func76 rfl rfl rfl rfl fun κ' x' hκ' => hκ'.run 300 ?_
  have e8 : (8 * ((width : Int) - 1)) = 8 * ((width - 1 : Nat) : Int) := by omega
  simp (disch := omega) only [push_cast, simprocAttr, e8]
  refine ⟨by omega, fun _ => ?_⟩
  rw [pw_shl _ (by omega)]
  refine Sat.fresh 0 (by omega) (by repeat' (first | exact Once.nil | refine Once.cons (by simp) ?_)) ?_
  simp only [renE, renH, List.map_cons, List.map_nil, SV.ren, SV.renL, Blk.ren, Nat.reduceAdd, if_true, if_false, Nat.one_ne_zero, ↓reduceIte]
  refine Sat.less (Sat.loop (γ := List Int × Int × Nat) (fun g => ([(12, .v (.int .i64 g.1.length)), (11, .v (.int .i64 width)), (0, .v (.int .u64 g.2.1)), (6, .v (.int .u64 (256 ^ (width - 1 - g.1.length)))), (2, .fn (.func 77) [] [.ptr 1 0 0 0])],
      [(1, .own [.sl 2 1 0 (bs.length + g.1.length) g.2.2] 24), (2, .row 1 g.2.2 5 ((bs ++ g.1).map (eI .u8)))], 3)) (fun g => width - g.1.length)
    (fun g => g.1.length ≤ width ∧ (0 ≤ g.2.1 ∧ g.2.1 ≤ 18446744073709551615) ∧ g.1 ++ bytesF g.2.1 (width - g.1.length) = bytesF x0 width) ?round ([], x0, bs.length + width) ⟨by simp, ⟨h0, h1⟩, by simp⟩) (by repeat' (first | exact EnvSub.nil _ | exact HeapSub.nil _ | refine EnvSub.cons rfl ?_ | refine HeapSub.cons rfl ?_ | (refine EnvSub.cons (by simp [Env.get]; done) ?_) | (refine HeapSub.cons (by simp [Heap.get]; done) ?_))) (by repeat' (first | exact EnvSub.nil _ | exact HeapSub.nil _ | refine EnvSub.cons rfl ?_ | refine HeapSub.cons rfl ?_ | (refine EnvSub.cons (by simp [Env.get]; done) ?_) | (refine HeapSub.cons (by simp [Heap.get]; done) ?_)))
  case round =>
    rintro ⟨pre, r, cap⟩ ⟨hk, ⟨r0, r1⟩, hl⟩ ih
    dsimp only at hk r0 r1 hl ⊢
    refine hκ'.run 300 ?_
    obtain ⟨p1, p2⟩ := pw_bd (width - 1 - pre.length) (by omega)
    obtain ⟨d1, d2, d3, d4⟩ := div_bd r0 r1 p1
    simp (disch := omega) only [push_cast, simprocAttr]
    refine OutOK_fork (fun h => ?_) (fun h => ?_) <;> try simp only [Bool.not_true, Bool.not_false, decide_eq_true_eq, decide_eq_false_iff_not, Bool.not_eq_true', Bool.not_eq_false', Bool.and_eq_true, Bool.or_eq_false_iff, Bool.or_eq_true, Bool.and_eq_false_iff] at h
    · simp (disch := omega) only [push_cast, simprocAttr]
      refine ⟨by omega, fun _ => ?_⟩
      refine Does.inlc hκ'.hP hκ'.hgl Try.ok77 (nt := 7) (res := []) Try.mixed Try.func77 rfl rfl rfl rfl fun κ2 x2 hκ2 => hκ2.run 300 ?_
      simp (disch := omega) only [push_cast, simprocAttr]
      (repeat (refine ⟨by first | omega | (refine ⟨?_, ?_⟩ <;> omega) | trivial | (simp; done) | decide +kernel, fun _ => ?_⟩))
      intro c'
      refine hκ2.fin _ _ _ _ _ trivial rfl ?_
      refine hκ'.run 300 ?_
      have hq : (if 1 < (256 : Int) ^ (width - 1 - pre.length) then (256 : Int) ^ (width - 1 - pre.length) / 256 else 256 ^ (width - 1 - pre.length)) = 256 ^ (width - 1 - (pre.length + 1)) := by
        split
        · rename_i h; rw [pw_shr _ (by omega) h]; congr 1
        · rename_i h; have := pw_one _ (by omega) h; congr 1; omega
      have e6 : width - pre.length = (width - 1 - pre.length) + 1 := by omega
      have e7 : width - (pre.length + 1) = width - 1 - pre.length := by omega
      have hm0 := Int.emod_nonneg r (show (256 : Int) ^ (width - 1 - pre.length) ≠ 0 by omega)
      have hm1 := Int.emod_lt_of_pos r (show 0 < (256 : Int) ^ (width - 1 - pre.length) by omega)
      have et : List.take (bs.length + pre.length) (List.map (eI .u8) bs ++ List.map (eI .u8) pre) = List.map (eI .u8) bs ++ List.map (eI .u8) pre := List.take_of_length_le (by simp)
      have hz := ih (pre ++ [r / 256 ^ (width - 1 - pre.length) % 256], r % 256 ^ (width - 1 - pre.length), bs.length + pre.length + 1 + c') ⟨by simp; omega, by dsimp only; omega, by rw [← hl]; simp only [List.length_append, List.length_singleton, e6, e7, bytesF, List.append_assoc, List.singleton_append]⟩ (by simp; omega)
      simp (disch := omega) only [push_cast, simprocAttr]
      refine ⟨by omega, fun _ => ?_⟩
      refine OutOK_fork (fun h => ?_) (fun h => ?_) <;> try simp only [Bool.not_true, Bool.not_false, decide_eq_true_eq, decide_eq_false_iff_not, Bool.not_eq_true', Bool.not_eq_false', Bool.and_eq_true, Bool.or_eq_false_iff, Bool.or_eq_true, Bool.and_eq_false_iff] at h
      · rw [if_pos h] at hq
        simp (disch := omega) only [push_cast, simprocAttr]
        simp only [List.length_append, List.length_cons, List.length_nil, List.length_singleton, List.length_map, List.length_set, List.length_replicate, Nat.zero_add, Nat.add_zero, Int.natCast_add, Int.natCast_one, Int.ofNat_eq_natCast, List.map_append, List.map_cons, List.map_nil, List.take_length, eI, eB] at hz ⊢
        rw [wrap_u8_mod, et]
        rw [← hq] at hz
        simp only [← List.append_assoc] at hz
        refine Sat.via (fun i => if i = 2 then 4 else i) (hz) (by intro i j; (repeat (first | omega | split))) (by repeat' (first | exact EnvVia.nil | refine EnvVia.cons (by first | trivial | decide | (simp [SV.bnd, SV.bndL]; done)) rfl ?_)) (by repeat' (first | exact HeapVia.nil | refine HeapVia.cons (by decide) (by first | trivial | exact Blk.bnd_own0 (by assumption) | (simp [Blk.bnd, SV.bnd, SV.bndL]; done) | exact bndL_mapV _ _ _ | exact LR.bnd (by rw [l2]; simp [bndE, SV.bnd, SV.bndL]) (by rw [l6]; decide)) (by first | (rw [Blk.ren_own0 (by assumption)]; rfl) | rfl | (simp only [Blk.ren, renL_mapV]; rfl) | (rw [LR.ren (by rw [l2] <;> rfl) (by rw [l6] <;> rfl)]; rfl)) ?_)) ⟨by have := hκ'.hm; (try dsimp only at this); (first | done | omega), fun i hi => by have := hκ'.hm; (try dsimp only at this); (first | omega | (dsimp only; omega) | (rw [if_neg (by omega)]))⟩ ⟨by simp, rfl⟩
      · rw [if_neg h] at hq
        simp (disch := omega) only [push_cast, simprocAttr]
        simp only [List.length_append, List.length_cons, List.length_nil, List.length_singleton, List.length_map, List.length_set, List.length_replicate, Nat.zero_add, Nat.add_zero, Int.natCast_add, Int.natCast_one, Int.ofNat_eq_natCast, List.map_append, List.map_cons, List.map_nil, List.take_length, eI, eB] at hz ⊢
        rw [wrap_u8_mod, et]
        rw [← hq] at hz
        simp only [← List.append_assoc] at hz
        refine Sat.via (fun i => if i = 2 then 4 else i) (hz) (by intro i j; (repeat (first | omega | split))) (by repeat' (first | exact EnvVia.nil | refine EnvVia.cons (by first | trivial | decide | (simp [SV.bnd, SV.bndL]; done)) rfl ?_)) (by repeat' (first | exact HeapVia.nil | refine HeapVia.cons (by decide) (by first | trivial | exact Blk.bnd_own0 (by assumption) | (simp [Blk.bnd, SV.bnd, SV.bndL]; done) | exact bndL_mapV _ _ _ | exact LR.bnd (by rw [l2]; simp [bndE, SV.bnd, SV.bndL]) (by rw [l6]; decide)) (by first | (rw [Blk.ren_own0 (by assumption)]; rfl) | rfl | (simp only [Blk.ren, renL_mapV]; rfl) | (rw [LR.ren (by rw [l2] <;> rfl) (by rw [l6] <;> rfl)]; rfl)) ?_)) ⟨by have := hκ'.hm; (try dsimp only at this); (first | done | omega), fun i hi => by have := hκ'.hm; (try dsimp only at this); (first | omega | (dsimp only; omega) | (rw [if_neg (by omega)]))⟩ ⟨by simp, rfl⟩
    · simp (disch := omega) only [push_cast, simprocAttr]
      have e : pre = bytesF x0 width := by
        rw [← hl, show width - pre.length = 0 by omega]; simp [bytesF]
      refine hκ'.fin _ _ _ _ _ trivial rfl ?_
      refine hκ.run 300 ?_
      simp (disch := omega) only [push_cast, simprocAttr]
      refine hκ.ret _ _ _ _ _ _ trivial rfl ?_
      rw [← e]
      exact Post.row rfl (by simp)
abbrev Rdr (bs : List Int) (wk er : Int) : Blk := .own [By bs, .v (.int .i64 wk), .v (.int .i64 er)] 95
theorem Rdr.good {bs : List Int} {wk er : Int} : (Rdr bs wk er).still ∧ (Rdr bs wk er).bnd 1 := ⟨Blk.still_own (by simp [SV.bnd, SV.bndL]), by simp [Blk.bnd, SV.bnd, SV.bndL]⟩
theorem put16_ok (bs : List Int) (x0 : Int) (h0 : 0 ≤ x0) (h1 : x0 ≤ 65535) (hn : bs.length < 2 ^ 45) :
    Con Try.prog gl0 (fnv 45) [By bs, .v (.int .u16 x0)] 0 [] (RetRow 5 1 ((bs ++ bytesF x0 2).map (eI .u8))) := by
  refine Con.of Try.ok45 (nt := 9) (res := [.tmp 4]) Try.mixed Try.func45 rfl rfl rfl rfl fun κ x hκ => hκ.run 300 ?_
  simp (disch := omega) only [push_cast, simprocAttr]
  refine Does.row hκ.hP hκ.hgl (put_ok bs x0 2 (by omega) (by omega) (by omega) (by omega) hn) ⟨trivial, by simp [SV.bnd, SV.bndL]⟩ fun cap hccap => ?_
  refine hκ.run 300 ?_
  simp (disch := omega) only [push_cast, simprocAttr]
  refine hκ.ret _ _ _ _ _ _ trivial rfl ?_
  exact Post.row rfl (by simp)
theorem read_ok (bs : List Int) (hn : bs.length < 2 ^ 46) : Con Try.prog gl0 (fnv 27) [By bs] 0 [] (RetN (Rdr bs 0 0)) := by
  refine Con.of Try.ok27 (nt := 8) (res := [.tmp 2]) Try.mixed Try.func27 rfl rfl rfl rfl fun κ x hκ => hκ.run 300 ?_
  simp (disch := omega) only [push_cast, simprocAttr]
  (repeat (refine ⟨by first | omega | (refine ⟨?_, ?_⟩ <;> omega) | trivial | (simp; done) | decide +kernel, fun _ => ?_⟩))
  intro c
  refine hκ.ret _ _ _ _ _ _ trivial rfl ?_
  have e : List.take bs.length (List.map (eI .u8) bs) = List.map (eI .u8) bs := List.take_of_length_le (by simp)
  refine Post.frzOwn [0] 1 _ _ rfl (by simp) (by simp [lendPL, lendP, lendSlP, dropL, Heap.get]; intro h1 h2; subst h2; simp at h1; omega) ?_
  simp only [dropL, lendL, lendS, lendSl, Heap.get, Heap.set, without, List.mem_singleton, List.drop_zero, e, Nat.one_ne_zero, ↓reduceIte]
  exact Post.via 1 (fun _ => 1) (.ptr 0 0 0 0) [(0, Rdr bs 0 0)] ⟨rfl, rfl, rfl⟩ rfl (Nat.lt_succ_self 0) (fun a b _ _ _ => by omega) (.cons (Nat.lt_succ_self 0) Rdr.good.2 (by rw [Rdr.good.1]; rfl) .nil) ⟨Nat.zero_le _, fun a h => absurd h (Nat.not_lt_zero a)⟩
theorem err_ok (bs : List Int) (wk er : Int) : Con Try.prog gl0 (fnv 53) [.ptr 0 0 0 0] 1 [(0, Rdr bs wk er)] (RetK (.v (.int .i64 er)) (Rdr bs wk er)) := by
  refine Con.of Try.ok53 (nt := 9) (res := [.tmp 2]) Try.mixed Try.func53 rfl rfl rfl rfl fun κ x hκ => hκ.run 300 ?_
  simp (disch := omega) only [push_cast, simprocAttr]
  refine hκ.ret _ _ _ _ _ _ trivial rfl ?_
  exact Post.keep trivial Rdr.good.1 Rdr.good.2 rfl
theorem ahead_ok (bs : List Int) (wk : Nat) (er : Int) (hw : wk ≤ bs.length) : Con Try.prog gl0 (fnv 54) [.ptr 0 0 0 0] 1 [(0, Rdr bs wk er)] (RetK (By (bs.drop wk)) (Rdr bs wk er)) := by
  refine Con.of Try.ok54 (nt := 12) (res := [.tmp 2]) Try.mixed Try.func54 rfl rfl rfl rfl fun κ x hκ => hκ.run 300 ?_
  simp (disch := omega) only [push_cast, simprocAttr]
  refine ⟨by decide +kernel, fun _ => ⟨by omega, fun _ => ?_⟩⟩
  simp only [← List.map_drop]
  refine hκ.ret _ _ _ _ _ _ trivial rfl ?_
  exact Post.keep trivial Rdr.good.1 Rdr.good.2 rfl
theorem left_ok (bs : List Int) (wk : Nat) (er : Int) (hw : wk ≤ bs.length) (hn : bs.length < 2 ^ 46) : Con Try.prog gl0 (fnv 30) [.ptr 0 0 0 0] 1 [(0, Rdr bs wk er)] (RetK (.v (.int .i64 (bs.length - wk))) (Rdr bs wk er)) := by
  refine Con.of Try.ok30 (nt := 10) (res := [.tmp 2]) Try.mixed Try.func30 rfl rfl rfl rfl fun κ x hκ => hκ.run 300 ?_
  simp (disch := omega) only [push_cast, simprocAttr]
  refine Does.keep hκ.hP hκ.hgl 0 [.ptr 0 0 0 0] (ahead_ok bs wk er hw) rfl ⟨trivial, by first | (simp [SV.bnd, SV.bndL]; done) | (simp [SV.bnd, SV.bndL, ec_bnd]; done), by first | (simp [SV.bnd, SV.bndL]; done) | (simp [SV.bnd, SV.bndL, ec_bnd]; done) | assumption⟩ ⟨Rdr.good.1, Rdr.good.2, Rdr.good.1⟩ rfl (by first | omega | (dsimp only; omega)) ?_
  refine hκ.run 300 ?_
  simp (disch := omega) only [push_cast, simprocAttr]
  have e : ((List.drop wk bs).length : Int) = bs.length - wk := by simp; omega
  rw [e]
  refine hκ.ret _ _ _ _ _ _ trivial rfl ?_
  exact Post.keep trivial Rdr.good.1 Rdr.good.2 rfl
def numR (bs : List Int) (wk : Nat) (er : Int) (width : Nat) : Int := if er = 0 ∧ wk + width ≤ bs.length then num ((bs.drop wk).take width) else 0
def wkR (bs : List Int) (wk : Nat) (er : Int) (width : Nat) : Nat := if er = 0 ∧ wk + width ≤ bs.length then wk + width else wk
def erR (bs : List Int) (wk : Nat) (er : Int) (width : Nat) : Int := if er = 0 ∧ bs.length < wk + width then 7 else er
theorem number_ok (bs : List Int) (wk : Nat) (er : Int) (width : Nat) (hw : wk ≤ bs.length) (hn : bs.length < 2 ^ 46) (hwd : width ≤ 8) (hby : ∀ b ∈ bs, 0 ≤ b ∧ b < 256) :
    Con Try.prog gl0 (fnv 58) [.ptr 0 0 0 0, .v (.int .i64 width)] 1 [(0, Rdr bs wk er)] (RetK (.v (.int .u64 (numR bs wk er width))) (Rdr bs (wkR bs wk er width) (erR bs wk er width))) := by
  refine Con.of Try.ok58 (nt := 11) (res := [.tmp 4]) Try.mixed Try.func58 rfl rfl rfl rfl fun κ x hκ => hκ.run 300 ?_
  simp (disch := omega) only [push_cast, simprocAttr]
  refine Does.inl hκ.hP hκ.hgl Try.ok78 (nt := 60) (res := []) Try.mixed Try.func78 rfl rfl rfl rfl fun κ' x' hκ' => hκ'.run 300 ?_
  simp (disch := omega) only [push_cast, simprocAttr]
  refine OutOK_fork (fun h => ?_) (fun h => ?_) <;> try simp only [Bool.not_true, Bool.not_false, decide_eq_true_eq, decide_eq_false_iff_not, Bool.not_eq_true', Bool.not_eq_false', Bool.and_eq_true, Bool.or_eq_false_iff, Bool.or_eq_true, Bool.and_eq_false_iff] at h
  · simp (disch := omega) only [push_cast, simprocAttr]
    refine hκ'.fin _ _ _ _ _ trivial rfl ?_
    refine hκ.run 300 ?_
    simp (disch := omega) only [push_cast, simprocAttr]
    refine hκ.ret _ _ _ _ _ _ trivial rfl ?_
    simp only [numR, wkR, erR, h, false_and, if_false]
    exact Post.keep trivial Rdr.good.1 Rdr.good.2 rfl
  · subst h
    simp (disch := omega) only [push_cast, simprocAttr]
    refine OutOK_fork (fun h => ?_) (fun h => ?_) <;> try simp only [Bool.not_true, Bool.not_false, decide_eq_true_eq, decide_eq_false_iff_not, Bool.not_eq_true', Bool.not_eq_false', Bool.and_eq_true, Bool.or_eq_false_iff, Bool.or_eq_true, Bool.and_eq_false_iff] at h
    · omega
    simp (disch := omega) only [push_cast, simprocAttr]
    refine Does.keep hκ'.hP hκ'.hgl 0 [.ptr 0 0 0 0] (ahead_ok bs wk 0 hw) rfl ⟨trivial, by first | (simp [SV.bnd, SV.bndL]; done) | (simp [SV.bnd, SV.bndL, ec_bnd]; done), by first | (simp [SV.bnd, SV.bndL]; done) | (simp [SV.bnd, SV.bndL, ec_bnd]; done) | assumption⟩ ⟨Rdr.good.1, Rdr.good.2, Rdr.good.1⟩ rfl (by first | omega | (dsimp only; omega)) ?_
    refine hκ'.run 300 ?_
    have e : ((List.drop wk bs).length : Int) = bs.length - wk := by simp; omega
    simp (disch := omega) only [push_cast, simprocAttr, e]
    refine OutOK_fork (fun h => ?_) (fun h => ?_) <;> try simp only [Bool.not_true, Bool.not_false, decide_eq_true_eq, decide_eq_false_iff_not, Bool.not_eq_true', Bool.not_eq_false', Bool.and_eq_true, Bool.or_eq_false_iff, Bool.or_eq_true, Bool.and_eq_false_iff] at h
    · simp (disch := omega) only [push_cast, simprocAttr]
      refine hκ'.fin _ _ _ _ _ trivial rfl ?_
      refine hκ.run 300 ?_
      simp (disch := omega) only [push_cast, simprocAttr]
      refine hκ.ret _ _ _ _ _ _ trivial rfl ?_
      simp only [numR, wkR, erR, true_and, show ¬ wk + width ≤ bs.length by omega, show bs.length < wk + width by omega, if_true, if_false]
      exact Post.keep trivial Rdr.good.1 Rdr.good.2 rfl
    simp (disch := omega) only [push_cast, simprocAttr]
    refine Does.keep hκ'.hP hκ'.hgl 0 [.ptr 0 0 0 0] (ahead_ok bs wk 0 hw) rfl ⟨trivial, by first | (simp [SV.bnd, SV.bndL]; done) | (simp [SV.bnd, SV.bndL, ec_bnd]; done), by first | (simp [SV.bnd, SV.bndL]; done) | (simp [SV.bnd, SV.bndL, ec_bnd]; done) | assumption⟩ ⟨Rdr.good.1, Rdr.good.2, Rdr.good.1⟩ rfl (by first | omega | (dsimp only; omega)) ?_
    refine hκ'.run 300 ?_
    simp (disch := omega) only [push_cast, simprocAttr, e]
    refine ⟨by omega, fun _ => ?_⟩
    simp only [← List.map_take]
    have hsl : (List.take width (List.drop wk bs)).length = width := by simp; omega
    have hsb : ∀ b ∈ List.take width (List.drop wk bs), 0 ≤ b ∧ b < 256 := fun b hb => hby b (List.mem_of_mem_drop (List.mem_of_mem_take hb))
    have hsn : numR bs wk 0 width = num (List.take width (List.drop wk bs)) := by rw [numR, if_pos ⟨rfl, by omega⟩]
    have hwk : wkR bs wk 0 width = wk + width := by rw [wkR, if_pos ⟨rfl, by omega⟩]
    have her : erR bs wk 0 width = 0 := by rw [erR, if_neg (by omega)]
    rw [hsn, hwk, her] at hκ
    generalize List.take width (List.drop wk bs) = seg at hsl hsb hκ ⊢
    subst hsl
    simp only [List.length_map]
    refine Sat.less (Sat.loop (γ := Nat) (fun k => ([(15, .v (.int .i64 k)), (14, .v (.int .i64 seg.length)), (13, By seg), (0, .ptr 0 0 0 0), (1, .v (.int .i64 seg.length)), (2, .fn (.func 79) [] [.ptr 1 0 0 0])],
      [(0, Rdr bs wk 0), (1, .own [.v (.int .u64 (num (seg.take k)))] 87)], 2)) (fun k => seg.length - k) (fun k => k ≤ seg.length) ?round 0 (by omega)) (by repeat' (first | exact EnvSub.nil _ | exact HeapSub.nil _ | refine EnvSub.cons rfl ?_ | refine HeapSub.cons rfl ?_ | (refine EnvSub.cons (by simp [Env.get]; done) ?_) | (refine HeapSub.cons (by simp [Heap.get]; done) ?_))) (by repeat' (first | exact EnvSub.nil _ | exact HeapSub.nil _ | refine EnvSub.cons rfl ?_ | refine HeapSub.cons rfl ?_ | (refine EnvSub.cons (by simp [Env.get]; done) ?_) | (refine HeapSub.cons (by simp [Heap.get]; done) ?_)))
    case round =>
      intro k hk ih
      dsimp only at ih ⊢
      refine hκ'.run 300 ?_
      simp (disch := omega) only [push_cast, simprocAttr]
      refine OutOK_fork (fun h => ?_) (fun h => ?_) <;> try simp only [Bool.not_true, Bool.not_false, decide_eq_true_eq, decide_eq_false_iff_not, Bool.not_eq_true', Bool.not_eq_false', Bool.and_eq_true, Bool.or_eq_false_iff, Bool.or_eq_true, Bool.and_eq_false_iff] at h
      · simp (disch := omega) only [push_cast, simprocAttr]
        (repeat (refine ⟨by first | omega | (refine ⟨?_, ?_⟩ <;> omega) | trivial | (simp; done) | decide +kernel, fun _ => ?_⟩))
        have hb : seg.getD k default ∈ seg := by
          rw [List.getD, List.getElem?_eq_getElem (by omega)]; exact List.getElem_mem _
        have hs : seg.take (k + 1) = seg.take k ++ [seg.getD k default] := by
          rw [List.take_succ_eq_append_getElem (by omega), List.getD, List.getElem?_eq_getElem (by omega)]; rfl
        obtain ⟨b0, b1⟩ := hsb _ hb
        generalize seg.getD k default = c at hs b0 b1 ⊢
        refine Does.inlc hκ'.hP hκ'.hgl Try.ok79 (nt := 8) (res := []) Try.mixed Try.func79 rfl rfl rfl rfl fun κ2 x2 hκ2 => hκ2.run 300 ?_
        simp (disch := omega) only [push_cast, simprocAttr]
        refine hκ2.fin _ _ _ _ _ trivial rfl ?_
        have hz : IntKind.u64.wrap (IntKind.u64.wrap (num (seg.take k) * 256) + c) = num (seg.take (k + 1)) := by
          rw [hs, num_snoc, wrap_u64_mod, wrap_u64_mod]; omega
        rw [hz]
        refine hκ'.run 300 ?_
        simp (disch := omega) only [push_cast, simprocAttr]
        exact (ih (k + 1) (by omega) (by omega)).less (by repeat' (first | exact EnvSub.nil _ | exact HeapSub.nil _ | refine EnvSub.cons rfl ?_ | refine HeapSub.cons rfl ?_ | (refine EnvSub.cons (by simp [Env.get]; done) ?_) | (refine HeapSub.cons (by simp [Heap.get]; done) ?_))) (by repeat' (first | exact EnvSub.nil _ | exact HeapSub.nil _ | refine EnvSub.cons rfl ?_ | refine HeapSub.cons rfl ?_ | (refine EnvSub.cons (by simp [Env.get]; done) ?_) | (refine HeapSub.cons (by simp [Heap.get]; done) ?_)))
      · obtain rfl : k = seg.length := by omega
        simp (disch := omega) only [push_cast, simprocAttr]
        refine hκ'.fin _ _ _ _ _ trivial rfl ?_
        refine hκ.run 300 ?_
        simp (disch := omega) only [push_cast, simprocAttr]
        refine hκ.ret _ _ _ _ _ _ trivial rfl ?_
        exact Post.keep trivial Rdr.good.1 Rdr.good.2 rfl
theorem num_lt : ∀ (n : Nat) (l : List Int), l.length = n → (∀ b ∈ l, 0 ≤ b ∧ b < 256) → num l < 256 ^ n := by
  intro n
  induction n with
  | zero => intro l hl _; rw [List.eq_nil_of_length_eq_zero hl]; decide
  | succ n ih =>
    intro l hl hb
    obtain ⟨l, c, rfl⟩ : ∃ l' c, l = l' ++ [c] := by
      rcases List.eq_nil_or_concat l with rfl | ⟨l', c, rfl⟩
      · simp at hl
      · exact ⟨l', c, by simp⟩
    have h1 := ih l (by simpa using hl) (fun b hb' => hb b (by simp [hb']))
    obtain ⟨c1, c2⟩ := hb c (by simp)
    obtain ⟨n1, n2⟩ := num_bd l
    have h2 : (256 : Int) ^ (n + 1) = 256 ^ n * 256 := Int.pow_succ _ _
    rw [num_snoc, h2]
    have h3 : (num l * 256 + c) % 18446744073709551616 ≤ num l * 256 + c := by
      have := Int.emod_nonneg (num l * 256 + c) (show (18446744073709551616 : Int) ≠ 0 by decide)
      have := Int.ediv_nonneg (show 0 ≤ num l * 256 + c by omega) (show (0 : Int) ≤ 18446744073709551616 by decide)
      omega
    omega
theorem numR_bd (bs : List Int) (wk : Nat) (er : Int) (width : Nat) (hby : ∀ b ∈ bs, 0 ≤ b ∧ b < 256) : 0 ≤ numR bs wk er width ∧ numR bs wk er width < 256 ^ width := by
  unfold numR
  split
  · rename_i h
    exact ⟨(num_bd _).1, num_lt width _ (by simp; omega) fun b hb => hby b (List.mem_of_mem_drop (List.mem_of_mem_take hb))⟩
  · exact ⟨by omega, Int.pow_pos (by decide)⟩
theorem u8_ok (bs : List Int) (wk : Nat) (er : Int) (hw : wk ≤ bs.length) (hn : bs.length < 2 ^ 46) (hby : ∀ b ∈ bs, 0 ≤ b ∧ b < 256) :
    Con Try.prog gl0 (fnv 73) [.ptr 0 0 0 0] 1 [(0, Rdr bs wk er)] (RetK (.v (.int .u8 (numR bs wk er (8 / 8)))) (Rdr bs (wkR bs wk er (8 / 8)) (erR bs wk er (8 / 8)))) := by
  refine Con.of Try.ok73 (nt := 6) (res := [.tmp 2]) Try.mixed Try.func73 rfl rfl rfl rfl fun κ x hκ => hκ.run 300 ?_
  simp (disch := omega) only [push_cast, simprocAttr]
  refine Does.keep hκ.hP hκ.hgl 0 [.ptr 0 0 0 0, .v (.int .i64 (8 / 8 : Nat))] (number_ok bs wk er (8 / 8) hw hn (by omega) hby) rfl ⟨trivial, by first | (simp [SV.bnd, SV.bndL]; done) | (simp [SV.bnd, SV.bndL, ec_bnd]; done), by first | (simp [SV.bnd, SV.bndL]; done) | (simp [SV.bnd, SV.bndL, ec_bnd]; done) | assumption⟩ ⟨Rdr.good.1, Rdr.good.2, Rdr.good.1⟩ rfl (by first | omega | (dsimp only; omega)) ?_
  refine hκ.run 300 ?_
  obtain ⟨b0, b1⟩ := numR_bd bs wk er (8 / 8) hby
  simp only [Nat.reduceDiv, Int.reducePow] at b0 b1 ⊢
  simp (disch := omega) only [push_cast, simprocAttr]
  refine hκ.ret _ _ _ _ _ _ trivial rfl ?_
  exact Post.keep trivial Rdr.good.1 Rdr.good.2 rfl
theorem u16_ok (bs : List Int) (wk : Nat) (er : Int) (hw : wk ≤ bs.length) (hn : bs.length < 2 ^ 46) (hby : ∀ b ∈ bs, 0 ≤ b ∧ b < 256) :
    Con Try.prog gl0 (fnv 46) [.ptr 0 0 0 0] 1 [(0, Rdr bs wk er)] (RetK (.v (.int .u16 (numR bs wk er (16 / 8)))) (Rdr bs (wkR bs wk er (16 / 8)) (erR bs wk er (16 / 8)))) := by
  refine Con.of Try.ok46 (nt := 6) (res := [.tmp 2]) Try.mixed Try.func46 rfl rfl rfl rfl fun κ x hκ => hκ.run 300 ?_
  simp (disch := omega) only [push_cast, simprocAttr]
  refine Does.keep hκ.hP hκ.hgl 0 [.ptr 0 0 0 0, .v (.int .i64 (16 / 8 : Nat))] (number_ok bs wk er (16 / 8) hw hn (by omega) hby) rfl ⟨trivial, by first | (simp [SV.bnd, SV.bndL]; done) | (simp [SV.bnd, SV.bndL, ec_bnd]; done), by first | (simp [SV.bnd, SV.bndL]; done) | (simp [SV.bnd, SV.bndL, ec_bnd]; done) | assumption⟩ ⟨Rdr.good.1, Rdr.good.2, Rdr.good.1⟩ rfl (by first | omega | (dsimp only; omega)) ?_
  refine hκ.run 300 ?_
  obtain ⟨b0, b1⟩ := numR_bd bs wk er (16 / 8) hby
  simp only [Nat.reduceDiv, Int.reducePow] at b0 b1 ⊢
  simp (disch := omega) only [push_cast, simprocAttr]
  refine hκ.ret _ _ _ _ _ _ trivial rfl ?_
  exact Post.keep trivial Rdr.good.1 Rdr.good.2 rfl
theorem u32_ok (bs : List Int) (wk : Nat) (er : Int) (hw : wk ≤ bs.length) (hn : bs.length < 2 ^ 46) (hby : ∀ b ∈ bs, 0 ≤ b ∧ b < 256) :
    Con Try.prog gl0 (fnv 74) [.ptr 0 0 0 0] 1 [(0, Rdr bs wk er)] (RetK (.v (.int .u32 (numR bs wk er (32 / 8)))) (Rdr bs (wkR bs wk er (32 / 8)) (erR bs wk er (32 / 8)))) := by
  refine Con.of Try.ok74 (nt := 6) (res := [.tmp 2]) Try.mixed Try.func74 rfl rfl rfl rfl fun κ x hκ => hκ.run 300 ?_
  simp (disch := omega) only [push_cast, simprocAttr]
  refine Does.keep hκ.hP hκ.hgl 0 [.ptr 0 0 0 0, .v (.int .i64 (32 / 8 : Nat))] (number_ok bs wk er (32 / 8) hw hn (by omega) hby) rfl ⟨trivial, by first | (simp [SV.bnd, SV.bndL]; done) | (simp [SV.bnd, SV.bndL, ec_bnd]; done), by first | (simp [SV.bnd, SV.bndL]; done) | (simp [SV.bnd, SV.bndL, ec_bnd]; done) | assumption⟩ ⟨Rdr.good.1, Rdr.good.2, Rdr.good.1⟩ rfl (by first | omega | (dsimp only; omega)) ?_
  refine hκ.run 300 ?_
  obtain ⟨b0, b1⟩ := numR_bd bs wk er (32 / 8) hby
  simp only [Nat.reduceDiv, Int.reducePow] at b0 b1 ⊢
  simp (disch := omega) only [push_cast, simprocAttr]
  refine hκ.ret _ _ _ _ _ _ trivial rfl ?_
  exact Post.keep trivial Rdr.good.1 Rdr.good.2 rfl
theorem u64_ok (bs : List Int) (wk : Nat) (er : Int) (hw : wk ≤ bs.length) (hn : bs.length < 2 ^ 46) (hby : ∀ b ∈ bs, 0 ≤ b ∧ b < 256) :
    Con Try.prog gl0 (fnv 75) [.ptr 0 0 0 0] 1 [(0, Rdr bs wk er)] (RetK (.v (.int .u64 (numR bs wk er (64 / 8)))) (Rdr bs (wkR bs wk er (64 / 8)) (erR bs wk er (64 / 8)))) := by
  refine Con.of Try.ok75 (nt := 5) (res := [.tmp 2]) Try.mixed Try.func75 rfl rfl rfl rfl fun κ x hκ => hκ.run 300 ?_
  simp (disch := omega) only [push_cast, simprocAttr]
  refine Does.keep hκ.hP hκ.hgl 0 [.ptr 0 0 0 0, .v (.int .i64 (64 / 8 : Nat))] (number_ok bs wk er (64 / 8) hw hn (by omega) hby) rfl ⟨trivial, by first | (simp [SV.bnd, SV.bndL]; done) | (simp [SV.bnd, SV.bndL, ec_bnd]; done), by first | (simp [SV.bnd, SV.bndL]; done) | (simp [SV.bnd, SV.bndL, ec_bnd]; done) | assumption⟩ ⟨Rdr.good.1, Rdr.good.2, Rdr.good.1⟩ rfl (by first | omega | (dsimp only; omega)) ?_
  refine hκ.run 300 ?_
  obtain ⟨b0, b1⟩ := numR_bd bs wk er (64 / 8) hby
  simp only [Nat.reduceDiv, Int.reducePow] at b0 b1 ⊢
  simp (disch := omega) only [push_cast, simprocAttr]
  refine hκ.ret _ _ _ _ _ _ trivial rfl ?_
  exact Post.keep trivial Rdr.good.1 Rdr.good.2 rfl
end Go.Proofs.Ytmieikflcolbaaa
