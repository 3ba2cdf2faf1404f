/- Walks of gang: Of, choices, matching. No condition. -/
import Derived.Test.YtnjgmjcokcfmkaaDoorCl
import Derived.Test.YtnjgmjcokcfmkaaDoorCq
import Derived.Test.YtnjgmjcokcfmkaaDoorR4
import Derived.Test.YtnjgmjcokcfmkaaDoorKu
namespace Go.Proofs.YtnjgmjcokcfmkaaDoor
open Go Go.Sy
set_option maxRecDepth 100000
set_option linter.unusedSimpArgs false
set_option linter.unusedVariables false
set_option maxHeartbeats 4000000

def eRw (r : List Int) : List SV := [Is r]
abbrev Rws (rows : List (List Int)) : SV := .rd 1 (rows.map eRw)
abbrev okrow (r : List Int) : Prop := (∀ c ∈ r, cpu8 c) ∧ r.Nodup
theorem getD_mem' {α : Type} [Inhabited α] {l : List α} {k : Nat} (h : k < l.length) : l.getD k default ∈ l := by
  rw [List.getD, List.getElem?_eq_getElem h]; exact List.getElem_mem _
def maskOf (l : List Int) : Nat := l.foldl (fun s c => s ||| bitN c) 0
theorem maskOf_snoc (l : List Int) (c : Int) : maskOf (l ++ [c]) = maskOf l ||| bitN c := by simp [maskOf, List.foldl_append]
theorem maskOf_lt : ∀ (n : Nat) (l : List Int), l.length = n → maskOf l < 256 := by
  intro n
  induction n with
  | zero => intro l h; rw [List.eq_nil_of_length_eq_zero h]; decide
  | succ n ih =>
    intro l h
    obtain ⟨l', c, rfl⟩ : ∃ l' c, l = l' ++ [c] := by
      rcases List.eq_nil_or_concat l with rfl | ⟨l', c, rfl⟩
      · simp at h
      · exact ⟨l', c, by simp⟩
    rw [maskOf_snoc]
    exact Nat.or_lt_two_pow (n := 8) (ih l' (by simpa using h)) (bitN_lt c)
theorem maskOf_bit : ∀ (n : Nat) (l : List Int), l.length = n → (∀ c ∈ l, cpu8 c) → ∀ i : Nat, (maskOf l).testBit i = true → (i : Int) ∈ l := by
  intro n
  induction n with
  | zero => intro l h _ i hi; rw [List.eq_nil_of_length_eq_zero h] at hi; simp [maskOf] at hi
  | succ n ih =>
    intro l h hc i hi
    obtain ⟨l', c, rfl⟩ : ∃ l' c, l = l' ++ [c] := by
      rcases List.eq_nil_or_concat l with rfl | ⟨l', c, rfl⟩
      · simp at h
      · exact ⟨l', c, by simp⟩
    rw [maskOf_snoc, Nat.testBit_or, Bool.or_eq_true] at hi
    rcases hi with hi | hi
    · exact List.mem_append_left _ (ih l' (by simpa using h) (fun c hc' => hc c (by simp [hc'])) i hi)
    · obtain ⟨c0, c1⟩ := hc c (by simp)
      rw [bitN, if_pos ⟨c0, c1⟩, testBit_pow] at hi
      have hi := of_decide_eq_true hi
      refine List.mem_append_right _ ?_
      rw [List.mem_singleton]; omega
theorem cnt_add : ∀ s, s < 256 → ∀ c, c < 8 → s.testBit c = false → cnt (s ||| 2 ^ c) = cnt s + 1 := by decide +kernel
theorem maskOf_cnt : ∀ (n : Nat) (l : List Int), l.length = n → (∀ c ∈ l, cpu8 c) → l.Nodup → cnt (maskOf l) = n := by
  intro n
  induction n with
  | zero => intro l h _ _; rw [List.eq_nil_of_length_eq_zero h]; decide
  | succ n ih =>
    intro l h hc hn
    obtain ⟨l', c, rfl⟩ : ∃ l' c, l = l' ++ [c] := by
      rcases List.eq_nil_or_concat l with rfl | ⟨l', c, rfl⟩
      · simp at h
      · exact ⟨l', c, by simp⟩
    rw [List.nodup_append] at hn
    obtain ⟨n1, -, n3⟩ := hn
    have hl' : l'.length = n := by simpa using h
    have hc' : ∀ d ∈ l', cpu8 d := fun d hd => hc d (by simp [hd])
    obtain ⟨c0, c1⟩ := hc c (by simp)
    rw [maskOf_snoc, bitN, if_pos ⟨c0, c1⟩, cnt_add _ (maskOf_lt _ l' rfl) _ (by omega), ih l' hl' hc' n1]
    cases hb : (maskOf l').testBit c.toNat
    · rfl
    · have := maskOf_bit _ l' rfl hc' _ hb
      exact absurd (show (c.toNat : Int) = c by omega) (n3 _ this c (by simp))
theorem of_ok (l : List Int) (hc : ∀ c ∈ l, cpu8 c) (hn : l.length < 2 ^ 62) : Con Tryd.prog gl0 (fnv 115) [Is l] 0 [] (Ret (.tup [S (maskOf l), I 0])) := by
  refine Con.of Tryd.ok115 (nt := 23) (res := [.tmp 2, .tmp 3]) Tryd.mixed Tryd.func115 rfl rfl rfl rfl fun κ xc hκ => hκ.run 300 ?_
  simp (disch := omega) only [push_cast, simprocAttr]
  refine Sat.less (Sat.loop (γ := Nat) (fun k => ([(10, I k), (9, I l.length), (8, Is l), (4, S (maskOf (l.take k)))], [], 0)) (fun k => l.length - k) (fun k => k ≤ l.length) ?round 0 (Nat.zero_le _)) (by repeat' (first | exact EnvSub.nil _ | exact HeapSub.nil _ | refine EnvSub.cons rfl ?_ | refine HeapSub.cons rfl ?_ | (refine EnvSub.cons (by simp [Env.get]; done) ?_) | (refine HeapSub.cons (by simp [Heap.get]; done) ?_))) (by repeat' (first | exact EnvSub.nil _ | exact HeapSub.nil _ | refine EnvSub.cons rfl ?_ | refine HeapSub.cons rfl ?_ | (refine EnvSub.cons (by simp [Env.get]; done) ?_) | (refine HeapSub.cons (by simp [Heap.get]; done) ?_)))
  case round =>
    intro k hk ih
    dsimp only at hk ih ⊢
    by_cases hkl : k < l.length
    · have q1 : ((k : Int) < l.length) = True := by first | (simp only [eq_iff_iff, iff_true]; first | assumption | omega) | (simp; omega)
      have gk : (List.map (eI .i64) l).getD k [] = eI .i64 (l.getD k default) := getD_map _ _ _ hkl
      have hs : l.take (k + 1) = l.take k ++ [l.getD k default] := by
        rw [List.take_succ_eq_append_getElem hkl, List.getD, List.getElem?_eq_getElem hkl]; rfl
      have hm := hc _ (getD_mem' hkl)
      have hz := ih (k + 1) (by omega) (by omega)
      rw [hs, maskOf_snoc] at hz
      have hlt := maskOf_lt _ (l.take k) rfl
      clear ih
      generalize l.getD k default = c at *
      generalize maskOf (l.take k) = s at *
      have hb := bitN_lt c
      have h0 : ¬ bitN c = 0 := fun h => bitN_zero.1 h hm
      have q2 : ((bitN c : Int) = 0) = False := by first | (simp only [eq_iff_iff, iff_false]; first | assumption | omega) | (simp; omega)
      have ho := or32 (a := s) (b := bitN c) (by omega) (by omega)
      refine hκ.run 300 ?_
      simp (disch := omega) only [push_cast, simprocAttr, q1, gk, q2, ho]
      (repeat (refine ⟨by first | omega | (refine ⟨?_, ?_⟩ <;> omega) | trivial | (simp; done) | decide +kernel, fun _ => ?_⟩))
      refine Does.ret hκ.hP hκ.hgl (bit_ok c (by omega)) ⟨trivial, by first | (simp [SV.bnd, SV.bndL]; done) | (simp [SV.bnd, SV.bndL, ec_bnd]; done), by first | (simp [SV.bnd, SV.bndL]; done) | (simp [SV.bnd, SV.bndL, ec_bnd]; done) | assumption⟩ ?_
      refine hκ.run 300 ?_
      simp (disch := omega) only [push_cast, simprocAttr, q1, gk, q2, ho]
      exact hz.less (by repeat' (first | exact EnvSub.nil _ | exact HeapSub.nil _ | refine EnvSub.cons rfl ?_ | refine HeapSub.cons rfl ?_ | (refine EnvSub.cons (by simp [Env.get]; done) ?_) | (refine HeapSub.cons (by simp [Heap.get]; done) ?_))) (by repeat' (first | exact EnvSub.nil _ | exact HeapSub.nil _ | refine EnvSub.cons rfl ?_ | refine HeapSub.cons rfl ?_ | (refine EnvSub.cons (by simp [Env.get]; done) ?_) | (refine HeapSub.cons (by simp [Heap.get]; done) ?_)))
    · obtain rfl : k = l.length := by omega
      rw [List.take_length]
      have q1 : ((l.length : Int) < l.length) = False := by first | (simp only [eq_iff_iff, iff_false]; first | assumption | omega) | (simp; omega)
      refine hκ.run 300 ?_
      simp (disch := omega) only [push_cast, simprocAttr, q1]
      refine hκ.ret _ _ _ _ _ _ trivial rfl ?_
      exact .ret (by simp [SV.bnd, SV.bndL])
theorem choices_ok (rows : List (List Int)) (hv : ∀ r ∈ rows, okrow r) (hn : rows.length < 2 ^ 62) (hl : ∀ r ∈ rows, r.length < 2 ^ 62) : Con Tryd.prog gl0 (fnv 105) [Rws rows] 0 [] (Ret (Bo (decide (rows.length ≤ 8)))) := by
  refine Con.of Tryd.ok105 (nt := 31) (res := [.tmp 2]) Tryd.mixed Tryd.func105 rfl rfl rfl rfl fun κ xc hκ => hκ.run 300 ?_
  simp (disch := omega) only [push_cast, simprocAttr]
  refine Sat.less (Sat.loop (γ := Nat) (fun k => ([(9, I k), (8, I rows.length), (7, Rws rows), (0, Rws rows)], [], 0)) (fun k => rows.length - k) (fun k => k ≤ rows.length) ?round 0 (Nat.zero_le _)) (by repeat' (first | exact EnvSub.nil _ | exact HeapSub.nil _ | refine EnvSub.cons rfl ?_ | refine HeapSub.cons rfl ?_ | (refine EnvSub.cons (by simp [Env.get]; done) ?_) | (refine HeapSub.cons (by simp [Heap.get]; done) ?_))) (by repeat' (first | exact EnvSub.nil _ | exact HeapSub.nil _ | refine EnvSub.cons rfl ?_ | refine HeapSub.cons rfl ?_ | (refine EnvSub.cons (by simp [Env.get]; done) ?_) | (refine HeapSub.cons (by simp [Heap.get]; done) ?_)))
  case round =>
    intro k hk ih
    dsimp only at hk ih ⊢
    by_cases hkl : k < rows.length
    · have q1 : ((k : Int) < rows.length) = True := by first | (simp only [eq_iff_iff, iff_true]; first | assumption | omega) | (simp; omega)
      have gk : (List.map eRw rows).getD k [] = eRw (rows.getD k default) := getD_map _ _ _ hkl
      obtain ⟨h8, hnd⟩ := hv _ (getD_mem' hkl)
      have hlen := hl _ (getD_mem' hkl)
      have hz := ih (k + 1) (by omega) (by omega)
      clear ih
      generalize rows.getD k default = r at *
      rw [eRw] at gk
      have c1 := of_ok r h8 hlen
      have hlt := maskOf_lt _ r rfl
      have c2 := count_ok (maskOf r) (by omega)
      rw [maskOf_cnt _ r rfl h8 hnd] at c2
      refine hκ.run 300 ?_
      simp (disch := omega) only [push_cast, simprocAttr, q1, gk]
      (repeat (refine ⟨by first | omega | (refine ⟨?_, ?_⟩ <;> omega) | trivial | (simp; done) | decide +kernel, fun _ => ?_⟩))
      refine Does.ret hκ.hP hκ.hgl c1 ⟨trivial, by first | (simp [SV.bnd, SV.bndL]; done) | (simp [SV.bnd, SV.bndL, ec_bnd]; done), by first | (simp [SV.bnd, SV.bndL]; done) | (simp [SV.bnd, SV.bndL, ec_bnd]; done) | assumption⟩ ?_
      refine hκ.run 300 ?_
      simp (disch := omega) only [push_cast, simprocAttr, q1, gk]
      refine Does.ret hκ.hP hκ.hgl c2 ⟨trivial, by first | (simp [SV.bnd, SV.bndL]; done) | (simp [SV.bnd, SV.bndL, ec_bnd]; done), by first | (simp [SV.bnd, SV.bndL]; done) | (simp [SV.bnd, SV.bndL, ec_bnd]; done) | assumption⟩ ?_
      refine hκ.run 300 ?_
      simp (disch := omega) only [push_cast, simprocAttr, q1, gk]
      exact hz.less (by repeat' (first | exact EnvSub.nil _ | exact HeapSub.nil _ | refine EnvSub.cons rfl ?_ | refine HeapSub.cons rfl ?_ | (refine EnvSub.cons (by simp [Env.get]; done) ?_) | (refine HeapSub.cons (by simp [Heap.get]; done) ?_))) (by repeat' (first | exact EnvSub.nil _ | exact HeapSub.nil _ | refine EnvSub.cons rfl ?_ | refine HeapSub.cons rfl ?_ | (refine EnvSub.cons (by simp [Env.get]; done) ?_) | (refine HeapSub.cons (by simp [Heap.get]; done) ?_)))
    · obtain rfl : k = rows.length := by omega
      rw [show decide (rows.length ≤ 8) = decide ((rows.length : Int) ≤ 8) from decide_eq_decide.2 (by omega)] at hκ
      have q1 : ((rows.length : Int) < rows.length) = False := by first | (simp only [eq_iff_iff, iff_false]; first | assumption | omega) | (simp; omega)
      refine hκ.run 300 ?_
      simp (disch := omega) only [push_cast, simprocAttr, q1]
      refine hκ.ret _ _ _ _ _ _ trivial rfl ?_
      exact .ret trivial
abbrev fmV (o : Option (List Int)) : SV := .tup [Is (o.getD []), Bo o.isSome]
end Go.Proofs.YtnjgmjcokcfmkaaDoor
