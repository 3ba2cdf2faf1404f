/- Plain laws of a picture: it is whole, nothing is idle. No condition. -/
import Derived.Test.YtnjgmjcokcfmkaaDoorQm
namespace Go.Proofs.YtnjgmjcokcfmkaaDoor
open Go Go.Sy
set_option maxRecDepth 100000
set_option linter.unusedSimpArgs false
set_option linter.unusedVariables false
set_option maxHeartbeats 4000000

theorem sub_rise : ∀ (b a : List Int), a.Pairwise (· < ·) → b.Pairwise (· < ·) → (∀ x ∈ a, x ∈ b) → a.Sublist b
  | [], a, _, _, h => by
    cases a with
    | nil => exact List.Sublist.refl _
    | cons x a => exact absurd (h x (by simp)) (by simp)
  | y :: b, [], _, _, _ => List.nil_sublist _
  | y :: b, x :: a, ha, hb, h => by
    rw [List.pairwise_cons] at ha hb
    by_cases e : x = y
    · subst e
      exact (sub_rise b a ha.2 hb.2 fun z hz => by
        rcases List.mem_cons.1 (h z (by simp [hz])) with rfl | hz2
        · exact absurd (ha.1 z hz) (Int.lt_irrefl _)
        · exact hz2).cons_cons _
    · have hx : x ∈ b := by
        rcases List.mem_cons.1 (h x (by simp)) with e' | e'
        · exact absurd e' e
        · exact e'
      have hyx := hb.1 x hx
      refine (sub_rise b (x :: a) (List.pairwise_cons.2 ha) hb.2 fun z hz => ?_).cons _
      rcases List.mem_cons.1 hz with rfl | hz
      · exact hx
      · have := ha.1 z hz
        rcases List.mem_cons.1 (h z (by simp [hz])) with rfl | h2
        · omega
        · exact h2
theorem okMs_rise : ∀ (ms all pre : List Int), okMs all pre ms = true → pre.Pairwise (· < ·) → (pre ++ ms).Pairwise (· < ·)
  | [], all, pre, _, h => by simpa using h
  | v :: ms, all, pre, h, hp => by
    rw [okMs, Bool.and_eq_true, ok1M, Bool.and_eq_true, Bool.and_eq_true] at h
    have hlt : ∀ u ∈ pre, u < v := fun u hu => by
      have hpos : 0 < pre.length := List.length_pos_of_mem hu
      have h2 := h.1.2.2
      have hl : ¬ v ≤ pre.getD (pre.length - 1) default := by
        rw [decide_eq_true hpos, Bool.true_and] at h2
        simpa using h2
      obtain ⟨i, hi, rfl⟩ := List.getElem_of_mem hu
      rw [List.getD, List.getElem?_eq_getElem (by omega), Option.getD_some] at hl
      by_cases e : i = pre.length - 1
      · subst e; omega
      · have := List.pairwise_iff_getElem.1 hp i (pre.length - 1) hi (by omega) (by omega)
        omega
    have := okMs_rise ms all (pre ++ [v]) h.2 (by
      rw [List.pairwise_append]
      exact ⟨hp, by simp, fun a ha b hb => by rw [List.mem_singleton.1 hb]; exact hlt a ha⟩)
    simpa [List.append_assoc] using this
theorem okL_rise : ∀ (l : List En) (all : List Int), okL all l = true → ∀ x ∈ l, x.ms.Pairwise (· < ·)
  | [], _, _ => fun x hx => nomatch hx
  | y :: l, all, h => fun x hx => by
    rw [okL, Bool.and_eq_true, okX, Bool.and_eq_true] at h
    rcases List.mem_cons.1 hx with rfl | hx
    · simpa using okMs_rise _ _ [] h.1.2 List.Pairwise.nil
    · exact okL_rise l _ h.2 x hx
theorem wsh_v {l : List En} {w : List Wi} (h : okL [] l = true) (hv : okV (allM l) [] w = true) (hn : w.length = (allM l).length) {x : En} (hx : x ∈ l) : (wsh w x.ms).map Wi.v = x.ms := by
  obtain ⟨r1, -⟩ := okV_rise w (allM l) [] hv List.Pairwise.nil
  rw [List.nil_append] at r1
  refine (sub_rise x.ms _ (List.Pairwise.sublist (List.Sublist.map _ List.filter_sublist) r1) (okL_rise l [] h x hx) fun v hm => ?_).eq_of_length (by rw [List.length_map]; exact wsh_len h hv hn hx)
  obtain ⟨y, hy, rfl⟩ := List.mem_map.1 hm
  exact of_decide_eq_true (List.mem_filter.1 hy).2
theorem find_v : ∀ {w : List Wi} {y : Wi}, (w.map Wi.v).Nodup → y ∈ w → (w.find? fun x => decide (x.v = y.v)) = some y
  | [], y, _, h => nomatch h
  | x :: w, y, hn, h => by
    rw [List.map_cons, List.nodup_cons] at hn
    rw [List.find?_cons]
    rcases List.mem_cons.1 h with rfl | h
    · simp
    · have : ¬ x.v = y.v := fun e => hn.1 (e ▸ List.mem_map_of_mem h)
      rw [decide_eq_false this]
      exact find_v hn.2 h
theorem wshO_get {l : List En} {w : List Wi} (h : okL [] l = true) (hv : okV (allM l) [] w = true) (hn : w.length = (allM l).length) {x : En} (hx : x ∈ l) {j : Nat} (hj : j < x.ms.length) : wshO w (x.ms.getD j default) = (wsh w x.ms).getD j default := by
  have e := wsh_v h hv hn hx
  obtain ⟨r1, -⟩ := okV_rise w (allM l) [] hv List.Pairwise.nil
  rw [List.nil_append] at r1
  have ndw : (w.map Wi.v).Nodup := r1.imp (fun h => by omega)
  have hl : j < (wsh w x.ms).length := by rw [wsh_len h hv hn hx]; exact hj
  have hy := getD_mem' hl
  have ev : x.ms.getD j default = ((wsh w x.ms).getD j default).v := by
    conv => lhs; rw [← e]
    simp [List.getD, hl]
  rw [ev, wshO, find_v ndw (List.mem_filter.1 hy).1]
  rfl
theorem fm_good : ∀ (rest : List (List Int)) (t m : List Int), fm t rest = some m → t.Nodup → m.Nodup ∧ ∃ s, m = t ++ s ∧ s.length = rest.length ∧ ∀ j, j < rest.length → s.getD j default ∈ rest.getD j []
  | [], t, m, h, ht => by obtain rfl := Option.some.inj h; exact ⟨ht, [], by simp, rfl, fun j hj => absurd hj (by simp)⟩
  | r :: rest, t, m, h, ht => by
    rw [fm] at h
    obtain ⟨c, hc, h⟩ := List.exists_of_findSome?_eq_some h
    split at h
    · cases h
    · rename_i hct
      obtain ⟨h1, s, h2, h3, h4⟩ := fm_good rest _ _ h (by
        rw [List.nodup_append]; exact ⟨ht, by simp, fun a ha b hb e => hct (by rw [List.mem_singleton.1 hb] at e; exact e ▸ ha)⟩)
      refine ⟨h1, c :: s, by rw [h2]; simp, by simp [h3], fun j hj => ?_⟩
      cases j with
      | zero => exact hc
      | succ j => exact h4 j (by simpa using hj)
theorem chs_alw {w : Wi} {free : Nat} {c : Int} (h : c ∈ chs w free) : hasB (alw w.m free) c = true := by
  rw [chs] at h
  split at h
  · rename_i ha
    rcases List.mem_cons.1 h with rfl | h
    · exact ha
    · rcases List.mem_append.1 h with h | h
      · rw [mem_bits, hasB_dif, Bool.and_eq_true] at h; exact lik_sub h.1
      · rw [mem_bits, hasB_dif, hasB_dif, Bool.and_eq_true, Bool.and_eq_true] at h; exact h.1.1
  · rcases List.mem_append.1 h with h | h
    · exact lik_sub (mem_bits.1 h)
    · rw [mem_bits, hasB_dif, Bool.and_eq_true] at h; exact h.1
theorem tkO_good {w : List Wi} {free : Nat} {at' : List Int} (h0 : 1 ≤ w.length) (h : tkO w free = some at') : at'.Nodup ∧ ∀ j, j < w.length → hasB (alw (w.getD j default).m free) (at'.getD j default) = true := by
  rw [tkO] at h
  split at h
  · obtain ⟨h1, s, h2, h3, h4⟩ := fm_good _ _ _ h List.nodup_nil
    rw [List.nil_append] at h2
    subst h2
    refine ⟨h1, fun j hj => ?_⟩
    have h4 := h4 j (by simpa [chsL] using hj)
    have e : (chsL w free).getD j [] = chs (w.getD j default) free := by simp [chsL, List.getD, hj]
    rw [e] at h4
    exact chs_alw h4
  · cases hb : bestB (w.getD 0 default).m free (w.getD 0 default).a with
    | none => rw [hb] at h; cases h
    | some c =>
      rw [hb] at h
      obtain rfl := Option.some.inj h
      refine ⟨by simp, fun j hj => ?_⟩
      obtain rfl : j = 0 := by omega
      exact best_has hb
theorem alw_has {m : Msk} {s : Nat} {c : Int} (h : hasB (alw m s) c = true) : (0 ≤ c ∧ c < 8) ∧ okM m = true ∧ m.1.testBit c.toNat = true ∧ s.testBit c.toNat = true := by
  have hb := hasB_bd h
  rw [alw] at h
  split at h
  · rename_i hx
    rw [hasB, Bool.and_eq_true, Nat.testBit_and, Bool.and_eq_true] at h
    exact ⟨hb, hx.1, h.2⟩
  · rw [hasB, Nat.zero_testBit, Bool.and_false] at h; cases h
theorem alw_hasI {m : Msk} {s : Nat} {c : Int} (hc : 0 ≤ c ∧ c < 8) (ho : okM m = true) (hm : m.1.testBit c.toNat = true) (hs : s.testBit c.toNat = true) (h8 : s < 256) : hasB (alw m s) c = true := by
  rw [alw, if_pos ⟨ho, h8⟩, hasB, decide_eq_true hc, Nat.testBit_and, hm, hs]; rfl
/-- An entity whose members have their wishes. -/
def okW (w : List Wi) (x : En) : Prop := 1 ≤ x.ms.length ∧ (wsh w x.ms).length = x.ms.length ∧ ∀ j, j < x.ms.length → wshO w (x.ms.getD j default) = (wsh w x.ms).getD j default
theorem okW_of {l : List En} {w : List Wi} (hp : pickE l w = 0) {x : En} (hx : x ∈ l) : okW w x := by
  obtain ⟨h1, h2, h3, -⟩ := pickE_zero hp
  exact ⟨(okL_rng l [] h1 x hx).1.1, wsh_len h1 h2 h3 hx, fun j hj => wshO_get h1 h2 h3 hx hj⟩
theorem zip_get {ms at' : List Int} (h : at'.length = ms.length) {p : Int × Int} (hp : p ∈ ms.zip at') : ∃ j, j < ms.length ∧ p = (ms.getD j default, at'.getD j default) := by
  obtain ⟨j, hj, rfl⟩ := List.getElem_of_mem hp
  rw [List.length_zip] at hj
  refine ⟨j, by omega, ?_⟩
  simp [List.getD, show j < ms.length by omega, show j < at'.length by omega]
theorem pick_good {w : List Wi} {free : Nat} (hf : free < 256) : ∀ (n : Nat) (l : List En), l.length = n → (∀ x ∈ l, okW w x) →
    ((pickR w free l).puts.map Prod.snd).Nodup ∧ (∀ p ∈ (pickR w free l).puts, hasB (alw (wshO w p.1).m free) p.2 = true) ∧ (pickR w free l).puts.length + (pickR w free l).waits.length = (allM l).length := by
  intro n
  induction n with
  | zero => intro l h _; rw [List.eq_nil_of_length_eq_zero h]; exact ⟨List.nodup_nil, (fun p hp => nomatch hp), rfl⟩
  | succ n ih =>
    intro l h hw
    obtain ⟨l', x, rfl⟩ : ∃ l' x, l = l' ++ [x] := by
      rcases List.eq_nil_or_concat l with rfl | ⟨l', x, rfl⟩
      · simp at h
      · exact ⟨l', x, by simp⟩
    have hl' : l'.length = n := by simpa using h
    have fp := free_pick (w := w) (free := free) n l' hl' (fun y hy => ⟨(hw y (by simp [hy])).2.1, (hw y (by simp [hy])).1⟩)
    have rg := puts_rng (w := w) (free := free) n l' hl' (fun y hy => ⟨(hw y (by simp [hy])).2.1, (hw y (by simp [hy])).1⟩)
    obtain ⟨ih1, ih2, ih3⟩ := ih l' hl' (fun y hy => hw y (by simp [hy]))
    obtain ⟨w1, w2, w3⟩ := hw x (by simp)
    have e : pickR w free (l' ++ [x]) = stepK w (pickR w free l') x := by simp [pickR, List.foldl_append]
    rw [e, stepK, allM_snoc, List.length_append]
    cases ho : tkO (wsh w x.ms) (pickR w free l').free with
    | none => exact ⟨ih1, ih2, by dsimp only; rw [List.length_append]; omega⟩
    | some at' =>
      have ha := (tkO_ok (by omega) ho).1
      obtain ⟨g1, g2⟩ := tkO_good (by omega) ho
      dsimp only
      refine ⟨?_, ?_, by rw [List.length_append, List.length_zip]; omega⟩
      · rw [List.map_append, List.map_snd_zip (by omega), List.nodup_append]
        refine ⟨ih1, g1, fun a ha1 b hb e => ?_⟩
        subst e
        obtain ⟨j, hj, rfl⟩ := List.getElem_of_mem hb
        have g := g2 j (by omega)
        rw [show at'.getD j default = at'[j] by rw [List.getD, List.getElem?_eq_getElem hj, Option.getD_some]] at g
        obtain ⟨c8, -, -, hs⟩ := alw_has g
        rw [fp, Bool.and_eq_true, tk2_bit _ _ rfl, Bool.not_eq_true', List.any_eq_false] at hs
        obtain ⟨p, hp, ep⟩ := List.mem_map.1 ha1
        exact hs.2 p hp (by rw [ep]; simp)
      · intro p hp
        rcases List.mem_append.1 hp with hp | hp
        · exact ih2 p hp
        · obtain ⟨j, hj, rfl⟩ := zip_get (by omega) hp
          dsimp only
          rw [w3 j hj]
          obtain ⟨c8, c1, c2, hs⟩ := alw_has (g2 j (by omega))
          rw [fp, Bool.and_eq_true] at hs
          exact alw_hasI c8 c1 c2 hs.1 hf
theorem waits_mem {w : List Wi} {free : Nat} : ∀ (n : Nat) (l : List En), l.length = n → ∀ v ∈ (pickR w free l).waits, ∃ k, k < l.length ∧ v ∈ (l.getD k default).ms ∧ tkO (wsh w (l.getD k default).ms) (pickR w free (l.take k)).free = none := by
  intro n
  induction n with
  | zero => intro l h v hv; rw [List.eq_nil_of_length_eq_zero h] at hv; cases hv
  | succ n ih =>
    intro l h v hv
    obtain ⟨l', x, rfl⟩ : ∃ l' x, l = l' ++ [x] := by
      rcases List.eq_nil_or_concat l with rfl | ⟨l', x, rfl⟩
      · simp at h
      · exact ⟨l', x, by simp⟩
    have hl' : l'.length = n := by simpa using h
    have old : v ∈ (pickR w free l').waits → ∃ k, k < (l' ++ [x]).length ∧ v ∈ ((l' ++ [x]).getD k default).ms ∧ tkO (wsh w ((l' ++ [x]).getD k default).ms) (pickR w free ((l' ++ [x]).take k)).free = none := fun hv => by
      obtain ⟨k, hk, h1, h2⟩ := ih l' hl' v hv
      refine ⟨k, by simp; omega, ?_⟩
      rw [show (l' ++ [x]).getD k default = l'.getD k default by simp [List.getD, List.getElem?_append_left hk], List.take_append_of_le_length (by omega)]
      exact ⟨h1, h2⟩
    have e : pickR w free (l' ++ [x]) = stepK w (pickR w free l') x := by simp [pickR, List.foldl_append]
    rw [e, stepK] at hv
    cases ho : tkO (wsh w x.ms) (pickR w free l').free with
    | none =>
      rw [ho] at hv
      rcases List.mem_append.1 hv with hv | hv
      · exact old hv
      · refine ⟨l'.length, by simp, ?_⟩
        rw [show (l' ++ [x]).getD l'.length default = x by simp [List.getD], List.take_left']
        · exact ⟨hv, ho⟩
        · rfl
    | some at' =>
      rw [ho] at hv
      exact old hv
theorem waits_on {l : List En} {w : List Wi} {free : Nat} (hp : pickE l w = 0) {v : Int} (hv : v ∈ (pickR w free l).waits) : onP (pickR w free l).puts v = none := by
  obtain ⟨k, hk, h1, h2⟩ := waits_mem (w := w) (free := free) _ l rfl v hv
  obtain ⟨j, hj, rfl⟩ := List.getElem_of_mem h1
  have := on_pick (free := free) hp hk hj
  rw [h2, List.getD, List.getElem?_eq_getElem hj, Option.getD_some] at this
  exact this
/-- How many of these are placed. -/
def cntP (P : List (Int × Int)) (ms : List Int) : Nat := (ms.filter fun v => (onP P v).isSome).length
def wholeB (l : List En) (P : List (Int × Int)) : Bool := l.all fun x => !(decide (0 < cntP P x.ms) && decide (cntP P x.ms < x.ms.length))
theorem whole_pick {l : List En} {w : List Wi} {free : Nat} (hp : pickE l w = 0) : wholeB l (pickR w free l).puts = true := by
  rw [wholeB, List.all_eq_true]
  intro x hx
  obtain ⟨k, hk, rfl⟩ := List.getElem_of_mem hx
  have ek : l[k] = l.getD k default := by rw [List.getD, List.getElem?_eq_getElem hk, Option.getD_some]
  have hop : ∀ v ∈ (l.getD k default).ms, (onP (pickR w free l).puts v).isSome = (tkO (wsh w (l.getD k default).ms) (pickR w free (l.take k)).free).isSome := fun v hv => by
    obtain ⟨j, hj, rfl⟩ := List.getElem_of_mem hv
    have := on_pick (free := free) hp hk hj
    rw [List.getD, List.getElem?_eq_getElem hj, Option.getD_some] at this
    rw [this, Option.isSome_map]
  rw [ek]
  cases hs : (tkO (wsh w (l.getD k default).ms) (pickR w free (l.take k)).free).isSome with
  | false =>
    have : cntP (pickR w free l).puts (l.getD k default).ms = 0 := by
      rw [cntP, List.length_eq_zero_iff, List.filter_eq_nil_iff]
      intro v hv
      rw [hop v hv, hs]
      decide
    rw [this]
    rfl
  | true =>
    have : cntP (pickR w free l).puts (l.getD k default).ms = (l.getD k default).ms.length := by
      rw [cntP, List.filter_eq_self.2]
      intro v hv
      rw [hop v hv, hs]
    rw [this, decide_eq_false (Nat.lt_irrefl _), Bool.and_false]
    rfl
/-- What waiting singles may have; less what is taken. -/
def want1 (w : List Wi) (free : Nat) (P : List (Int × Int)) (s : Nat) (x : En) : Nat := if x.ms.length = 1 ∧ onP P (x.ms.getD 0 default) = none then s ||| alw ((wsh w x.ms).getD 0 default).m free else s
def wantN (w : List Wi) (free : Nat) (P : List (Int × Int)) (l : List En) : Nat := l.foldl (want1 w free P) 0
def cut1 (s : Nat) (p : Int × Int) : Nat := if 0 ≤ p.2 ∧ p.2 < 8 then dif s (2 ^ p.2.toNat) else s
def cutP (s : Nat) (P : List (Int × Int)) : Nat := P.foldl cut1 s
theorem want_bit (w : List Wi) (free : Nat) (P : List (Int × Int)) (i : Nat) : ∀ (l : List En) (s : Nat), (l.foldl (want1 w free P) s).testBit i = true → s.testBit i = true ∨ ∃ x ∈ l, (x.ms.length = 1 ∧ onP P (x.ms.getD 0 default) = none) ∧ (alw ((wsh w x.ms).getD 0 default).m free).testBit i = true
  | [], s, h => Or.inl h
  | x :: l, s, h => by
    rw [List.foldl_cons] at h
    rcases want_bit w free P i l _ h with h | ⟨y, hy, h⟩
    · rw [want1] at h
      split at h
      · rename_i hc
        rw [Nat.testBit_or, Bool.or_eq_true] at h
        rcases h with h | h
        · exact Or.inl h
        · exact Or.inr ⟨x, by simp, hc, h⟩
      · exact Or.inl h
    · exact Or.inr ⟨y, by simp [hy], h⟩
theorem want_lt (w : List Wi) (free : Nat) (P : List (Int × Int)) : ∀ (l : List En) (s : Nat), s < 256 → l.foldl (want1 w free P) s < 256
  | [], s, h => h
  | x :: l, s, h => by
    rw [List.foldl_cons]
    refine want_lt w free P l _ ?_
    rw [want1]
    split
    · exact Nat.or_lt_two_pow (n := 8) h (alw_lt _ _)
    · exact h
theorem cut_bit (i : Nat) : ∀ (P : List (Int × Int)) (s : Nat), (cutP s P).testBit i = true → s.testBit i = true ∧ ∀ p ∈ P, 0 ≤ p.2 ∧ p.2 < 8 → p.2.toNat ≠ i
  | [], s, h => ⟨h, fun p hp => nomatch hp⟩
  | q :: P, s, h => by
    rw [cutP, List.foldl_cons] at h
    obtain ⟨h1, h2⟩ := cut_bit i P (cut1 s q) h
    rw [cut1] at h1
    split at h1
    · rename_i hq
      rw [dif_bit, Bool.and_eq_true, testBit_pow] at h1
      refine ⟨h1.1, fun p hp hb e => ?_⟩
      rcases List.mem_cons.1 hp with rfl | hp
      · simp [e] at h1
      · exact h2 p hp hb e
    · rename_i hq
      refine ⟨h1, fun p hp hb e => ?_⟩
      rcases List.mem_cons.1 hp with rfl | hp
      · exact hq hb
      · exact h2 p hp hb e
theorem idle_pick {l : List En} {w : List Wi} {free : Nat} (hp : pickE l w = 0) (hf : free < 256) : cutP (wantN w free (pickR w free l).puts l) (pickR w free l).puts = 0 := by
  apply Nat.eq_of_testBit_eq
  intro i
  rw [Nat.zero_testBit, Bool.eq_false_iff]
  intro h
  obtain ⟨h1, h2⟩ := cut_bit i _ _ h
  rcases want_bit w free _ i l 0 h1 with h1 | ⟨x, hx, ⟨hx1, hx2⟩, h1⟩
  · rw [Nat.zero_testBit] at h1; cases h1
  obtain ⟨k, hk, rfl⟩ := List.getElem_of_mem hx
  have ek : l[k] = l.getD k default := by rw [List.getD, List.getElem?_eq_getElem hk, Option.getD_some]
  have hok := okW_of hp hx
  rw [ek] at hx1 hx2 h1 hok
  have hlw : ∀ y ∈ l.take k, (wsh w y.ms).length = y.ms.length ∧ 1 ≤ y.ms.length := fun y hy => by
    have := okW_of hp (List.mem_of_mem_take hy)
    exact ⟨this.2.1, this.1⟩
  have fp := free_pick (w := w) (free := free) _ (l.take k) rfl hlw
  have rg := puts_rng (w := w) (free := free) _ (l.take k) rfl hlw
  obtain ⟨hoL, -, -, -⟩ := pickE_zero hp
  have fr8 := (pickR_bd w free hf _ (l.take k) rfl (fun y hy => (okL_rng l [] hoL y (List.mem_of_mem_take hy)).1.2)).1
  have hop := on_pick (free := free) hp hk (j := 0) (by omega)
  rw [hx2] at hop
  have hno := (Option.map_eq_none_iff.1 hop.symm)
  obtain ⟨v, hv⟩ := List.length_eq_one_iff.1 hx1
  have hwl := hok.2.1
  rw [hv] at hwl hno h1
  have ha0 := none_alw hwl hno
  rw [filter_find hwl] at h1
  have hz := alw_less fp ha0 hf fr8
  rw [Nat.mod_eq_of_lt (alw_lt _ _)] at hz
  have hz := congrArg (fun n => n.testBit i) hz
  simp only [dif_bit, Nat.zero_testBit, h1, Bool.true_and, Bool.not_eq_false'] at hz
  rw [tk2_bit _ _ rfl, List.any_eq_true] at hz
  obtain ⟨p, hpm, hpi⟩ := hz
  refine h2 p ?_ (rg p hpm) (of_decide_eq_true hpi)
  have hsp := split_at hk
  have hP : pickR w free l = (l.getD k default :: l.drop (k + 1)).foldl (stepK w) (pickR w free (l.take k)) := by
    conv => lhs; rw [hsp]
    rw [pickR, List.foldl_append]
    rfl
  obtain ⟨t, s, e1, -, -, -⟩ := fold_puts w (l.getD k default :: l.drop (k + 1)) (pickR w free (l.take k))
  rw [hP, e1]
  exact List.mem_append_left _ hpm
end Go.Proofs.YtnjgmjcokcfmkaaDoor
