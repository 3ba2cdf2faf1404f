/- Plain facts of a picture. No condition. -/
import Derived.Test.YtnjgmjcokcfmkaaDoorQi
namespace Go.Proofs.YtnjgmjcokcfmkaaDoor
open Go Go.Sy
set_option maxRecDepth 100000
set_option linter.unusedSimpArgs false
set_option linter.unusedVariables false
set_option maxHeartbeats 4000000

theorem onP_append (a b : List (Int × Int)) (v : Int) : onP (a ++ b) v = match onP a v with
    | some c => some c
    | none => onP b v := by
  rw [onP, onP, onP, List.find?_append]
  cases a.find? fun p => decide (p.1 = v) <;> rfl
theorem onP_none {l : List (Int × Int)} {v : Int} (h : ∀ p ∈ l, p.1 ≠ v) : onP l v = none := by
  rw [onP, List.find?_eq_none.2 (fun p hp => by simpa using h p hp)]
  rfl
theorem onP_zip : ∀ (ms at' : List Int), ms.Nodup → at'.length = ms.length → ∀ j, j < ms.length → onP (ms.zip at') (ms.getD j default) = some (at'.getD j default)
  | [], _, _, _, j, h => absurd h (by simp)
  | m :: ms, [], _, hl, _, _ => by simp at hl
  | m :: ms, a :: at', hn, hl, 0, _ => by simp [onP]
  | m :: ms, a :: at', hn, hl, j + 1, h => by
    rw [List.nodup_cons] at hn
    have hj : j < ms.length := by simpa using h
    have ih := onP_zip ms at' hn.2 (by simpa using hl) j hj
    have hne : ¬ m = ms.getD j default := fun e => hn.1 (e ▸ getD_mem' hj)
    rw [onP] at ih ⊢
    rw [List.zip_cons_cons, List.find?_cons, List.getD_cons_succ, List.getD_cons_succ]
    rw [decide_eq_false hne]
    exact ih
theorem fold_puts (w : List Wi) : ∀ (l : List En) (st : PRun), ∃ t s, (l.foldl (stepK w) st).puts = st.puts ++ t ∧ (l.foldl (stepK w) st).waits = st.waits ++ s ∧ (∀ p ∈ t, p.1 ∈ allM l) ∧ ∀ v ∈ s, v ∈ allM l
  | [], st => ⟨[], [], by simp, by simp, (fun p hp => nomatch hp), (fun v hv => nomatch hv)⟩
  | x :: l, st => by
    obtain ⟨t, s, h1, h2, h3, h4⟩ := fold_puts w l (stepK w st x)
    rw [List.foldl_cons, h1, h2]
    have hm : ∀ v, v ∈ allM l → v ∈ allM (x :: l) := fun v hv => by simp only [allM, List.flatMap_cons]; exact List.mem_append_right _ hv
    have hx : ∀ v, v ∈ x.ms → v ∈ allM (x :: l) := fun v hv => by simp only [allM, List.flatMap_cons]; exact List.mem_append_left _ hv
    rw [stepK]
    cases tkO (wsh w x.ms) st.free with
    | none =>
      dsimp only
      refine ⟨t, x.ms ++ s, rfl, by rw [List.append_assoc], fun p hp => hm _ (h3 p hp), fun v hv => ?_⟩
      rcases List.mem_append.1 hv with h | h
      · exact hx v h
      · exact hm v (h4 v h)
    | some at' =>
      dsimp only
      refine ⟨x.ms.zip at' ++ t, s, by rw [List.append_assoc], rfl, fun p hp => ?_, fun v hv => hm v (h4 v hv)⟩
      rcases List.mem_append.1 hp with h | h
      · exact hx _ (List.of_mem_zip h).1
      · exact hm _ (h3 p h)
theorem split_at {l : List En} {k : Nat} (hk : k < l.length) : l = l.take k ++ l.getD k default :: l.drop (k + 1) := by
  have hd : l.drop k = l.getD k default :: l.drop (k + 1) := by
    rw [List.drop_eq_getElem_cons hk, List.getD, List.getElem?_eq_getElem hk]; rfl
  rw [← hd, List.take_append_drop]
/-- Where a member is. -/
theorem on_pick {l : List En} {w : List Wi} {free : Nat} (hp : pickE l w = 0) {k : Nat} (hk : k < l.length) {j : Nat} (hj : j < (l.getD k default).ms.length) :
    onP (pickR w free l).puts ((l.getD k default).ms.getD j default) = (tkO (wsh w (l.getD k default).ms) (pickR w free (l.take k)).free).map fun at' => at'.getD j default := by
  obtain ⟨hoL, hoV, hwn, -⟩ := pickE_zero hp
  have nd := okL_nodup l [] hoL List.nodup_nil
  rw [List.nil_append] at nd
  have hx := getD_mem' hk
  have hwl := wsh_len hoL hoV hwn hx
  have h8 := (okL_rng l [] hoL _ hx).1
  have hsp := split_at hk
  have hP : pickR w free l = (l.drop (k + 1)).foldl (stepK w) (stepK w (pickR w free (l.take k)) (l.getD k default)) := by
    conv => lhs; rw [hsp]
    rw [pickR, List.foldl_append, List.foldl_cons]
    rfl
  rw [hsp, allM, List.flatMap_append, List.flatMap_cons] at nd
  generalize l.getD k default = x at *
  obtain ⟨n1, n2, n3⟩ := List.nodup_append.1 nd
  obtain ⟨m1, m2, m3⟩ := List.nodup_append.1 n2
  obtain ⟨t, s, e1, -, e3, -⟩ := fold_puts w (l.drop (k + 1)) (stepK w (pickR w free (l.take k)) x)
  obtain ⟨t0, -, f1, -, f3, -⟩ := fold_puts w (l.take k) ⟨free, [], []⟩
  have hv := getD_mem' hj
  generalize hvv : x.ms.getD j default = v at *
  have no0 : onP (pickR w free (l.take k)).puts v = none := onP_none fun p hp e => by
    have hp : p ∈ ((l.take k).foldl (stepK w) ⟨free, [], []⟩).puts := hp
    rw [f1, List.nil_append] at hp
    exact n3 _ (f3 p hp) v (List.mem_append_left _ hv) e
  have no1 : onP t v = none := onP_none fun p hp e => m3 v hv _ (e3 p hp) e.symm
  rw [hP, e1, onP_append, stepK]
  cases ho : tkO (wsh w x.ms) (pickR w free (l.take k)).free with
  | none =>
    dsimp only
    rw [no0]
    exact no1
  | some at' =>
    have ha := (tkO_ok (by omega) ho).1
    dsimp only
    rw [onP_append, no0]
    dsimp only
    have := onP_zip x.ms at' m1 (by omega) j hj
    rw [hvv] at this
    rw [this]
    rfl
def tk2 (ps : List (Int × Int)) : Nat := ps.foldl (fun s p => s ||| 2 ^ p.2.toNat) 0
theorem tk2_snoc (ps : List (Int × Int)) (p : Int × Int) : tk2 (ps ++ [p]) = tk2 ps ||| 2 ^ p.2.toNat := by simp [tk2, List.foldl_append]
theorem tk2_bit : ∀ (n : Nat) (ps : List (Int × Int)), ps.length = n → ∀ i : Nat, (tk2 ps).testBit i = ps.any fun p => decide (p.2.toNat = i) := by
  intro n
  induction n with
  | zero => intro ps h i; rw [List.eq_nil_of_length_eq_zero h]; simp [tk2]
  | succ n ih =>
    intro ps h i
    obtain ⟨ps', p, rfl⟩ : ∃ ps' p, ps = ps' ++ [p] := by
      rcases List.eq_nil_or_concat ps with rfl | ⟨ps', p, rfl⟩
      · simp at h
      · exact ⟨ps', p, by simp⟩
    rw [tk2_snoc, Nat.testBit_or, testBit_pow, ih ps' (by simpa using h), List.any_append]
    simp
theorem less_bit : ∀ (l : List Int) (s i : Nat), (less s l).testBit i = (s.testBit i && !l.any fun c => decide (c.toNat = i))
  | [], s, i => by simp [less]
  | c :: l, s, i => by
    rw [show less s (c :: l) = less (dif s (2 ^ c.toNat)) l from rfl, less_bit l, dif_bit, testBit_pow, List.any_cons]
    cases s.testBit i <;> simp
theorem zip_any {ms at' : List Int} (h : at'.length = ms.length) (q : Int → Bool) : ((ms.zip at').any fun p => q p.2) = at'.any q := by
  have e : (ms.zip at').map Prod.snd = at' := List.map_snd_zip (by omega)
  conv => rhs; rw [← e]
  rw [List.any_map]
  rfl
/-- What is free is what was free, less what is taken. -/
theorem free_pick {w : List Wi} {free : Nat} : ∀ (n : Nat) (l : List En), l.length = n → (∀ x ∈ l, (wsh w x.ms).length = x.ms.length ∧ 1 ≤ x.ms.length) → ∀ i, (pickR w free l).free.testBit i = (free.testBit i && !(tk2 (pickR w free l).puts).testBit i) := by
  intro n
  induction n with
  | zero => intro l h _ i; rw [List.eq_nil_of_length_eq_zero h]; simp [pickR, tk2]
  | succ n ih =>
    intro l h hw i
    obtain ⟨l', x, rfl⟩ : ∃ l' x, l = l' ++ [x] := by
      rcases List.eq_nil_or_concat l with rfl | ⟨l', x, rfl⟩
      · simp at h
      · exact ⟨l', x, by simp⟩
    have ih := ih l' (by simpa using h) (fun y hy => hw y (by simp [hy])) i
    obtain ⟨h1, h2⟩ := hw x (by simp)
    have e : pickR w free (l' ++ [x]) = stepK w (pickR w free l') x := by simp [pickR, List.foldl_append]
    rw [e, stepK]
    cases ho : tkO (wsh w x.ms) (pickR w free l').free with
    | none => exact ih
    | some at' =>
      have ha := (tkO_ok (by omega) ho).1
      dsimp only
      rw [less_bit, ih, tk2_bit _ _ rfl, tk2_bit _ _ rfl, List.any_append, zip_any (by omega) (fun c => decide (c.toNat = i))]
      cases free.testBit i <;> simp
theorem bits_nil0 : ∀ s, s < 256 → bits s = [] → s = 0 := by decide +kernel
theorem best_none {m : Msk} {s : Nat} {a : Int} (h : bestB m s a = none) : alw m s = 0 := by
  rw [bestB] at h
  split at h
  · cases h
  · rw [nextB, List.find?_eq_none] at h
    have hb : bits (lik m s) = [] := by
      cases hb : bits (lik m s) with
      | nil => rfl
      | cons c l =>
        have hc : c ∈ bits (lik m s) := by rw [hb]; simp
        have := h c hc
        have := bits_bd hc
        simp at *
        omega
    have hl := bits_nil0 _ (lik_lt m s) hb
    rw [lik] at hl
    split at hl
    · rename_i hx; exact absurd hl hx
    · exact hl
theorem filter_find {w : List Wi} {v : Int} (h : (wsh w [v]).length = 1) : (wsh w [v]).getD 0 default = wshO w v := by
  have e : ∀ w : List Wi, (w.filter fun x => decide (x.v ∈ [v])).head? = w.find? fun x => decide (x.v = v) := fun w => by
    induction w with
    | nil => rfl
    | cons x w ih =>
      rw [List.filter_cons, List.find?_cons]
      by_cases hx : x.v = v
      · simp [hx]
      · have : ¬ x.v ∈ [v] := by simpa using hx
        rw [decide_eq_false this, decide_eq_false hx]
        exact ih
  have := e w
  rw [wsh] at h ⊢
  rw [wshO, ← this]
  cases hl : w.filter fun x => decide (x.v ∈ [v]) with
  | nil => rw [hl] at h; simp at h
  | cons y r => rfl
end Go.Proofs.YtnjgmjcokcfmkaaDoor
