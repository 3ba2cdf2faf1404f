/- On rows of wishes: what is placed of parts of a row. No condition. -/
import Derived.Test.YtnjgmjcokcfmkaaDoorPl
namespace Go.Proofs.YtnjgmjcokcfmkaaDoor
open Go Go.Sy
set_option maxRecDepth 100000
set_option linter.unusedSimpArgs false
set_option linter.unusedVariables false

theorem foldP (l : List Wi) : ∀ st : Run, l.foldl stepP st = ⟨(runP st.free l).free, st.puts ++ (runP st.free l).puts, st.waits ++ (runP st.free l).waits, st.moved + (runP st.free l).moved⟩ := by
  suffices H : ∀ (l : List Wi) (f : Nat) (p q : List (Int × Int)) (w v : List Int) (m n : Nat),
      l.foldl stepP ⟨f, p ++ q, w ++ v, m + n⟩ = ⟨(l.foldl stepP ⟨f, q, v, n⟩).free, p ++ (l.foldl stepP ⟨f, q, v, n⟩).puts, w ++ (l.foldl stepP ⟨f, q, v, n⟩).waits, m + (l.foldl stepP ⟨f, q, v, n⟩).moved⟩ by
    intro st
    have := H l st.free st.puts [] st.waits [] st.moved 0
    simpa [runP] using this
  intro l
  induction l with
  | nil => intros; rfl
  | cons w l ih =>
    intro f p q ws v m n
    simp only [List.foldl_cons, stepP]
    cases takesW w f with
    | none => simp only [List.append_assoc]; exact ih ..
    | some c =>
      simp only [List.append_assoc]
      split
      · rw [Nat.add_assoc]; exact ih ..
      · exact ih ..
theorem runP_append (free : Nat) (a b : List Wi) : runP free (a ++ b) = ⟨(runP (runP free a).free b).free, (runP free a).puts ++ (runP (runP free a).free b).puts, (runP free a).waits ++ (runP (runP free a).free b).waits, (runP free a).moved + (runP (runP free a).free b).moved⟩ := by
  rw [runP, List.foldl_append]; exact foldP b _
theorem okWs_append (b : List Wi) : ∀ (a pre : List Wi), okWs pre (a ++ b) = (okWs pre a && okWs (pre ++ a) b)
  | [], pre => by simp [okWs]
  | w :: a, pre => by simp only [List.cons_append, okWs, okWs_append b a, List.append_assoc, List.cons_append, List.nil_append, Bool.and_assoc]
theorem okB_less {p pre : List Wi} {w : Wi} (h : okB (p ++ pre) w = true) : okB pre w = true := by
  simp only [okB, List.any_append, Bool.and_eq_true, Bool.not_eq_true', Bool.or_eq_false_iff, Bool.and_eq_false_iff] at h ⊢
  obtain ⟨⟨h1, h2⟩, h3⟩ := h
  refine ⟨⟨h1, h2.2⟩, ?_⟩
  rcases h3 with h3 | h3
  · exact .inl h3
  · exact .inr h3.2
theorem okWs_less {p : List Wi} : ∀ (l pre : List Wi), okWs (p ++ pre) l = true → okWs pre l = true
  | [], _, _ => rfl
  | w :: l, pre, h => by
    simp only [okWs, Bool.and_eq_true] at h ⊢
    exact ⟨okB_less h.1, okWs_less l (pre ++ [w]) (by rw [← List.append_assoc]; exact h.2)⟩
theorem okWs_mask : ∀ (l pre : List Wi), okWs pre l = true → ∀ w ∈ l, okM w.m = true
  | [], _, _, w, hw => by simp at hw
  | u :: l, pre, h, w, hw => by
    simp only [okWs, okB, ok1, Bool.and_eq_true] at h
    rcases List.mem_cons.1 hw with rfl | hw
    · exact h.1.1.1.2
    · exact okWs_mask l _ h.2 w hw
theorem askE_zero {l : List Wi} {free : Nat} : askE l free = 0 ↔ okWs [] l = true ∧ free < 256 := by
  unfold askE
  split
  · split <;> simp_all
  · simp_all
theorem placeV_ok {l : List Wi} {free : Nat} (h : askE l free = 0) : placeV l free = .tup [Ps (runP free l).puts, S (runP free l).free, I 0] := by rw [placeV, if_pos h]
theorem placeV_no {l : List Wi} {free : Nat} (h : askE l free ≠ 0) : placeV l free = .tup [nilS, S 0, I (askE l free)] := by rw [placeV, if_neg h]
theorem placeV_closed (l : List Wi) (free : Nat) : (placeV l free).closed := by
  unfold placeV; split <;> simp [SV.bnd, SV.bndL]
end Go.Proofs.YtnjgmjcokcfmkaaDoor
