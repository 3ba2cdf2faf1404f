/- Watches: a moment is added, as the document says it. No condition. -/
import Derived.Test.YtbjhphjpdeblnaaAf
namespace Go.Proofs.Ytbjhphjpdeblnaa
open Go Go.Sy
set_option maxRecDepth 100000
set_option linter.unusedSimpArgs false
set_option linter.unusedVariables false

theorem keepW_filter {ms : List Mo} {en t : Int} (h : WT ms en) (hn : en ≤ t) : ms.filter (fun m => decide (¬ m.1 = t)) = ms.take (keepW ms t) := by
  have hin : ∀ k, k < keepW ms t → ¬ aW ms k = t := fun k hk e => by
    unfold keepW at hk
    split at hk
    · rename_i h1
      have := h.mono (i := k) (j := ms.length - 1) (by omega) (by omega)
      omega
    · rename_i h1
      by_cases e2 : k = ms.length - 1
      · subst e2; exact h1 ⟨by omega, e⟩
      · have := h.mono (i := k) (j := ms.length - 1) (by omega) (by omega)
        have := h.atE (ms.length - 1) (by omega)
        omega
  have hall : (ms.take (keepW ms t)).filter (fun m => decide (¬ m.1 = t)) = ms.take (keepW ms t) := by
    rw [List.filter_eq_self]
    intro m hm
    obtain ⟨i, hi, e⟩ := List.mem_iff_getElem.1 hm
    rw [List.getElem_take] at e
    rw [List.length_take] at hi
    have := hin i (by omega)
    rw [aW, getD_get (by omega), e] at this
    simpa using this
  by_cases e : ms.length ≠ 0 ∧ aW ms (ms.length - 1) = t
  · have ek : keepW ms t = ms.length - 1 := by rw [keepW, if_pos e]
    rw [ek] at hall ⊢
    have h7 := take_getD (l := ms) (k := ms.length - 1) (by omega)
    rw [show ms.length - 1 + 1 = ms.length by omega, List.take_length] at h7
    conv => lhs; rw [h7]
    rw [List.filter_append, hall, List.filter_cons_of_neg (by rw [decide_eq_true_eq]; exact fun h => h e.2)]
    simp
  · have ek : keepW ms t = ms.length := by rw [keepW, if_neg e]
    rw [ek, List.take_length] at hall
    rw [ek, List.take_length, hall]
end Go.Proofs.Ytbjhphjpdeblnaa
