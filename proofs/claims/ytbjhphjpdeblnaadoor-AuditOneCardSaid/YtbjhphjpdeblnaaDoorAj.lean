/- Watches: how long a vCPU was somewhere, as the document says it. No condition. -/
import Derived.Test.YtbjhphjpdeblnaaDoorAi
namespace Go.Proofs.YtbjhphjpdeblnaaDoor
open Go Go.Sy
set_option maxRecDepth 100000
set_option linter.unusedSimpArgs false
set_option linter.unusedVariables false

/-- The place of who is seen. -/
def idxX : List Se → Int → Nat
  | [], _ => 0
  | x :: l, v => if x.v = v then 0 else idxX l v + 1
theorem idx_find (v : Int) : ∀ l, (findX l v = none ∧ idxX l v = l.length) ∨ (idxX l v < l.length ∧ findX l v = some (l.getD (idxX l v) default))
  | [] => .inl ⟨rfl, rfl⟩
  | x :: l => by
    by_cases e : x.v = v
    · right
      rw [idxX, if_pos e, findX, List.find?_cons, decide_eq_true e]
      exact ⟨by simp, by simp⟩
    · rw [idxX, if_neg e, show findX (x :: l) v = findX l v by rw [findX, List.find?_cons, decide_eq_false e]; rfl]
      rcases idx_find v l with h | h
      · left; exact ⟨h.1, by simp [h.2]⟩
      · right; exact ⟨by simp [h.1], by simpa using h.2⟩
def seenI (l : List Se) (v : Int) : Int := if idxX l v < l.length then idxX l v else -1
theorem seenB_of {ms : List Mo} {en : Int} (h : WT ms en) {k : Nat} (hk : k < ms.length) : ∀ x ∈ (ms.getD k default).2, seenB x = true := fun x hx => by
  have hm := h.mom k hk
  rw [rightM, Bool.and_eq_true, List.all_eq_true] at hm
  obtain ⟨i, hi, rfl⟩ := List.mem_iff_getElem.1 hx
  have := hm.1 i (List.mem_range.2 hi)
  rw [momB, Bool.and_eq_true, getD_get hi] at this
  exact this.1
end Go.Proofs.YtbjhphjpdeblnaaDoor
