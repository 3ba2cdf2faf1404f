/- Traces that may be, without any program: a picture is put at the end. No condition. -/
import Derived.Test.YtcpanpkhdcifoaaVc
namespace Go.Proofs.Ytcpanpkhdcifoaa
open Go Go.Sy
set_option maxRecDepth 100000
set_option linter.unusedSimpArgs false
set_option linter.unusedVariables false

/-- How many frames stay when one is put at the end. -/
def keepN (fs : List Fr) (en : Int) : Nat := if fs.length ≠ 0 ∧ aT fs (fs.length - 1) = en then fs.length - 1 else fs.length
/-- The frames with a picture from the end on. -/
def addT (fs : List Fr) (en : Int) (l : List Pt) : List Fr := if keepN fs en ≠ 0 ∧ pT fs (keepN fs en - 1) = l then fs.take (keepN fs en) else fs.take (keepN fs en) ++ [(en, l)]
theorem keepN_le (fs : List Fr) (en : Int) : keepN fs en ≤ fs.length := by unfold keepN; split <;> omega
theorem addT_len (fs : List Fr) (en : Int) (l : List Pt) : (addT fs en l).length ≤ fs.length + 1 := by
  have := keepN_le fs en
  unfold addT; split <;> simp <;> omega
theorem addT_mem {fs : List Fr} {en : Int} {l : List Pt} {f : Fr} (h : f ∈ addT fs en l) : f ∈ fs ∨ f = (en, l) := by
  unfold addT at h
  split at h
  · exact .inl (List.mem_of_mem_take h)
  · rcases List.mem_append.1 h with h | h
    · exact .inl (List.mem_of_mem_take h)
    · exact .inr (List.mem_singleton.1 h)
/-- The last frame that stays began ahead. -/
theorem keepN_last {fs : List Fr} {en now : Int} (h : RT fs en) (hn : en ≤ now) (i : Nat) (hi : i + 1 = keepN fs now) : aT fs i < now ∧ (i + 1 < fs.length → aT fs (i + 1) = now ∧ en = now ∧ i + 2 = fs.length) := by
  unfold keepN at hi
  by_cases e : fs.length ≠ 0 ∧ aT fs (fs.length - 1) = now
  · rw [if_pos e] at hi
    have h1 := h.inc i (by omega)
    have h2 := h.atE (fs.length - 1) (by omega)
    rw [show fs.length - 1 = i + 1 by omega] at e h2
    exact ⟨by omega, fun _ => ⟨e.2, by omega, by omega⟩⟩
  · rw [if_neg e] at hi
    have h2 := h.atE i (by omega)
    refine ⟨?_, fun h3 => by omega⟩
    by_cases e3 : aT fs i = now
    · exact absurd ⟨by omega, by rw [show fs.length - 1 = i by omega]; exact e3⟩ e
    · omega
theorem RT.add {fs : List Fr} {en now : Int} {l : List Pt} (h : RT fs en) (hn : en ≤ now) (h2 : now ≤ 1125899906842624) (hl : okPic l = true) (hlen : fs.length + 1 ≤ 4000) : RT (addT fs now l) now := by
  have hk := keepN_le fs now
  have h3 := (h.take (keepN fs now)).late hn h2
  unfold addT
  split
  · exact h3
  · rename_i e
    refine h3.snoc (fun i hi => ?_) hl (Int.le_trans h.en0 hn) (Int.le_refl _) h2 (by simp; omega)
    rw [List.length_take, Nat.min_eq_left hk] at hi
    rw [aT, pT, getD_take (by omega)]
    refine ⟨(keepN_last h hn i hi).1, fun e2 => e ⟨by omega, ?_⟩⟩
    rw [show keepN fs now - 1 = i by omega]; exact e2
/-- It is shown from then on. -/
theorem add_at {fs : List Fr} {en now : Int} {l : List Pt} (h : RT fs en) (hn : en ≤ now) (h2 : now + 1 ≤ 1125899906842624) (hl : okPic l = true) (hlen : fs.length + 1 ≤ 4000) : atP (addT fs now l) (now + 1) now = some l := by
  have hk := keepN_le fs now
  rw [atP_iff ((h.add hn (by omega) hl hlen).late (by omega) h2)]
  unfold addT
  split
  · rename_i e
    have h3 := (keepN_last h hn (keepN fs now - 1) (by omega)).1
    refine ⟨keepN fs now - 1, by simp; omega, ?_, ?_, ?_⟩
    · rw [aT, getD_take (by omega)]; exact Int.le_of_lt h3
    · rw [untilT_end (by simp; omega)]; omega
    · rw [pT, getD_take (by omega)]; exact e.2
  · rw [Sh_snoc]
    exact .inr ⟨Int.le_refl _, by omega, rfl⟩
theorem longK_take {fs gs : List Fr} {en en' f t : Int} {q : Pt → Bool} : ∀ k, (∀ j, j < k → (pT fs j).any q = (pT gs j).any q ∧ cutI (aT fs j) (untilT fs en j) f t = cutI (aT gs j) (untilT gs en' j) f t) → longK fs en f t q k = longK gs en' f t q k
  | 0, _ => rfl
  | k + 1, h => by
    rw [longK, longK, longK_take k fun j hj => h j (by omega), (h k (by omega)).1, (h k (by omega)).2]
theorem addT_getD {fs : List Fr} {now : Int} {l : List Pt} {j : Nat} (hj : j < keepN fs now) : (addT fs now l).getD j default = fs.getD j default := by
  have hk := keepN_le fs now
  unfold addT
  split
  · exact getD_take hj
  · rw [getD_snoc_lt (by simp; omega), getD_take hj]
theorem addT_keep_le {fs : List Fr} {now : Int} {l : List Pt} : keepN fs now ≤ (addT fs now l).length := by
  have hk := keepN_le fs now
  unfold addT; split <;> simp <;> omega
/-- When what stays ends. -/
theorem addT_until {fs : List Fr} {now : Int} {l : List Pt} {j : Nat} (hj : j < keepN fs now) : untilT (addT fs now l) now j = if j + 1 < keepN fs now then untilT fs now j else now := by
  have hk := keepN_le fs now
  have hk2 := addT_keep_le (fs := fs) (now := now) (l := l)
  split
  · rename_i e
    rw [untilT_in (by omega), untilT_in (by omega), aT, addT_getD e]
  · rename_i e
    unfold addT
    split
    · rw [untilT_end (by simp; omega)]
    · rw [untilT_snoc (by simp; omega), untilT_end (by simp; omega)]
/-- What it told of times ahead it tells still. -/
theorem add_long {fs : List Fr} {en now : Int} {l : List Pt} (h : RT fs en) (hn : en ≤ now) (q : Pt → Bool) : longT (addT fs now l) now 0 en q = longT fs en 0 en q := by
  have hk := keepN_le fs now
  have e1 : longK (addT fs now l) now 0 en q (keepN fs now) = longK fs en 0 en q (keepN fs now) := by
    refine longK_take _ fun j hj => ?_
    rw [pT, aT, addT_getD hj, addT_until hj]
    refine ⟨rfl, ?_⟩
    split
    · rename_i e
      rw [untilT_in (by omega), untilT_in (by omega)]
    · rename_i e
      have h3 := keepN_last h hn j (by omega)
      by_cases e2 : j + 1 < fs.length
      · rw [untilT_in e2, (h3.2 e2).1]
      · rw [untilT_end e2, cutI, cutI, Int.min_eq_right hn, Int.min_self]
  have e2 : longT (addT fs now l) now 0 en q = longK (addT fs now l) now 0 en q (keepN fs now) := by
    unfold longT
    generalize hr : longK (addT fs now l) now 0 en q (keepN fs now) = r
    by_cases e : keepN fs now ≠ 0 ∧ pT fs (keepN fs now - 1) = l
    · have : (addT fs now l).length = keepN fs now := by rw [addT, if_pos e]; simp; omega
      rw [this, hr]
    · have h4 : addT fs now l = fs.take (keepN fs now) ++ [(now, l)] := by rw [addT, if_neg e]
      have h5 : (fs.take (keepN fs now)).length = keepN fs now := by simp; omega
      have h6 : (addT fs now l).length = keepN fs now + 1 := by rw [h4, List.length_append, h5]; rfl
      rw [h6, longK, hr]
      have h7 : aT (addT fs now l) (keepN fs now) = now := by rw [aT, h4, getD_snoc_eq h5.symm]
      have h8 : untilT (addT fs now l) now (keepN fs now) = now := untilT_end (by omega)
      rw [h7, h8]
      have := h.en0
      have h9 : cutI now now 0 en = 0 := by unfold cutI; split <;> omega
      rw [h9]; split <;> omega
  rw [e2, e1, longT]
  by_cases e : fs.length ≠ 0 ∧ aT fs (fs.length - 1) = now
  · have h5 : keepN fs now = fs.length - 1 := by rw [keepN, if_pos e]
    have h6 : fs.length = (fs.length - 1) + 1 := by omega
    rw [h5]
    conv => rhs; rw [h6, longK]
    have h7 := h.until (k := fs.length - 1) (by omega)
    have := h.en0
    have h9 : cutI (aT fs (fs.length - 1)) (untilT fs en (fs.length - 1)) 0 en = 0 := by unfold cutI; split <;> omega
    rw [h9]; split <;> omega
  · rw [keepN, if_neg e]
/-- As the document says it. -/
theorem addT_ref {fs : List Fr} {en now : Int} {l : List Pt} (h : RT fs en) (hn : en ≤ now) (e : fs.length ≠ 0 ∧ pT fs (fs.length - 1) = l) : addT fs now l = fs := by
  by_cases e2 : fs.length ≠ 0 ∧ aT fs (fs.length - 1) = now
  · have h5 : keepN fs now = fs.length - 1 := by rw [keepN, if_pos e2]
    have h6 : fs.take (fs.length - 1) ++ [(now, l)] = fs := by
      have h7 := take_getD (l := fs) (k := fs.length - 1) (by omega)
      rw [show fs.length - 1 + 1 = fs.length by omega, List.take_length] at h7
      conv => rhs; rw [h7]
      rw [← e2.2, ← e.2]
    rw [addT, h5]
    split
    · rename_i e3
      have := h.ne (fs.length - 1 - 1) (by omega)
      rw [show fs.length - 1 - 1 + 1 = fs.length - 1 by omega, e3.2, e.2] at this
      exact absurd rfl this
    · exact h6
  · have h5 : keepN fs now = fs.length := by rw [keepN, if_neg e2]
    rw [addT, h5, if_pos e, List.take_length]
end Go.Proofs.Ytcpanpkhdcifoaa
