/- A row's bytes: Row. No condition. -/
import Derived.Test.YtmieikflcolbaaaLa
namespace Go.Proofs.Ytmieikflcolbaaa
open Go Go.Sy
set_option maxRecDepth 100000
set_option linter.unusedSimpArgs false
set_option linter.unusedVariables false
set_option maxHeartbeats 4000000
abbrev Es (l : List Evt) : SV := .rd 29 (l.map ec)
theorem bytC_le33 {a : Evt} {c : Nat} (h : fitC a c = true) : (bytC a c).length ≤ 33 := by
  unfold fitC at h
  unfold bytC
  have hL : ∀ l : List Int, fitL l = true → ((l.length : Int) :: l).length ≤ 33 := by
    intro l hl
    rw [fitL, Bool.and_eq_true, decide_eq_true_eq] at hl
    simp only [List.length_cons]; omega
  by_cases c1 : c = 109
  · simp only [c1, if_true, List.length_append, dig_length]; decide
  by_cases c2 : c = 77
  · simp only [c2, if_true, Nat.reduceEqDiff, if_false, List.length_append, dig_length]; decide
  by_cases c3 : c = 110
  · simp only [c3, if_true, Nat.reduceEqDiff, if_false, or_self] at h ⊢; exact hL _ h
  by_cases c4 : c = 78
  · simp only [c4, if_true, Nat.reduceEqDiff, if_false, or_self] at h ⊢; exact hL _ h
  simp only [c1, c2, c3, c4, if_false, dig_length]
  have := wid_le c
  omega
theorem flat_len {a : Evt} : ∀ l : List Nat, l.all (fitC a) = true → (l.flatMap (bytC a)).length ≤ l.length * 33
  | [], _ => Nat.le_refl _
  | c :: l, h => by
    rw [List.all_cons, Bool.and_eq_true] at h
    have := flat_len l h.2
    have := bytC_le33 h.1
    rw [List.flatMap_cons, List.length_append, List.length_cons]
    omega
theorem encB_len (a : Evt) (ha : wf a) : (encB a).length ≤ 140 := by
  by_cases h : encE a = 0
  · obtain ⟨h1, h2, -⟩ := encB_eq ha h
    rw [h1, bytE]
    rw [fitE] at h2
    have hh : (headB a).length ≤ 2 := by unfold headB; repeat' split
                                         all_goals (simp only [List.length_cons, List.length_nil]; omega)
    cases hf : fld a with
    | none => rw [hf] at h2; cases h2
    | some l =>
      rw [hf] at h2
      have h3 := flat_len l h2
      have h4 : l.length ≤ 4 := by
        unfold fld at hf
        repeat' split at hf
        · exact callL_len hf
        · exact liveL_len hf
        · cases hf; decide
        · cases hf
      dsimp only
      rw [List.length_append]
      omega
  · rw [encB, if_neg h]; exact Nat.zero_le _
def badAt : List Evt → Nat
  | [] => 0
  | a :: l => if encE a = 0 then badAt l + 1 else 0
def rowE (l : List Evt) : Int := if 2000 < l.length then 3 else if badAt l < l.length then 360 else 0
def rowAt (l : List Evt) : Int := if 2000 < l.length then 0 else if badAt l < l.length then badAt l else 0
def rowB (l : List Evt) : List Int := if rowE l = 0 then bytesF l.length 2 ++ l.flatMap encB else []
theorem flatE_len : ∀ l : List Evt, (∀ a ∈ l, wf a) → (l.flatMap encB).length ≤ l.length * 140
  | [], _ => Nat.le_refl _
  | a :: l, h => by
    have h1 := flatE_len l fun x hx => h x (by simp [hx])
    have h2 := encB_len a (h a (by simp))
    rw [List.flatMap_cons, List.length_append, List.length_cons]
    omega
theorem badAt_drop : ∀ (l : List Evt) (k : Nat), k ≤ l.length → (∀ a ∈ l.take k, encE a = 0) → badAt l = k + badAt (l.drop k)
  | l, 0, _, _ => by simp
  | [], k + 1, h, _ => absurd h (by simp)
  | a :: l, k + 1, h, hz => by
    have h1 : encE a = 0 := hz a (by simp)
    have h2 := badAt_drop l k (by simpa using h) fun x hx => hz x (by simp [hx])
    rw [badAt, if_pos h1, h2, List.drop_succ_cons]
    omega
theorem put16n (n : Int) (h0 : 0 ≤ n) (h1 : n ≤ 65535) : Con Try.prog gl0 (fnv 45) [.v (.slice none 0 0), .v (.int .u16 n)] 0 [] (RetRow 5 1 ((bytesF n 2).map (eI .u8))) := by
  have h := put16_ok [] n h0 h1 (by decide)
  rw [List.nil_append] at h
  exact Con.argR (fun ν => RelL.mapHead fun _ => nil_rd) h
end Go.Proofs.Ytmieikflcolbaaa
