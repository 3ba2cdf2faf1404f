/- Rows of bytes; bytes.Equal. No condition. -/
import Derived.Test.YtmieikflcolbaaaGz
import Derived.Laws.Strings
import Derived.Laws.BytesArg
namespace Go.Proofs.Ytmieikflcolbaaa
open Go Go.Sy
set_option maxRecDepth 100000
set_option linter.unusedSimpArgs false
set_option linter.unusedVariables false
abbrev By (l : List Int) : SV := .rd 1 (l.map (eI .u8))
abbrev isB (l : List Int) : Prop := ∀ n ∈ l, 0 ≤ n ∧ n ≤ 255
theorem rowInts_u8 (l : List Int) : rowInts (l.map (eI .u8)) = some l := by
  induction l with
  | nil => rfl
  | cons n l ih => simp only [List.map_cons, eI, rowInts] at ih ⊢; rw [ih]
theorem strOf_list (l : List Int) : (strOf l).toList = l.map fun n => UInt8.ofNat n.toNat := by
  rw [strOf, foldl_push_bytes, ByteArray.toList_eq]
  simp
theorem map_u8 : ∀ (a b : List Int), isB a → isB b → ((a.map fun n => UInt8.ofNat n.toNat) = b.map fun n => UInt8.ofNat n.toNat) → a = b
  | [], [], _, _, _ => rfl
  | [], _ :: _, _, _, h => by simp at h
  | _ :: _, [], _, _, h => by simp at h
  | m :: a, n :: b, ha, hb, h => by
    simp only [List.map_cons, List.cons.injEq] at h
    have h1 := ha m (by simp)
    have h2 := hb n (by simp)
    have h3 := congrArg UInt8.toNat h.1
    rw [UInt8.toNat_ofNat', UInt8.toNat_ofNat'] at h3
    rw [map_u8 a b (fun x hx => ha x (by simp [hx])) (fun x hx => hb x (by simp [hx])) h.2]
    congr 1
    omega
theorem strOf_eq {a b : List Int} (ha : isB a) (hb : isB b) : ((strOf a).toList == (strOf b).toList) = decide (a = b) := by
  rw [strOf_list, strOf_list]
  by_cases h : a = b
  · subst h; simp
  · rw [decide_eq_false h]
    exact beq_false_of_ne fun e => h (map_u8 a b ha hb e)
theorem bequal_ok (a b : List Int) (ha : isB a) (hb : isB b) : Con Try.prog gl0 (fnv 15) [By a, By b] 0 [] (Ret (Bo (decide (a = b)))) := by
  have ra := rowInts_u8 a
  have rb := rowInts_u8 b
  have e := strOf_eq ha hb
  refine Con.of Try.ok15 (nt := 10) (res := [.tmp 4]) Try.mixed Try.func15 rfl rfl rfl rfl fun κ xc hκ => hκ.run 300 ?_
  simp (disch := omega) only [push_cast, simprocAttr, sConv, ra, rb, e]
  refine hκ.ret _ _ _ _ _ _ trivial rfl ?_
  exact .ret trivial
end Go.Proofs.Ytmieikflcolbaaa
