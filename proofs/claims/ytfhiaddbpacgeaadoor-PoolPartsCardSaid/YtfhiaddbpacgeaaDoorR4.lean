/- Walks of the reference's words on sets. No condition. -/
import Derived.Test.YtfhiaddbpacgeaaDoorCl
namespace Go.Proofs.YtfhiaddbpacgeaaDoor
open Go Go.Sy
set_option maxRecDepth 100000
set_option linter.unusedSimpArgs false
set_option linter.unusedVariables false

abbrev Is (l : List Int) : SV := .rd 1 (l.map (eI .i64))
theorem take_eq_succ' {α : Type} [Inhabited α] {us bs : List α} {k : Nat} (ha : k < us.length) (hb : k < bs.length) (h : us.take k = bs.take k) (e : us.getD k default = bs.getD k default) : us.take (k + 1) = bs.take (k + 1) := by
  rw [List.take_succ_eq_append_getElem ha, List.take_succ_eq_append_getElem hb, h]
  simp only [List.getD, List.getElem?_eq_getElem ha, List.getElem?_eq_getElem hb, Option.getD_some] at e
  rw [e]
theorem drop_find {p : Int → Bool} {l : List Int} {k : Nat} (h : k < l.length) : (l.drop k).find? p = if p (l.getD k default) = true then some (l.getD k default) else (l.drop (k + 1)).find? p := by
  rw [List.drop_eq_getElem_cons h, List.find?_cons]
  simp only [List.getD, List.getElem?_eq_getElem h, Option.getD_some]
  cases p l[k] <;> rfl
theorem bit_div (s c : Nat) : decide ((s : Int) / 2 ^ c % 2 = 1) = s.testBit c := by
  rw [Nat.testBit_eq_decide_div_mod_eq]
  apply decide_eq_decide.2
  have : (s : Int) / 2 ^ c % 2 = ((s / 2 ^ c % 2 : Nat) : Int) := by simp
  rw [this]; omega

end Go.Proofs.YtfhiaddbpacgeaaDoor
