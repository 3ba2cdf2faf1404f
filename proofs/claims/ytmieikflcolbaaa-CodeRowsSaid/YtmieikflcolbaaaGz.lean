/- Sets of pCPUs as numbers; their bits. No condition. -/
import Derived.Test.YtmieikflcolbaaaSyu
namespace Go.Proofs.Ytmieikflcolbaaa
open Go Go.Sy
set_option maxRecDepth 100000
set_option linter.unusedSimpArgs false
set_option linter.unusedVariables false
abbrev gl0 : Gl := []
attribute [push_cast] gl0
abbrev S (s : Nat) : SV := .v (.int .u32 s)
abbrev I (n : Int) : SV := .v (.int .i64 n)
abbrev Bo (b : Bool) : SV := .v (.bool b)
def bitN (c : Int) : Nat := if 0 ≤ c ∧ c < 8 then 2 ^ c.toNat else 0
def hasB (s : Nat) (c : Int) : Bool := decide (0 ≤ c ∧ c < 8) && s.testBit c.toNat
def dif (a b : Nat) : Nat := a ^^^ (a &&& b)
def bits (s : Nat) : List Int := List.map (fun c : Nat => (c : Int)) (List.filter (fun c => s.testBit c) (List.range 8))
theorem bndL_mapV {α : Type} (f : α → Value) (l : List α) (m : Nat) : SV.bndL m (l.map fun a => .v (f a)) := by
  induction l with
  | nil => trivial
  | cons a l ih => exact ⟨trivial, ih⟩
theorem renL_mapV {α : Type} (f : α → Value) (l : List α) (σ : Nat → Nat) : SV.renL σ (l.map fun a => .v (f a)) = l.map fun a => .v (f a) := by
  induction l with
  | nil => rfl
  | cons a l ih => simp only [List.map_cons, SV.renL, SV.ren, ih]
def low : Nat → Nat → Nat
  | 0, _ => 0
  | f + 1, s => if s % 2 = 1 then 0 else low f (s / 2) + 1
end Go.Proofs.Ytmieikflcolbaaa
