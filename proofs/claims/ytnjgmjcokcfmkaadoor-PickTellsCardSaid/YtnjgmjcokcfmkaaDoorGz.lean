/- Sets of pCPUs as numbers; their bits. No condition. -/
import Derived.Test.YtnjgmjcokcfmkaaDoorSyu
namespace Go.Proofs.YtnjgmjcokcfmkaaDoor
open Go Go.Sy
set_option maxRecDepth 100000
set_option linter.unusedSimpArgs false
set_option linter.unusedVariables false

/-- What is laid. -/
def tab0 : List Value := [.int .u8 0, .int .u8 1, .int .u8 28, .int .u8 2, .int .u8 29, .int .u8 14, .int .u8 24, .int .u8 3, .int .u8 30, .int .u8 22, .int .u8 20, .int .u8 15, .int .u8 25, .int .u8 17, .int .u8 4, .int .u8 8, .int .u8 31, .int .u8 27, .int .u8 13, .int .u8 23, .int .u8 21, .int .u8 19, .int .u8 16, .int .u8 7, .int .u8 26, .int .u8 12, .int .u8 18, .int .u8 6, .int .u8 11, .int .u8 5, .int .u8 10, .int .u8 9]
def gl0 : Gl := [(0, tab0)]
attribute [push_cast] gl0
abbrev S (s : Nat) : SV := .v (.int .u32 s)
abbrev I (n : Int) : SV := .v (.int .i64 n)
abbrev Bo (b : Bool) : SV := .v (.bool b)
theorem retI {k : IntKind} {a b : Int} {H : Heap} {nx : Nat} (h : a = b) : Post 0 (Ret (.v (.int k b))) (.v (.int k a)) H nx := h ▸ .ret trivial
/-- The set of one. -/
def bitN (c : Int) : Nat := if 0 ≤ c ∧ c < 8 then 2 ^ c.toNat else 0
def hasB (s : Nat) (c : Int) : Bool := decide (0 ≤ c ∧ c < 8) && s.testBit c.toNat
/-- What is in one, and not in the other. -/
def dif (a b : Nat) : Nat := a ^^^ (a &&& b)
/-- Those in a set, rising. -/
def bits (s : Nat) : List Int := List.map (fun c : Nat => (c : Int)) (List.filter (fun c => s.testBit c) (List.range 8))

theorem bndL_mapV {α : Type} (f : α → Value) (l : List α) (m : Nat) : SV.bndL m (l.map fun a => .v (f a)) := by
  induction l with
  | nil => trivial
  | cons a l ih => exact ⟨trivial, ih⟩
theorem renL_mapV {α : Type} (f : α → Value) (l : List α) (σ : Nat → Nat) : SV.renL σ (l.map fun a => .v (f a)) = l.map fun a => .v (f a) := by
  induction l with
  | nil => rfl
  | cons a l ih => simp only [List.map_cons, SV.renL, SV.ren, ih]
theorem bv32 (n : Nat) : BitVec.ofInt 32 (n : Int) = BitVec.ofNat 32 n := by simp
theorem and32 {a b : Nat} (ha : a < 4294967296) (hb : b < 4294967296) : ibits .and .u32 (a : Int) (b : Int) = ((a &&& b : Nat) : Int) := by
  show IntKind.u32.wrap (((BitVec.ofInt 32 (a : Int)) &&& (BitVec.ofInt 32 (b : Int))).toNat : Int) = _
  rw [bv32, bv32, BitVec.toNat_and, BitVec.toNat_ofNat, BitVec.toNat_ofNat, Nat.mod_eq_of_lt ha, Nat.mod_eq_of_lt hb]
  have := Nat.and_le_left (n := a) (m := b)
  exact wrap_u32 (by omega) (by omega)
theorem or32 {a b : Nat} (ha : a < 4294967296) (hb : b < 4294967296) : ibits .or .u32 (a : Int) (b : Int) = ((a ||| b : Nat) : Int) := by
  show IntKind.u32.wrap (((BitVec.ofInt 32 (a : Int)) ||| (BitVec.ofInt 32 (b : Int))).toNat : Int) = _
  rw [bv32, bv32, BitVec.toNat_or, BitVec.toNat_ofNat, BitVec.toNat_ofNat, Nat.mod_eq_of_lt ha, Nat.mod_eq_of_lt hb]
  have : a ||| b < 2 ^ 32 := Nat.or_lt_two_pow ha hb
  exact wrap_u32 (by omega) (by omega)
theorem dif_bit (a b i : Nat) : (dif a b).testBit i = (a.testBit i && !b.testBit i) := by
  rw [dif, Nat.testBit_xor, Nat.testBit_and]; cases a.testBit i <;> cases b.testBit i <;> rfl
theorem dif_le (a b : Nat) : dif a b ≤ a := by
  have h : dif a b = a &&& (dif a b) := by
    apply Nat.eq_of_testBit_eq; intro i
    rw [Nat.testBit_and, dif_bit]; cases a.testBit i <;> rfl
  rw [h]; exact Nat.and_le_left
theorem andNot32 {a b : Nat} (ha : a < 4294967296) (hb : b < 4294967296) : ibits .andNot .u32 (a : Int) (b : Int) = ((dif a b : Nat) : Int) := by
  show IntKind.u32.wrap (((BitVec.ofInt 32 (a : Int)) &&& ~~~(BitVec.ofInt 32 (b : Int))).toNat : Int) = _
  have e : ((BitVec.ofInt 32 (a : Int)) &&& ~~~(BitVec.ofInt 32 (b : Int))).toNat = dif a b := by
    rw [bv32, bv32]
    apply Nat.eq_of_testBit_eq; intro i
    rw [dif_bit, BitVec.testBit_toNat, BitVec.getLsbD_and, BitVec.getLsbD_not, BitVec.getLsbD_ofNat, BitVec.getLsbD_ofNat]
    by_cases hi : i < 32
    · simp [hi]
    · have : a.testBit i = false := Nat.testBit_lt_two_pow (Nat.lt_of_lt_of_le ha (show 2 ^ 32 ≤ 2 ^ i from Nat.pow_le_pow_right (by decide) (by omega)))
      simp [hi, this]
  rw [e]
  have := dif_le a b
  exact wrap_u32 (by omega) (by omega)
theorem and32_255 {a : Nat} (ha : a < 4294967296) : ibits .and .u32 (a : Int) 255 = ((a &&& 255 : Nat) : Int) := and32 ha (b := 255) (by decide)
theorem andNot32_255 {a : Nat} (ha : a < 4294967296) : ibits .andNot .u32 (a : Int) 255 = ((dif a 255 : Nat) : Int) := andNot32 ha (b := 255) (by decide)
theorem xor_zero {a b : Nat} (h : a ^^^ b = 0) : a = b := by
  apply Nat.eq_of_testBit_eq; intro i
  have := congrArg (fun n => n.testBit i) h
  simp only [Nat.testBit_xor, Nat.zero_testBit] at this
  revert this; cases a.testBit i <;> cases b.testBit i <;> decide
theorem and_255 (a : Nat) : a &&& 255 = a % 256 := Nat.and_two_pow_sub_one_eq_mod a 8
theorem dif_zero {a b : Nat} : dif a b = 0 ↔ ∀ i, a.testBit i = true → b.testBit i = true := by
  constructor
  · intro h i hi
    have := dif_bit a b i
    rw [h, hi] at this
    simpa using this.symm
  · intro h
    apply Nat.eq_of_testBit_eq; intro i
    rw [dif_bit, Nat.zero_testBit]
    cases ha : a.testBit i
    · rfl
    · rw [h i ha]; rfl
theorem dif_255 (a : Nat) : dif a 255 = 0 ↔ a < 256 := by
  constructor
  · intro h
    have := xor_zero (show a ^^^ (a &&& 255) = 0 from h)
    rw [and_255] at this
    omega
  · intro h
    show a ^^^ (a &&& 255) = 0
    rw [and_255, Nat.mod_eq_of_lt h, Nat.xor_self]
theorem bitN_lt (c : Int) : bitN c < 256 := by
  unfold bitN
  split
  · rename_i h
    have : c.toNat = 0 ∨ c.toNat = 1 ∨ c.toNat = 2 ∨ c.toNat = 3 ∨ c.toNat = 4 ∨ c.toNat = 5 ∨ c.toNat = 6 ∨ c.toNat = 7 := by omega
    rcases this with h | h | h | h | h | h | h | h <;> rw [h] <;> decide
  · decide
theorem pow_lt_256 {c : Nat} (h : c < 8) : 2 ^ c < 256 := Nat.pow_lt_pow_right (by decide) (show c < 8 from h)
theorem bitN_of {c : Nat} (h : c < 8) : bitN (c : Int) = 2 ^ c := by
  rw [bitN, if_pos ⟨by omega, by omega⟩]; simp
theorem bitN_zero {c : Int} : bitN c = 0 ↔ ¬ (0 ≤ c ∧ c < 8) := by
  unfold bitN
  split
  · rename_i h
    have : 0 < 2 ^ c.toNat := Nat.two_pow_pos _
    constructor <;> intro h' <;> first | omega | exact absurd h h'
  · rename_i h; exact ⟨fun _ => h, fun _ => rfl⟩
theorem has_and (s : Nat) (c : Int) : (!decide (((s &&& bitN c : Nat) : Int) = 0)) = hasB s c := by
  have e : (((s &&& bitN c : Nat) : Int) = 0) ↔ (s &&& bitN c = 0) := by omega
  rw [show decide (((s &&& bitN c : Nat) : Int) = 0) = decide (s &&& bitN c = 0) from decide_eq_decide.2 e]
  unfold hasB bitN
  split
  · rename_i h
    rw [decide_eq_true h, Bool.true_and]
    cases hb : s.testBit c.toNat
    · have : s &&& 2 ^ c.toNat = 0 := by
        apply Nat.eq_of_testBit_eq; intro i
        rw [Nat.testBit_and, Nat.testBit_two_pow, Nat.zero_testBit]
        by_cases hi : c.toNat = i
        · subst hi; rw [hb]; rfl
        · simp [hi]
      rw [this]; rfl
    · have : s &&& 2 ^ c.toNat ≠ 0 := fun h0 => by
        have h1 := congrArg (fun n => n.testBit c.toNat) h0
        simp [Nat.testBit_and, Nat.testBit_two_pow, hb] at h1
      simp [this]
  · rename_i h
    rw [decide_eq_false h]; simp
theorem testBit_pow (c i : Nat) : (2 ^ c).testBit i = decide (c = i) := by rw [Nat.testBit_two_pow]
theorem hasB_nat {s c : Nat} (h : c < 8) : hasB s (c : Int) = s.testBit c := by
  rw [hasB, decide_eq_true ⟨by omega, by omega⟩, Bool.true_and, Int.toNat_natCast]
theorem mem_bits {s : Nat} {c : Int} : c ∈ bits s ↔ hasB s c = true := by
  simp only [bits, List.mem_map, List.mem_filter, List.mem_range, hasB, Bool.and_eq_true, decide_eq_true_eq]
  constructor
  · rintro ⟨n, ⟨h1, h2⟩, rfl⟩
    exact ⟨⟨by omega, by omega⟩, by simpa using h2⟩
  · rintro ⟨⟨h1, h2⟩, h3⟩
    exact ⟨c.toNat, ⟨by omega, h3⟩, by omega⟩
/-- The least one. -/
def low : Nat → Nat → Nat
  | 0, _ => 0
  | f + 1, s => if s % 2 = 1 then 0 else low f (s / 2) + 1
theorem low_lt (s : Nat) : low 8 s ≤ 8 := by
  have : ∀ f s, low f s ≤ f := by
    intro f; induction f with
    | zero => intro s; simp [low]
    | succ f ih => intro s; rw [low]; split; omega; have := ih (s / 2); omega
  exact this 8 s
theorem bits_step : ∀ s, s < 256 → s ≠ 0 → bits s = (low 8 s : Int) :: bits (s &&& (s - 1)) ∧ s &&& (s - 1) < s ∧ low 8 s < 8 := by decide +kernel
theorem bits_bd {s : Nat} {c : Int} (h : c ∈ bits s) : 0 ≤ c ∧ c < 8 := by
  have := mem_bits.1 h
  simp only [hasB, Bool.and_eq_true, decide_eq_true_eq] at this
  exact this.1
theorem bits_len (s : Nat) : (bits s).length ≤ 8 := by
  have h := List.length_filter_le (fun c => s.testBit c) (List.range 8)
  simpa [bits] using h
theorem bits_zero : bits 0 = [] := by decide
theorem bits_mod (s : Nat) : bits (s % 256) = bits s := by
  unfold bits
  congr 1
  apply List.filter_congr
  intro c hc
  rw [show (256 : Nat) = 2 ^ 8 from rfl, Nat.testBit_mod_two_pow]
  simp at hc
  simp [hc]
end Go.Proofs.YtnjgmjcokcfmkaaDoor
