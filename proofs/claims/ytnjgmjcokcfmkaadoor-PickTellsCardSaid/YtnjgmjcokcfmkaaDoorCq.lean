/- cpuset.Count; how many are in a set. No condition. -/
import Derived.Test.YtnjgmjcokcfmkaaDoorCl
namespace Go.Proofs.YtnjgmjcokcfmkaaDoor
open Go Go.Sy
set_option maxRecDepth 100000
set_option linter.unusedSimpArgs false
set_option linter.unusedVariables false
theorem count_ok (s : Nat) (hs : s < 4294967296) : Con Tryd.prog gl0 (fnv 116) [S s] 0 [] (Ret (I (cnt s))) := by
  refine Con.of Tryd.ok116 (nt := 6) (res := [.tmp 2]) Tryd.mixed Tryd.func116 rfl rfl rfl rfl fun κ xc hκ => hκ.run 300 ?_
  simp (disch := omega) only [push_cast, simprocAttr, and32_255]
  rw [and_255]
  refine Does.ret hκ.hP hκ.hgl (ones_ok (s % 256) (Nat.mod_lt _ (by decide))) ⟨trivial, by first | (simp [SV.bnd, SV.bndL]; done) | (simp [SV.bnd, SV.bndL, ec_bnd]; done), by first | (simp [SV.bnd, SV.bndL]; done) | (simp [SV.bnd, SV.bndL, ec_bnd]; done) | assumption⟩ ?_
  refine hκ.run 300 ?_
  simp (disch := omega) only [push_cast, simprocAttr, and32_255]
  refine hκ.ret _ _ _ _ _ _ trivial rfl ?_
  rw [show cnt (s % 256) = cnt s by rw [cnt, bits_mod, cnt]]
  exact .ret trivial
theorem cnt_del : ∀ s, s < 256 → ∀ c, c < 8 → s.testBit c = true → cnt (dif s (2 ^ c)) + 1 = cnt s := by decide +kernel
theorem cnt_zero : ∀ s, s < 256 → (cnt s = 0 ↔ s = 0) := by decide +kernel
theorem cnt_le (s : Nat) : cnt s ≤ 8 := bits_len s
end Go.Proofs.YtnjgmjcokcfmkaaDoor
