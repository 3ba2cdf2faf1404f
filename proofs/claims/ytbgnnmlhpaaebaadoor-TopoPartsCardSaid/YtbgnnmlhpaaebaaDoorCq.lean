/- cpuset.Count; how many are in a set. No condition. -/
import Derived.Test.YtbgnnmlhpaaebaaDoorCl
namespace Go.Proofs.YtbgnnmlhpaaebaaDoor
open Go Go.Sy
set_option maxRecDepth 100000
set_option linter.unusedSimpArgs false
set_option linter.unusedVariables false
theorem count_ok (s : Nat) (hs : s < 4294967296) : Con Tryd.prog gl0 (fnv 27) [S s] 0 [] (Ret (I (cnt s))) := by
  refine Con.of Tryd.ok27 (nt := 6) (res := [.tmp 2]) Tryd.mixed Tryd.func27 rfl rfl rfl rfl fun κ xc hκ => hκ.run 300 ?_
  simp (disch := omega) only [exec_succ, runR_next, runR_call, stepS, runOp, toSR, sop, rOf, sInt, sBin, ev, evs, Env.get, envOf, OutOK_call, List.size_toArray, List.length_cons, List.length_nil, List.range, List.range.loop, List.getElem?_toArray, List.getElem?_cons_succ, List.getElem?_cons_zero, ↓reduceIte, Nat.reduceAdd, Nat.reduceLT, Nat.zero_add, Nat.add_one_ne_zero, gl0, and32_255]
  rw [and_255]
  refine Does.ret hκ.hP hκ.hgl (ones_ok (s % 256) (Nat.mod_lt _ (by decide))) ⟨trivial, by simp [SV.bnd, SV.bndL], by first | (simp [SV.bnd, SV.bndL]; done) | assumption⟩ ?_
  refine hκ.run 300 ?_
  simp (disch := omega) only [exec_succ, runR_next, runR_stop, stepS, runOp, toSR, sop, rOf, ev, Env.get, setO, OutOK_stop, List.getElem?_toArray, List.getElem?_cons_succ, List.getElem?_cons_zero, ↓reduceIte, Nat.reduceLT, gl0]
  refine hκ.ret _ _ _ _ _ _ trivial rfl ?_
  rw [show cnt (s % 256) = cnt s by rw [cnt, bits_mod, cnt]]
  exact .ret trivial
theorem cnt_del : ∀ s, s < 256 → ∀ c, c < 8 → s.testBit c = true → cnt (dif s (2 ^ c)) + 1 = cnt s := by decide +kernel
theorem cnt_zero : ∀ s, s < 256 → (cnt s = 0 ↔ s = 0) := by decide +kernel
theorem cnt_le (s : Nat) : cnt s ≤ 8 := bits_len s
end Go.Proofs.YtbgnnmlhpaaebaaDoor
