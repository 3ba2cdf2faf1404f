/- From bytes: what is read; numbers. No condition. -/
import Derived.Test.YtmieikflcolbaaaEa
namespace Go.Proofs.Ytmieikflcolbaaa
open Go Go.Sy
set_option maxRecDepth 100000
set_option linter.unusedSimpArgs false
set_option linter.unusedVariables false
def rdS (bs : List Int) (w : Nat) (s : In) : In := ⟨wkR bs s.wk s.er w, erR bs s.wk s.er w, s.bad⟩
theorem rdS_wk {bs : List Int} {w : Nat} {s : In} (h : s.wk ≤ bs.length) : (rdS bs w s).wk ≤ bs.length := by
  simp only [rdS, wkR]
  split
  · rename_i h; exact h.2
  · exact h
theorem oneAD (bs : List Int) (s : In) (cs cs' : List SV) (T i : Nat) (hcs : SV.bndL 0 cs) (hcs' : SV.bndL 0 cs') (hp : paste cs i [.v (.int .i64 (numR bs s.wk s.er 1))] = some cs') (hw : s.wk ≤ bs.length) (hn : bs.length < 2 ^ 46) (hby : ∀ b ∈ bs, 0 ≤ b ∧ b < 256) :
    Con Try.prog gl0 (fnv 59) [.ptr 0 0 0 0, I 1, .ptr 1 0 0 i] 3 (HD bs s cs T) (RetD bs (rdS bs 1 s) cs' T 3 vd) := by
  have c1 := u8_ok bs s.wk s.er hw hn hby
  obtain ⟨b0, b1⟩ := numR_bd bs s.wk s.er 1 hby
  simp only [Int.reducePow] at b0 b1
  have hr : rdS bs 1 s = ⟨wkR bs s.wk s.er 1, erR bs s.wk s.er 1, s.bad⟩ := rfl
  simp only [Nat.reduceDiv] at c1
  generalize numR bs s.wk s.er 1 = x at *
  generalize wkR bs s.wk s.er 1 = wk' at *
  generalize erR bs s.wk s.er 1 = er' at *
  refine Con.of Try.ok59 (nt := 90) (res := []) Try.mixed Try.func59 rfl rfl rfl rfl fun κ xc hκ => hκ.run 300 ?_
  simp (disch := omega) only [push_cast, simprocAttr, hp]
  refine Does.keep hκ.hP hκ.hgl 2 [.ptr 0 0 0 0] c1 rfl ⟨trivial, by first | (simp [SV.bnd, SV.bndL]; done) | (simp [SV.bnd, SV.bndL, ec_bnd]; done), by first | (simp [SV.bnd, SV.bndL]; done) | (simp [SV.bnd, SV.bndL, ec_bnd]; done) | assumption⟩ ⟨Rdr.good.1, Rdr.good.2, Rdr.good.1⟩ rfl (by first | omega | (dsimp only; omega)) ?_
  refine hκ.run 300 ?_
  simp (disch := omega) only [push_cast, simprocAttr, hp]
  (repeat (refine ⟨by first | omega | (refine ⟨?_, ?_⟩ <;> omega) | trivial | (simp; done) | decide +kernel, fun _ => ?_⟩))
  rw [hr] at hκ
  refine hκ.fin _ _ _ _ _ trivial rfl ?_
  exact Post.D hcs' trivial (by decide) rfl rfl rfl
theorem oneBD (bs : List Int) (s : In) (cs cs' : List SV) (T i : Nat) (hcs : SV.bndL 0 cs) (hcs' : SV.bndL 0 cs') (hp : paste cs i [.v (.int .i64 (numR bs s.wk s.er 2))] = some cs') (hw : s.wk ≤ bs.length) (hn : bs.length < 2 ^ 46) (hby : ∀ b ∈ bs, 0 ≤ b ∧ b < 256) :
    Con Try.prog gl0 (fnv 59) [.ptr 0 0 0 0, I 2, .ptr 1 0 0 i] 3 (HD bs s cs T) (RetD bs (rdS bs 2 s) cs' T 3 vd) := by
  have c1 := u16_ok bs s.wk s.er hw hn hby
  obtain ⟨b0, b1⟩ := numR_bd bs s.wk s.er 2 hby
  simp only [Int.reducePow] at b0 b1
  have hr : rdS bs 2 s = ⟨wkR bs s.wk s.er 2, erR bs s.wk s.er 2, s.bad⟩ := rfl
  simp only [Nat.reduceDiv] at c1
  generalize numR bs s.wk s.er 2 = x at *
  generalize wkR bs s.wk s.er 2 = wk' at *
  generalize erR bs s.wk s.er 2 = er' at *
  refine Con.of Try.ok59 (nt := 90) (res := []) Try.mixed Try.func59 rfl rfl rfl rfl fun κ xc hκ => hκ.run 300 ?_
  simp (disch := omega) only [push_cast, simprocAttr, hp]
  refine Does.keep hκ.hP hκ.hgl 2 [.ptr 0 0 0 0] c1 rfl ⟨trivial, by first | (simp [SV.bnd, SV.bndL]; done) | (simp [SV.bnd, SV.bndL, ec_bnd]; done), by first | (simp [SV.bnd, SV.bndL]; done) | (simp [SV.bnd, SV.bndL, ec_bnd]; done) | assumption⟩ ⟨Rdr.good.1, Rdr.good.2, Rdr.good.1⟩ rfl (by first | omega | (dsimp only; omega)) ?_
  refine hκ.run 300 ?_
  simp (disch := omega) only [push_cast, simprocAttr, hp]
  (repeat (refine ⟨by first | omega | (refine ⟨?_, ?_⟩ <;> omega) | trivial | (simp; done) | decide +kernel, fun _ => ?_⟩))
  rw [hr] at hκ
  refine hκ.fin _ _ _ _ _ trivial rfl ?_
  exact Post.D hcs' trivial (by decide) rfl rfl rfl
theorem oneCD (bs : List Int) (s : In) (cs cs' : List SV) (T i : Nat) (hcs : SV.bndL 0 cs) (hcs' : SV.bndL 0 cs') (hp : paste cs i [.v (.int .u32 (numR bs s.wk s.er 4))] = some cs') (hw : s.wk ≤ bs.length) (hn : bs.length < 2 ^ 46) (hby : ∀ b ∈ bs, 0 ≤ b ∧ b < 256) :
    Con Try.prog gl0 (fnv 72) [.ptr 0 0 0 0, I 4, .ptr 1 0 0 i] 3 (HD bs s cs T) (RetD bs (rdS bs 4 s) cs' T 3 vd) := by
  have c1 := u32_ok bs s.wk s.er hw hn hby
  obtain ⟨b0, b1⟩ := numR_bd bs s.wk s.er 4 hby
  simp only [Int.reducePow] at b0 b1
  have hr : rdS bs 4 s = ⟨wkR bs s.wk s.er 4, erR bs s.wk s.er 4, s.bad⟩ := rfl
  simp only [Nat.reduceDiv] at c1
  generalize numR bs s.wk s.er 4 = x at *
  generalize wkR bs s.wk s.er 4 = wk' at *
  generalize erR bs s.wk s.er 4 = er' at *
  refine Con.of Try.ok72 (nt := 90) (res := []) Try.mixed Try.func72 rfl rfl rfl rfl fun κ xc hκ => hκ.run 300 ?_
  simp (disch := omega) only [push_cast, simprocAttr, hp]
  refine Does.keep hκ.hP hκ.hgl 2 [.ptr 0 0 0 0] c1 rfl ⟨trivial, by first | (simp [SV.bnd, SV.bndL]; done) | (simp [SV.bnd, SV.bndL, ec_bnd]; done), by first | (simp [SV.bnd, SV.bndL]; done) | (simp [SV.bnd, SV.bndL, ec_bnd]; done) | assumption⟩ ⟨Rdr.good.1, Rdr.good.2, Rdr.good.1⟩ rfl (by first | omega | (dsimp only; omega)) ?_
  refine hκ.run 300 ?_
  simp (disch := omega) only [push_cast, simprocAttr, hp]
  (repeat (refine ⟨by first | omega | (refine ⟨?_, ?_⟩ <;> omega) | trivial | (simp; done) | decide +kernel, fun _ => ?_⟩))
  rw [hr] at hκ
  refine hκ.fin _ _ _ _ _ trivial rfl ?_
  exact Post.D hcs' trivial (by decide) rfl rfl rfl
theorem oneDD (bs : List Int) (s : In) (cs cs' : List SV) (T i : Nat) (hcs : SV.bndL 0 cs) (hcs' : SV.bndL 0 cs') (hp : paste cs i [.v (.int .i64 (IntKind.i64.wrap (numR bs s.wk s.er 8)))] = some cs') (hw : s.wk ≤ bs.length) (hn : bs.length < 2 ^ 46) (hby : ∀ b ∈ bs, 0 ≤ b ∧ b < 256) :
    Con Try.prog gl0 (fnv 52) [.ptr 0 0 0 0, I 8, .ptr 1 0 0 i] 3 (HD bs s cs T) (RetD bs (rdS bs 8 s) cs' T 3 vd) := by
  have c1 := u64_ok bs s.wk s.er hw hn hby
  obtain ⟨b0, b1⟩ := numR_bd bs s.wk s.er 8 hby
  simp only [Int.reducePow] at b0 b1
  have hr : rdS bs 8 s = ⟨wkR bs s.wk s.er 8, erR bs s.wk s.er 8, s.bad⟩ := rfl
  simp only [Nat.reduceDiv] at c1
  generalize numR bs s.wk s.er 8 = x at *
  generalize wkR bs s.wk s.er 8 = wk' at *
  generalize erR bs s.wk s.er 8 = er' at *
  refine Con.of Try.ok52 (nt := 90) (res := []) Try.mixed Try.func52 rfl rfl rfl rfl fun κ xc hκ => hκ.run 300 ?_
  simp (disch := omega) only [push_cast, simprocAttr, hp]
  refine Does.keep hκ.hP hκ.hgl 2 [.ptr 0 0 0 0] c1 rfl ⟨trivial, by first | (simp [SV.bnd, SV.bndL]; done) | (simp [SV.bnd, SV.bndL, ec_bnd]; done), by first | (simp [SV.bnd, SV.bndL]; done) | (simp [SV.bnd, SV.bndL, ec_bnd]; done) | assumption⟩ ⟨Rdr.good.1, Rdr.good.2, Rdr.good.1⟩ rfl (by first | omega | (dsimp only; omega)) ?_
  refine hκ.run 300 ?_
  simp (disch := omega) only [push_cast, simprocAttr, hp]
  (repeat (refine ⟨by first | omega | (refine ⟨?_, ?_⟩ <;> omega) | trivial | (simp; done) | decide +kernel, fun _ => ?_⟩))
  rw [hr] at hκ
  refine hκ.fin _ _ _ _ _ trivial rfl ?_
  exact Post.D hcs' trivial (by decide) rfl rfl rfl
end Go.Proofs.Ytmieikflcolbaaa
