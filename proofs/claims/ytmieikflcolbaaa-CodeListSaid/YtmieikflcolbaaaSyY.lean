/- Loops over functions, their records kept folded. No condition. -/
import Derived.Test.YtmieikflcolbaaaSyO
namespace Go.Sy
open Go
set_option linter.unusedSimpArgs false
set_option linter.unusedVariables false
structure LR where
  fn : FuncId
  nt : Nat
  env : Env
  ps : Array Tmp
  asg : Code
  body : Code
  d : Nat
def LR.blk (L : LR) (st : LoopState) (pd : Option Code) : Blk := .loop st pd L.fn L.nt L.env L.ps L.asg L.body L.d
theorem LR.ren {L : LR} {τ : Nat → Nat} {st : LoopState} {pd : Option Code} (h1 : renE τ L.env = L.env) (h2 : τ L.d = L.d) : (L.blk st pd).ren τ = L.blk st pd := by
  simp only [LR.blk, Blk.ren, h1, h2]
theorem LR.bnd {L : LR} {m : Nat} {st : LoopState} {pd : Option Code} (h1 : bndE m L.env) (h2 : L.d < m) : (L.blk st pd).bnd m := ⟨h1, h2⟩
structure RndL (κ : Kx) (x : Ctx) (P : Program) (gl : Gl) (nt : Nat) (id m : Nat) (L : LR) (K : SV → Heap → Nat → Prop) : Prop where
  rnd : Rnd κ x P gl nt id m K
  hP : κ.P = P
  hgl : x.gl = gl
  hm : x.nm.nx = m
  beg : ∀ {k : List Item} {env : Env} {H : Heap} {nx : Nat} {dfs : List Nat} {pd}, H.get id = some (L.blk .ready pd) → Sat κ x ⟨k, env, H.set id (L.blk .busy pd), nx, dfs⟩ → Sat κ x ⟨.beginRound :: k, env, H, nx, dfs⟩
  fin : ∀ {env : Env} {H : Heap} {nx : Nat} {st pd}, H.get id = some (L.blk st pd) → K (.v (.bool true)) (H.set id (L.blk .ready none)) nx → Sat κ x ⟨[], env, H, nx, []⟩
  ret : ∀ {k : List Item} {env : Env} {H : Heap} {nx : Nat} {st pd}, H.get id = some (L.blk st pd) → K (.v (.bool false)) (H.set id (L.blk .done (some .ret))) nx → Sat κ x ⟨.code .ret :: k, env, H, nx, []⟩
  exit : ∀ {i : Nat} {k : List Item} {env : Env} {H : Heap} {nx : Nat} {st pd}, exitTo i k = none → H.get id = some (L.blk st pd) → K (.v (.bool false)) (H.set id (L.blk .done (some (.exit i)))) nx → Sat κ x ⟨.code (.exit i) :: k, env, H, nx, []⟩
theorem RndL.run {κ : Kx} {x : Ctx} {P : Program} {gl : Gl} {nt id m : Nat} {L : LR} {K : SV → Heap → Nat → Prop} (e : RndL κ x P gl nt id m L K) {c : Cfg} (n : Nat) (h : OutOK κ x (exec P gl nt n c)) : Sat κ x c := e.rnd.run n h
theorem RndL.draw {κ : Kx} {x : Ctx} {P : Program} {gl : Gl} {nt i m : Nat} {L : LR} {K : SV → Heap → Nat → Prop} (e : RndL κ x P gl nt i m L K) {ops : Array Oper} {id : Nat} {k : List Item} {env : Env} {H : Heap} {nx : Nat} {dfs : List Nat} (p : Plan) (qn : List Nat) (hB : quietB ops qn = true) (hp : planB ops qn p [] (Array.replicate ops.size false) = true) (hlen : p.len = ops.size)
    (h : drawP κ x P gl nt ops dfs (fun env H nx => Sat κ x ⟨k, env, H, nx, dfs⟩) p env H nx) : Sat κ x ⟨.code (.region id ops true) :: k, env, H, nx, dfs⟩ := e.rnd.draw p qn hB hp hlen h
end Go.Sy
