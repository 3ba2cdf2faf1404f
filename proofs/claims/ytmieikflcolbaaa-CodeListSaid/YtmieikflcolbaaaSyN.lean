/- Ready words for walks: loops over functions in a function; laws; what a list of rows holds. No condition. -/
import Derived.Test.YtmieikflcolbaaaSyJ
namespace Go.Sy
open Go
set_option linter.unusedSimpArgs false
set_option linter.unusedVariables false
theorem Ends.range {κ : Kx} {x : Ctx} {P : Program} {gl : Gl} {nt m : Nat} {res : List ResultVar} {R : SV → Heap → Nat → Prop} (e : Ends κ x P gl nt res m R) {f : Operand} {ps : Array Tmp} {asg body : Code} {k : List Item} {env : Env} {H : Heap} {nx : Nat} {dfs : List Nat} {g : SV} (hf : ev gl env f = some g)
    (h : ∀ fn, Does P x g [.yl (nx + 1)] (nx + 2) ((nx + 1, .loop .ready none fn nt env ps asg body nx) :: (nx, .obj (.deferred (some []))) :: H) (fun _ H' n' => ∃ st pd fn nt e qs as bo d, H'.get (nx + 1) = some (.loop st pd fn nt e qs as bo d) ∧ st ≠ .busy ∧
      Sat κ x ⟨(pd.map Item.code).toList ++ k, env, H'.drop (nx + 1), n', nx :: dfs⟩)) : Sat κ x ⟨.code (.rangeFunc f ps asg body) :: k, env, H, nx, dfs⟩ := by
  obtain ⟨rfl, rfl, rfl, _, hro, _, _⟩ := e
  exact Sat.rangeFunc hro hf (h κ.b.fn)
theorem Ends.draw {κ : Kx} {x : Ctx} {P : Program} {gl : Gl} {nt m : Nat} {res : List ResultVar} {R : SV → Heap → Nat → Prop} (e : Ends κ x P gl nt res m R) {ops : Array Oper} {id : Nat} {k : List Item} {env : Env} {H : Heap} {nx : Nat} {dfs : List Nat} (p : Plan) (qn : List Nat) (hB : quietB ops qn = true) (hp : planB ops qn p [] (Array.replicate ops.size false) = true) (hlen : p.len = ops.size)
    (h : drawP κ x P gl nt ops dfs (fun env H nx => Sat κ x ⟨k, env, H, nx, dfs⟩) p env H nx) : Sat κ x ⟨.code (.region id ops true) :: k, env, H, nx, dfs⟩ := by
  obtain ⟨rfl, rfl, rfl, _, hro, _, _⟩ := e
  exact Sat.draw p qn hB hp hlen h
theorem Rnd.draw {κ : Kx} {x : Ctx} {P : Program} {gl : Gl} {nt i m : Nat} {K : SV → Heap → Nat → Prop} (e : Rnd κ x P gl nt i m K) {ops : Array Oper} {id : Nat} {k : List Item} {env : Env} {H : Heap} {nx : Nat} {dfs : List Nat} (p : Plan) (qn : List Nat) (hB : quietB ops qn = true) (hp : planB ops qn p [] (Array.replicate ops.size false) = true) (hlen : p.len = ops.size)
    (h : drawP κ x P gl nt ops dfs (fun env H nx => Sat κ x ⟨k, env, H, nx, dfs⟩) p env H nx) : Sat κ x ⟨.code (.region id ops true) :: k, env, H, nx, dfs⟩ := by
  obtain ⟨rfl, rfl, rfl, _, _, _, _, _, _⟩ := e
  exact Sat.draw p qn hB hp hlen h
theorem Does.mono {P : Program} {x : Ctx} {f : SV} {args : List SV} {nx : Nat} {H : Heap} {K K' : SV → Heap → Nat → Prop} (h : Does P x f args nx H K) (hk : ∀ s H n, K s H n → K' s H n) : Does P x f args nx H K' :=
  fun ν w fv vs h1 h2 h3 h4 => (h ν w fv vs h1 h2 h3 h4).mono fun _ _ ⟨ν', H', s, q1, q2, q3, q4⟩ => ⟨ν', H', s, q1, q2, q3, hk _ _ _ q4⟩
theorem DCall.of {κ : Kx} {x : Ctx} {g : SV} {as : List SV} {dst : Option Nat} {H : Heap} {nx : Nat} {dfs : List Nat} {K : SV → Heap → Nat → Prop} (h : Does κ.P x g as nx H K) : DCall κ x g as dst H nx dfs K :=
  fun _ _ hK => h.mono hK
abbrev Ret (s : SV) : SV → Heap → Nat → Prop := fun s' H n => s' = s ∧ H = [] ∧ n = 0
abbrev RetRow (T : TypeId) (sz : Nat) (xs : List (List SV)) : SV → Heap → Nat → Prop := fun s H n => ∃ cap, xs.length ≤ cap ∧ s = .sl 0 sz 0 xs.length cap ∧ H = [(0, .row sz cap T xs)] ∧ n = 1
theorem Post.ret {s : SV} {H : Heap} {nx : Nat} (hs : s.closed) : Post 0 (Ret s) s H nx := .pure hs ⟨rfl, rfl, rfl⟩
theorem Post.row {T : TypeId} {sz cap len : Nat} {xs : List (List SV)} {H : Heap} {nx i : Nat} (hi : H.get i = some (.row sz cap T xs)) (hl : len = xs.length) : Post 0 (RetRow T sz xs) (.sl i sz 0 len cap) H nx := by
  intro x ν ν' w v hx hm hn hg hH hv
  have hc : xs.length ≤ cap := (hH.ok i _ hi).2.1
  exact Post.via 1 (fun _ => i) (.sl 0 sz 0 len cap) [(0, .row sz cap T xs)] ⟨cap, hc, by rw [hl], rfl, rfl⟩ rfl (Nat.lt_succ_self 0) (fun a b _ _ _ => by omega) (.cons (Nat.lt_succ_self 0) trivial hi .nil) ⟨Nat.zero_le _, fun a h => absurd h (Nat.not_lt_zero a)⟩ x ν ν' w v hx hm hn hg hH hv
theorem Does.ret {P0 : Program} {x : Ctx} {f : SV} {args : List SV} {nx : Nat} {H : Heap} {K : SV → Heap → Nat → Prop} {P : Program} {gl : Gl} (hP : P0 = P) (hgl : x.gl = gl) {s : SV} (h : Con P gl f args 0 [] (Ret s)) (hc : f.closed ∧ SV.bndL 0 args ∧ s.closed)
    (next : K s H nx) : Does P0 x f args nx H K :=
  Does.pure hP hgl h hc.1 hc.2.1 fun s' H' n' ⟨h1, h2, h3⟩ => by subst h1 h2 h3; exact ⟨⟨hc.2.2, rfl, rfl⟩, next⟩
theorem Does.row {P0 : Program} {x : Ctx} {f : SV} {args : List SV} {nx : Nat} {H : Heap} {K : SV → Heap → Nat → Prop} {P : Program} {gl : Gl} (hP : P0 = P) (hgl : x.gl = gl) {T : TypeId} {sz : Nat} {xs : List (List SV)} (h : Con P gl f args 0 [] (RetRow T sz xs)) (hc : f.closed ∧ SV.bndL 0 args)
    (next : ∀ cap, xs.length ≤ cap → K (.sl nx sz 0 xs.length cap) ((nx, .row sz cap T xs) :: H) (nx + 1)) : Does P0 x f args nx H K := by
  have hren : ∀ l : List SV, SV.bndL 0 l → ∀ σ, l = SV.renL σ l := fun l hl σ => by rw [SV.renL_bnd (σ := σ) (τ := id) (m := 0) (fun i hi => absurd hi (Nat.not_lt_zero i)) l hl, SV.renL_id]
  refine Does.fn hP hgl 0 id [] f args [] h (SV.ren_closed hc.1 _).symm (hren _ hc.2 _) hc.1 hc.2 (fun i hi => absurd hi (Nat.not_lt_zero i)) (fun i j hi => absurd hi (Nat.not_lt_zero i)) (fun i b hb => by simp [Heap.get] at hb) ?_
  rintro s' H' n' ⟨cap, hc, rfl, rfl, rfl⟩
  refine ⟨.cons (by simp) .nil, fun _ => ?_⟩
  rw [without_nil]
  exact next cap hc
theorem Con.toRd {P : Program} {gl : Gl} {f : SV} {args : List SV} {T : TypeId} {sz : Nat} {xs : List (List SV)} (h : Con P gl f args 0 [] (RetRow T sz xs)) : Con P gl f args 0 [] (Ret (.rd sz xs)) := by
  intro ν w fv vs h1 h2 h3 h4
  refine (h ν w fv vs h1 h2 h3 h4).mono ?_
  rintro v w' ⟨ν', s, H', ⟨cap, hc, rfl, rfl, h5⟩, hg, hH, hs⟩
  obtain ⟨_, hnc, _⟩ := hH.ok 0 _ rfl
  have hp : lendP [(0, Blk.row sz cap T xs)] [0] (.sl 0 sz 0 xs.length cap) := by
    simp only [lendP, List.mem_singleton, if_true, Heap.get, lendSlP]
    exact ⟨by omega, hnc, fun h => by omega⟩
  have e1 : lendS [(0, Blk.row sz cap T xs)] [0] (.sl 0 sz 0 xs.length cap) = .rd sz xs := by
    simp [lendS, lendSl, Heap.get]
  have := Post.frz (m := 0) (Q := Ret (.rd sz xs)) (nx := ν'.nx) [0] hp (by rw [e1]; exact .ret trivial)
  exact this (ctxOf gl ν [] w) ν ν' w' v rfl h1 rfl hg hH hs
theorem Sat.fresh {κ : Kx} {x : Ctx} {k : List Item} {env : Env} {H : Heap} {nx : Nat} {dfs : List Nat} (i : Nat) (hi : i < nx) (hs : Once H) (h : Sat κ x ⟨k, renE (fun j => if j = i then nx else j) env, renH (fun j => if j = i then nx else j) H, nx + 1, dfs.map fun j => if j = i then nx else j⟩) : Sat κ x ⟨k, env, H, nx, dfs⟩ := by
  intro ν w a hn hH hE hD
  have hn : ν.nx = nx := hn
  subst hn
  have hm : Maps ν (ν.name (ν.blk i)) (fun j => if j = i then ν.nx else j) := by
    refine ⟨fun j hj => ?_, fun _ _ h => h⟩
    by_cases e : j = i
    · subst e; simp only [if_true]; exact ⟨Nat.lt_succ_self _, Nm.name_blk _ _⟩
    · simp only [e, if_false]; exact ⟨Nat.lt_succ_of_lt hj, Nm.name_ne _ _ _ hj⟩
  refine h (ν.name (ν.blk i)) w a rfl ?_ (hE.maps hm) ?_
  · have hg : ∀ j b, (renH (fun j => if j = i then ν.nx else j) H).get j = some b → ∃ q c, H.get q = some c ∧ q < ν.nx ∧ j = (if q = i then ν.nx else q) ∧ b = c.ren (fun j => if j = i then ν.nx else j) := by
      intro j b hb
      obtain ⟨q, c, h1, h2, h3⟩ := renH_get hb
      have h4 := hs q c h1
      exact ⟨q, c, h4, hH.lt h4, h2, h3⟩
    refine ⟨fun j b hb => ?_, fun j b j' b' hb hb' hne he he' => ?_, fun j b hb he => ?_, hH.ro, fun j b hb he => ?_, hH.ronew, hH.gl, hH.frame, hH.size, hH.fix, hH.anc.trans (.name _ _)⟩
    · obtain ⟨q, c, h1, h2, rfl, rfl⟩ := hg j b hb
      exact (hH.ok q c h1).maps hm
    · obtain ⟨q, c, h1, h2, rfl, rfl⟩ := hg j b hb
      obtain ⟨q', c', h1', h2', rfl, rfl⟩ := hg j' b' hb'
      have := (hm.1 q h2).2
      simp only at this
      rw [this]
      have := (hm.1 q' h2').2
      simp only at this
      rw [this]
      exact hH.sep q c q' c' h1 h1' (fun e => hne (by rw [e])) (ren_real.1 he) (ren_real.1 he')
    · obtain ⟨q, c, h1, h2, rfl, rfl⟩ := hg j b hb
      have := (hm.1 q h2).2
      simp only at this
      rw [this]; exact hH.mine q c h1 (ren_real.1 he)
    · obtain ⟨q, c, h1, h2, rfl, rfl⟩ := hg j b hb
      have := (hm.1 q h2).2
      simp only at this
      rw [this]; exact hH.rosep q c h1 (ren_real.1 he)
  · refine ⟨fun j hj => ?_, ?_⟩
    · simp only [List.mem_map] at hj
      obtain ⟨q, hq, rfl⟩ := hj
      exact (hm.1 q (hD.1 q hq)).1
    · rw [hD.2, List.map_map]
      apply List.map_congr_left
      intro q hq
      have := (hm.1 q (hD.1 q hq)).2
      simp only at this
      simp only [Function.comp, this]
def Law (P : Program) (gl : Gl) (g : FuncId) (args : List SV) : Prop := ∀ (ν : Nm) (w : World) (vs : List Value), ν.nx = 0 → Holds (ctxOf gl ν [] w) ν [] w → RelL ν args vs →
  Calls P g vs.toArray w fun e w' => e = .returned (.bool true) ∧ Ext w w'
theorem Law.of {P : Program} {gl : Gl} {g : FuncId} {fn : Func} {c : Code} {args : List SV} {nt : Nat} {res : List ResultVar}
    (hm : P.follows .mixedOrders = true) (hf : P.funcs[g]? = some fn) (hb : fn.body = some c) (hnt : fn.ntmps = nt) (hres : fn.results.toList = res) (hlen : Nat.ble args.length nt = true)
    (h : ∀ κ x, Ends κ x P gl nt res 0 (fun s _ _ => s = .v (.bool true)) → Sat κ x ⟨[.code c], envOf 0 args, [], 0, []⟩) : Law P gl g args := by
  intro ν w vs hn hH hvs
  have := calls_of (R := fun s _ _ => s = .v (.bool true)) hm hf hb hnt hres (by rw [hvs.length]; exact hlen) hH hvs rfl (fun κ e => by
    rw [hn] at e ⊢
    exact h κ _ e)
  refine this.mono ?_
  rintro e w' ⟨v, rfl, ν', s, H', rfl, hgr, hH', hv⟩
  simp only [Rel] at hv
  subst hv
  exact ⟨rfl, hH'.fix, hH'.size, fun k hk => hH'.frame k hk (fun ⟨i, b, hb, _⟩ => by simp [Heap.get] at hb)⟩
theorem getD_map' {α β : Type} (f : α → β) (l : List α) (i : Nat) (d : β) (e : α) (h : i < l.length) : (l.map f).getD i d = f (l.getD i e) := by simp [List.getD, h]
theorem getD_map {α : Type} [Inhabited α] (f : α → List SV) (l : List α) (i : Nat) (h : i < l.length) : (l.map f).getD i [] = f (l.getD i default) := getD_map' f l i _ _ h
def eI (k : IntKind) (n : Int) : List SV := [.v (.int k n)]
def eB (b : Bool) : List SV := [.v (.bool b)]
end Go.Sy
