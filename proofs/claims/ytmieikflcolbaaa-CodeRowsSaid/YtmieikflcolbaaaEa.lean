/- Events; carriers: what the walks share. No condition. -/
import Derived.Test.YtmieikflcolbaaaOa
namespace Go.Proofs.Ytmieikflcolbaaa
open Go Go.Sy
set_option maxRecDepth 100000
set_option linter.unusedSimpArgs false
set_option linter.unusedVariables false
abbrev U (n : Int) : SV := .v (.int .u32 n)
abbrev Is (l : List Int) : SV := .rd 1 (l.map (eI .i64))
abbrev Evt := (Nat → Int) × List Int × List Int
def ec (a : Evt) : List SV := [I (a.1 0), I (a.1 1), I (a.1 2), I (a.1 3), I (a.1 4), Bo (decide (a.1 5 = 1)), Is a.2.1, I (a.1 7), I (a.1 8), I (a.1 9), I (a.1 10), I (a.1 11), I (a.1 12), U (a.1 13), U (a.1 14),
  I (a.1 15), I (a.1 16), I (a.1 17), I (a.1 18), I (a.1 19), I (a.1 20), I (a.1 21), I (a.1 22), I (a.1 23), U (a.1 24), U (a.1 25), U (a.1 26), Is a.2.2, I (a.1 28)]
theorem ec_bnd (a : Evt) (m : Nat) : SV.bndL m (ec a) := by simp [ec, SV.bndL, SV.bnd]
theorem ec_ren (a : Evt) (σ : Nat → Nat) : SV.renL σ (ec a) = ec a := rfl
theorem Blk.bnd_own0 {cs : List SV} {T m : Nat} (h : SV.bndL 0 cs) : (Blk.own cs T).bnd m := SV.bndL_mono (Nat.zero_le _) _ h
theorem Blk.ren_own0 {cs : List SV} {T : Nat} {σ : Nat → Nat} (h : SV.bndL 0 cs) : (Blk.own cs T).ren σ = .own cs T := by simp only [Blk.ren, SV.renL_closed h]
abbrev Out := List Int × Bool
abbrev CaE (j cap : Nat) (s : Out) : Blk := .own [.v (.pointer none), .sl j 1 0 s.1.length cap, Bo s.2] 65
abbrev RowB (cap : Nat) (s : Out) : Blk := .row 1 cap 5 (s.1.map (eI .u8))
abbrev vd : SV := .tup []
abbrev RetE (s : Out) (cs : List SV) (T : Nat) (m : Nat) (r : SV) : SV → Heap → Nat → Prop := fun r' H n => ∃ cap, s.1.length ≤ cap ∧ r' = r ∧ H = [(0, CaE m cap s), (1, .own cs T), (m, RowB cap s)] ∧ n = m + 1
theorem Does.E {P0 : Program} {x : Ctx} {f : SV} {args : List SV} {nx : Nat} {H : Heap} {K : SV → Heap → Nat → Prop} {P : Program} {gl : Gl} (hP : P0 = P) (hgl : x.gl = gl) (m : Nat) (σ : Nat → Nat) (l : List Nat) (args0 : List SV) (H0 : Heap) {s : Out} {cs : List SV} {T : Nat} {r : SV}
    (h : Con P gl f args0 m H0 (RetE s cs T m r)) (hargs : args = SV.renL σ args0) (hc : f.closed ∧ SV.bndL m args0 ∧ r.closed) (hcs : SV.bndL 0 cs) (hm : 1 < m) (hσ : ∀ i, i < m → σ i < nx) (hinj : ∀ i j, i < m → j < m → σ i = σ j → i = j)
    (hv : ∀ i b, H0.get i = some b → i < m ∧ b.bnd m ∧ σ i ∈ l ∧ H.get (σ i) = some (b.ren σ)) (next : ∀ cap, s.1.length ≤ cap → K r ((σ 0, CaE nx cap s) :: (σ 1, .own cs T) :: (nx, RowB cap s) :: without l H) (nx + 1)) : Does P0 x f args nx H K := by
  refine Does.fn hP hgl m σ l f args0 H0 h (SV.ren_closed hc.1 _).symm hargs (SV.bnd_mono (Nat.zero_le m) _ hc.1) hc.2.1 hσ hinj hv ?_
  rintro s' H' n' ⟨cap, hcap, rfl, rfl, rfl⟩
  refine ⟨.cons (by simp; omega) (.cons (by simp; omega) (.cons (by simp) .nil)), fun _ => ?_⟩
  have h0 : tau m nx σ 0 = σ 0 := if_pos (by omega)
  have h1 : tau m nx σ 1 = σ 1 := if_pos hm
  have hmm : tau m nx σ m = nx := by rw [tau, if_neg (by omega)]; omega
  rw [SV.ren_closed hc.2.2, show nx + (m + 1 - m) = nx + 1 by omega]
  simp only [renH, Blk.ren, SV.renL_closed hcs, SV.renL, SV.ren, h0, h1, hmm, List.cons_append, List.nil_append]
  exact next cap hcap
abbrev CaD (bad : Bool) : Blk := .own [.ptr 2 0 0 0, .v (.slice none 0 0), Bo bad] 65
structure In where
  wk : Nat
  er : Int
  bad : Bool
abbrev HD (bs : List Int) (s : In) (cs : List SV) (T : Nat) : Heap := [(0, CaD s.bad), (1, .own cs T), (2, Rdr bs s.wk s.er)]
abbrev RetD (bs : List Int) (s : In) (cs : List SV) (T : Nat) (m : Nat) (r : SV) : SV → Heap → Nat → Prop := fun r' H n => r' = r ∧ H = HD bs s cs T ∧ n = m
theorem Does.D {P0 : Program} {x : Ctx} {f : SV} {args : List SV} {nx : Nat} {H : Heap} {K : SV → Heap → Nat → Prop} {P : Program} {gl : Gl} (hP : P0 = P) (hgl : x.gl = gl) (m : Nat) (σ : Nat → Nat) (l : List Nat) (args0 : List SV) (H0 : Heap) {bs : List Int} {s : In} {cs : List SV} {T : Nat} {r : SV}
    (h : Con P gl f args0 m H0 (RetD bs s cs T m r)) (hargs : args = SV.renL σ args0) (hc : f.closed ∧ SV.bndL m args0 ∧ r.closed) (hcs : SV.bndL 0 cs) (hm : 2 < m) (hσ : ∀ i, i < m → σ i < nx) (hinj : ∀ i j, i < m → j < m → σ i = σ j → i = j)
    (hv : ∀ i b, H0.get i = some b → i < m ∧ b.bnd m ∧ σ i ∈ l ∧ H.get (σ i) = some (b.ren σ)) (next : K r ((σ 0, .own [.ptr (σ 2) 0 0 0, .v (.slice none 0 0), Bo s.bad] 65) :: (σ 1, .own cs T) :: (σ 2, Rdr bs s.wk s.er) :: without l H) nx) : Does P0 x f args nx H K := by
  refine Does.fn hP hgl m σ l f args0 H0 h (SV.ren_closed hc.1 _).symm hargs (SV.bnd_mono (Nat.zero_le m) _ hc.1) hc.2.1 hσ hinj hv ?_
  rintro s' H' n' ⟨rfl, rfl, rfl⟩
  refine ⟨.cons (by simp) (.cons (by simp) (.cons (by simp) .nil)), fun _ => ?_⟩
  have h0 : tau n' nx σ 0 = σ 0 := if_pos (by omega)
  have h1 : tau n' nx σ 1 = σ 1 := if_pos (by omega)
  have h2 : tau n' nx σ 2 = σ 2 := if_pos hm
  rw [SV.ren_closed hc.2.2, Nat.sub_self, Nat.add_zero]
  simp only [HD, renH, Blk.ren, SV.renL_closed hcs, SV.renL, SV.ren, h0, h1, h2, List.cons_append, List.nil_append]
  exact next
def dig (x : Int) : Nat → List Int
  | 0 => []
  | w + 1 => x / 256 ^ w % 256 :: dig x w
def uM (x : Int) : Int := x % 18446744073709551616
theorem uM_bd (x : Int) : 0 ≤ uM x ∧ uM x < 18446744073709551616 := ⟨Int.emod_nonneg _ (by decide), Int.emod_lt_of_pos _ (by decide)⟩
def e1 (w : Nat) (x : Int) (s : Out) : Out := (s.1 ++ dig (uM x) w, s.2 || decide (w < 8 ∧ uM x / 256 ^ w ≠ 0))
theorem dig_length (x : Int) (w : Nat) : (dig x w).length = w := by
  induction w with
  | zero => rfl
  | succ w ih => simp [dig, ih]
theorem Post.E {m j cap nx : Nat} {s : Out} {cs : List SV} {T : Nat} {r : SV} {H : Heap} (hcs : SV.bndL 0 cs) (hr : r.closed) (hm : 1 < m) (hj : m ≤ j) (hc : s.1.length ≤ cap) (h0 : H.get 0 = some (CaE j cap s)) (h1 : H.get 1 = some (.own cs T)) (h2 : H.get j = some (RowB cap s)) : Post m (RetE s cs T m r) r H nx := by
  refine Post.via (m + 1) (fun i => if i = m then j else i) r [(0, CaE m cap s), (1, .own cs T), (m, RowB cap s)] ⟨cap, hc, rfl, rfl, rfl⟩ (SV.ren_closed hr _).symm (SV.bnd_mono (Nat.zero_le _) _ hr) (fun a b _ _ h => by (try dsimp only at h); split at h <;> split at h <;> omega) ?_ ⟨Nat.le_succ m, fun i hi => if_neg (by omega)⟩
  refine .cons (by omega) (by simp [Blk.bnd, SV.bnd, SV.bndL]) ?_ (.cons (by omega) (Blk.bnd_own0 hcs) ?_ (.cons (by omega) trivial ?_ .nil))
  · (try dsimp only)
    rw [if_neg (by omega), h0]
    simp [Blk.ren, SV.renL, SV.ren]
  · (try dsimp only)
    rw [if_neg (by omega), h1, Blk.ren_own0 hcs]
  · (try dsimp only)
    rw [if_pos rfl, h2]
    rfl
theorem Post.D {m nx : Nat} {bs : List Int} {s : In} {cs : List SV} {T : Nat} {r : SV} {H : Heap} (hcs : SV.bndL 0 cs) (hr : r.closed) (hm : 2 < m) (h0 : H.get 0 = some (CaD s.bad)) (h1 : H.get 1 = some (.own cs T)) (h2 : H.get 2 = some (Rdr bs s.wk s.er)) : Post m (RetD bs s cs T m r) r H nx := by
  refine Post.via m id r (HD bs s cs T) ⟨rfl, rfl, rfl⟩ (SV.ren_closed hr _).symm (SV.bnd_mono (Nat.zero_le _) _ hr) (fun _ _ _ _ h => h) ?_ ⟨Nat.le_refl _, fun _ _ => rfl⟩
  refine .cons (by omega) (by simp [Blk.bnd, SV.bnd, SV.bndL]; omega) ?_ (.cons (by omega) (Blk.bnd_own0 hcs) ?_ (.cons (by omega) (by simp [Blk.bnd, SV.bnd, SV.bndL]) ?_ .nil))
  · rw [id, h0]; rfl
  · rw [id, h1, Blk.ren_own0 hcs]
  · rw [id, h2]; rfl
theorem shrB (u : Int) (j : Nat) : IntKind.u8.wrap (u.fdiv (2 ^ (8 * (j : Int)).toNat)) = u / 256 ^ j % 256 := by
  rw [wrap_u8_mod, show (8 * (j : Int)).toNat = 8 * j by omega, Int.pow_mul, Int.fdiv_eq_ediv_of_nonneg _ (Int.pow_nonneg (by decide))]
  rfl
end Go.Proofs.Ytmieikflcolbaaa
