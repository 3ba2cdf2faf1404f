/- The numbers of the functions and types that slices.Sort reaches, printed by a tool of the kit (shelf_lay, lay-plain). No condition. -/
import Derived.Shelf.Lays
import Derived.Test.YtnjgmjcokcfmkaaDoorProg
import Derived.Test.YtnjgmjcokcfmkaaDoorCs
import Derived.Sort.EveryDepth
import Derived.Shelf.Sort.AssemblyIn
namespace Go.Proofs
open Go.Shelf
def Tryd.lays189_ren : Go.Shelf.Ren := ⟨fun | 189 => 63 | 125 => 84 | 257 => 83 | 128 => 103 | 129 => 104 | 294 => 94 | 295 => 95 | 296 => 96 | 297 => 97 | 298 => 98 | 299 => 99 | 216 => 100 | 300 => 101 | 301 => 102 | 328 => 109 | 329 => 110 | 330 => 111 | 331 => 112 | 332 => 113 | 215 => 114 | 343 => 118 | n => n, fun | 28 => 31 | 3 => 3 | 46 => 127 | 0 => 0 | 51 => 24 | 53 => 50 | 4 => 4 | 183 => 136 | 182 => 135 | 131 => 57 | 5 => 5 | 9 => 9 | 218 => 146 | 222 => 150 | 228 => 157 | 229 => 158 | n => n, fun | n => n⟩
theorem Tryd.lays189 : Go.Proofs.Lays.n189 Tryd.prog Tryd.lays189_ren := {
  mixed := by kernel_rfl
  f125 := Tryd.func84.trans (congrArg some (by kernel_rfl))
  f128 := Tryd.func103.trans (congrArg some (by kernel_rfl))
  f129 := Tryd.func104.trans (congrArg some (by kernel_rfl))
  f189 := Tryd.func63.trans (congrArg some (by kernel_rfl))
  f215 := Tryd.func114.trans (congrArg some (by kernel_rfl))
  f216 := Tryd.func100.trans (congrArg some (by kernel_rfl))
  f257 := Tryd.func83.trans (congrArg some (by kernel_rfl))
  f294 := Tryd.func94.trans (congrArg some (by kernel_rfl))
  f295 := Tryd.func95.trans (congrArg some (by kernel_rfl))
  f296 := Tryd.func96.trans (congrArg some (by kernel_rfl))
  f297 := Tryd.func97.trans (congrArg some (by kernel_rfl))
  f298 := Tryd.func98.trans (congrArg some (by kernel_rfl))
  f299 := Tryd.func99.trans (congrArg some (by kernel_rfl))
  f300 := Tryd.func101.trans (congrArg some (by kernel_rfl))
  f301 := Tryd.func102.trans (congrArg some (by kernel_rfl))
  f328 := Tryd.func109.trans (congrArg some (by kernel_rfl))
  f329 := Tryd.func110.trans (congrArg some (by kernel_rfl))
  f330 := Tryd.func111.trans (congrArg some (by kernel_rfl))
  f331 := Tryd.func112.trans (congrArg some (by kernel_rfl))
  f332 := Tryd.func113.trans (congrArg some (by kernel_rfl))
  f343 := Tryd.func118.trans (congrArg some (by kernel_rfl))
  t0 := Tryd.underlying0
  a0 := Tryd.isAgg0
  z0 := Tryd.sizeOf0
  v0 := Tryd.zeroValue0
  t3 := Tryd.underlying3
  a3 := Tryd.isAgg3
  z3 := Tryd.sizeOf3
  v3 := Tryd.zeroValue3
  t4 := Tryd.underlying4
  a4 := Tryd.isAgg4
  z4 := Tryd.sizeOf4
  v4 := Tryd.zeroValue4
  t5 := Tryd.underlying5
  a5 := Tryd.isAgg5
  z5 := Tryd.sizeOf5
  v5 := Tryd.zeroValue5
  t9 := Tryd.underlying9
  a9 := Tryd.isAgg9
  z9 := Tryd.sizeOf9
  v9 := Tryd.zeroValue9
  t28 := Tryd.underlying31
  a28 := Tryd.isAgg31
  z28 := Tryd.sizeOf31
  v28 := Tryd.zeroValue31
  t46 := Tryd.underlying127
  a46 := Tryd.isAgg127
  z46 := Tryd.sizeOf127
  v46 := Tryd.zeroValue127
  t51 := Tryd.underlying24
  a51 := Tryd.isAgg24
  z51 := Tryd.sizeOf24
  v51 := Tryd.zeroValue24
  t53 := Tryd.underlying50
  a53 := Tryd.isAgg50
  z53 := Tryd.sizeOf50
  v53 := Tryd.zeroValue50
  t131 := Tryd.underlying57
  a131 := Tryd.isAgg57
  z131 := Tryd.sizeOf57
  v131 := Tryd.zeroValue57
  t182 := Tryd.underlying135
  a182 := Tryd.isAgg135
  z182 := Tryd.sizeOf135
  v182 := Tryd.zeroValue135
  t183 := Tryd.underlying136
  a183 := Tryd.isAgg136
  z183 := Tryd.sizeOf136
  v183 := Tryd.zeroValue136
  t218 := Tryd.underlying146
  a218 := Tryd.isAgg146
  z218 := Tryd.sizeOf146
  v218 := Tryd.zeroValue146
  t222 := Tryd.underlying150
  a222 := Tryd.isAgg150
  z222 := Tryd.sizeOf150
  v222 := Tryd.zeroValue150
  t228 := Tryd.underlying157
  a228 := Tryd.isAgg157
  z228 := Tryd.sizeOf157
  v228 := Tryd.zeroValue157
  t229 := Tryd.underlying158
  a229 := Tryd.isAgg158
  z229 := Tryd.sizeOf158
  v229 := Tryd.zeroValue158 }
end Go.Proofs
namespace Go.Sy
open Go
set_option linter.unusedSimpArgs false
set_option linter.unusedVariables false

theorem flat_ints (xs : List Int) : (xs.map (eI .i64)).flatten = svs (xs.map (Value.int .i64)) := by
  induction xs with
  | nil => rfl
  | cons x xs ih => simp only [List.map_cons, List.flatten_cons, ih, eI, svs]; rfl
theorem rows_ints (xs : List Int) : Rows 1 (xs.map (eI .i64)) := fun x hx => by
  obtain ⟨n, -, rfl⟩ := List.mem_map.1 hx
  rfl
/-- A function that puts other numbers into a row: its contract in the framework's words. -/
theorem Con.turnRow {P : Program} {gl : Gl} {g : FuncId} {T : TypeId} {xs zs : List Int} {cap : Nat} (hg : FnOK P g) (hne : 0 < xs.length) (hl : zs.length = xs.length)
    (h : ∀ (blk : Nat) (w : World), Go.Sort.Holds (Value.int .i64) w blk 0 xs.toArray → blk < w.heap.size → Calls P g #[.slice (some ⟨blk, 0, none⟩) xs.length cap] w fun e w' =>
      e = .returned (.tuple #[]) ∧ ∃ n os, w' = Go.Sort.grow (Go.Sort.putRow (Value.int .i64) (Go.Sort.ahead w n) blk 0 zs.toArray) os) :
    Con P gl (fnv g) [.sl 0 1 0 xs.length cap] 1 [(0, .row 1 cap T (xs.map (eI .i64)))] (fun s H n => s = .tup [] ∧ H = [(0, .row 1 cap T (zs.map (eI .i64)))] ∧ n = 1) := by
  intro ν w fv vs hn hH hfv hvs
  simp only [fnv, Rel] at hfv
  subst hfv
  simp only [RelL, Rel] at hvs
  obtain ⟨y, ys', rfl, ⟨hlt, a, rfl, ha⟩, rfl⟩ := hvs
  obtain ⟨hid, hcap, -, ys, hys, hone, hcells⟩ := hH.ok 0 _ rfl
  simp only [List.length_map] at hcap
  have hc0 : cap ≠ 0 := by omega
  obtain ⟨c, hc1, hc2, hc3⟩ := hcells hc0
  have ha := ha (by omega)
  simp only [Nat.zero_mul] at ha
  subst ha
  have hy : ys = xs.map (Value.int .i64) := by
    have := RelLL.flat.1 hys
    rw [flat_ints] at this
    exact this.eq_svs
  subst hy
  have hb : ν.blk 0 < w.heap.size := (Array.getElem?_eq_some_iff.1 hc1).1
  have hcz : c.size = cap := by rw [hc2, Nat.mul_one]
  have hold : Go.Sort.Holds (Value.int .i64) w (ν.blk 0) 0 xs.toArray := by
    intro j hj
    have hj' : j < xs.length := by simpa using hj
    refine ⟨?_, by simp [World.frozen?, hc1]⟩
    rw [Nat.zero_add, cell?_cells hc1, hc3 j (by simpa using hj')]
    simp [hj']
  obtain ⟨fn', h1, h2, h3⟩ := hg
  refine .of_calls h1 h2 h3 ?_
  simp only [Array.empty_append, Array.append_empty]
  refine (h (ν.blk 0) w hold hb).mono ?_
  rintro e w' ⟨rfl, n, os, rfl⟩
  have hget : ∀ k : Nat, (Go.Sort.putRow (Value.int .i64) (Go.Sort.ahead w n) (ν.blk 0) 0 zs.toArray).heap[k]? = if ν.blk 0 = k then some (.cells (Go.Sort.putCells (Value.int .i64) 0 zs.toArray c) T (0, 0)) else w.heap[k]? := by
    intro k
    simp only [Go.Sort.putRow, Go.Sort.mapBlock, Go.Sort.ahead, Array.getElem?_modify]
    split
    · rename_i e
      subst e
      rw [hc1]; rfl
    · rfl
  refine ⟨_, rfl, ν, .tup [], [(0, .row 1 cap T (zs.map (eI .i64)))], ⟨rfl, rfl, hn⟩, .refl _, ?_, ⟨#[], rfl, rfl⟩⟩
  have hw : Holds (ctxOf gl ν [(0, .row 1 cap T (xs.map (eI .i64)))] w) ν [(0, .row 1 cap T (zs.map (eI .i64)))] (Go.Sort.putRow (Value.int .i64) (Go.Sort.ahead w n) (ν.blk 0) 0 zs.toArray) := by
    refine hH.write (id := 0) (b' := .row 1 cap T (zs.map (eI .i64))) rfl hc0 (fun k hk => by rw [hget, if_neg (Ne.symm hk)]) (by simp [Go.Sort.ahead]) ⟨rfl, rfl, rfl⟩ ⟨hid, by simp only [List.length_map]; omega, rows_ints zs, zs.map (Value.int .i64), ?_, ?_, fun _ => ⟨Go.Sort.putCells (Value.int .i64) 0 zs.toArray c, ?_, ?_, ?_⟩⟩
    · rw [RelLL.flat, flat_ints]
      exact RelL.svs _
    · intro v hv
      obtain ⟨m, -, rfl⟩ := List.mem_map.1 hv
      rfl
    · rw [hget, if_pos rfl]
    · simp [Go.Sort.putCells, hcz]
    · intro j hj
      have hj' : j < zs.length := by simpa using hj
      simp only [Go.Sort.putCells, Array.getElem?_mapIdx]
      rw [Array.getElem?_eq_getElem (show j < c.size by omega)]
      simp [hj']
  refine hw.grown ⟨⟨rfl, rfl, rfl⟩, by simp, fun k hk => ?_⟩
  simp only [Go.Sort.grow]
  rw [Array.getElem?_append, if_pos hk]
end Go.Sy
namespace Go.Proofs.YtnjgmjcokcfmkaaDoor
open Go Go.Sy
def sortI (xs : List Int) : List Int := xs.mergeSort fun x y => decide (x ≤ y)
theorem sortI_len (xs : List Int) : (sortI xs).length = xs.length := List.length_mergeSort _
theorem sort_ok (xs : List Int) (cap : Nat) (T : TypeId) (h0 : 0 < xs.length) (hn : xs.length < 2 ^ 46) : Con Tryd.prog gl0 (fnv 63) [.sl 0 1 0 xs.length cap] 1 [(0, .row 1 cap T (xs.map (eI .i64)))] (fun s H n => s = .tup [] ∧ H = [(0, .row 1 cap T ((sortI xs).map (eI .i64)))] ∧ n = 1) :=
  Con.turnRow Tryd.ok63 h0 (sortI_len xs) fun blk w hH hb => calls_of_every_depth fun D => Go.Proofs.AnyS.slices_Sort_int_in Tryd.lays189 D blk 0 cap xs w hH hb (by omega)
end Go.Proofs.YtnjgmjcokcfmkaaDoor
