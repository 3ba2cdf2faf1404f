/- Closed facts on the program's types and functions, printed by a program of mine. No condition. -/
import Derived.Test.YtbgnnmlhpaaebaaDoorChecked
import Derived.Test.YtbgnnmlhpaaebaaDoorSyZ
namespace Go.Proofs
open Go Go.Sy
set_option maxRecDepth 100000
set_option linter.unusedSimpArgs false
set_option linter.unusedVariables false
theorem Tryd.mixed : Tryd.prog.follows .mixedOrders = true := Tryd.checked.mixed
theorem Tryd.sz0 : tySize Tryd.prog 0 = some 1 := by kernel_rfl
theorem Tryd.by0 : tyBytes Tryd.prog 0 = some 0 := by kernel_rfl
theorem Tryd.ag0 : tyAgg Tryd.prog 0 = some false := by kernel_rfl
theorem Tryd.ar0 : tyArr Tryd.prog 0 = none := by kernel_rfl
theorem Tryd.sz1 : tySize Tryd.prog 1 = some 1 := by kernel_rfl
theorem Tryd.by1 : tyBytes Tryd.prog 1 = some 8 := by kernel_rfl
theorem Tryd.ag1 : tyAgg Tryd.prog 1 = some false := by kernel_rfl
theorem Tryd.ze1 : tyZero Tryd.prog 1 = some [.nilFunc] := by kernel_rfl
theorem Tryd.ar1 : tyArr Tryd.prog 1 = none := by kernel_rfl
theorem Tryd.sz2 : tySize Tryd.prog 2 = some 1 := by kernel_rfl
theorem Tryd.by2 : tyBytes Tryd.prog 2 = some 8 := by kernel_rfl
theorem Tryd.ag2 : tyAgg Tryd.prog 2 = some false := by kernel_rfl
theorem Tryd.ze2 : tyZero Tryd.prog 2 = some [.int .i64 0] := by kernel_rfl
theorem Tryd.ar2 : tyArr Tryd.prog 2 = none := by kernel_rfl
theorem Tryd.sz3 : tySize Tryd.prog 3 = some 1 := by kernel_rfl
theorem Tryd.by3 : tyBytes Tryd.prog 3 = some 8 := by kernel_rfl
theorem Tryd.ag3 : tyAgg Tryd.prog 3 = some false := by kernel_rfl
theorem Tryd.ze3 : tyZero Tryd.prog 3 = some [.int .i64 0] := by kernel_rfl
theorem Tryd.ar3 : tyArr Tryd.prog 3 = none := by kernel_rfl
theorem Tryd.sz4 : tySize Tryd.prog 4 = some 1 := by kernel_rfl
theorem Tryd.by4 : tyBytes Tryd.prog 4 = some 1 := by kernel_rfl
theorem Tryd.ag4 : tyAgg Tryd.prog 4 = some false := by kernel_rfl
theorem Tryd.ze4 : tyZero Tryd.prog 4 = some [.bool false] := by kernel_rfl
theorem Tryd.ar4 : tyArr Tryd.prog 4 = none := by kernel_rfl
theorem Tryd.sz5 : tySize Tryd.prog 5 = some 1 := by kernel_rfl
theorem Tryd.by5 : tyBytes Tryd.prog 5 = some 1 := by kernel_rfl
theorem Tryd.ag5 : tyAgg Tryd.prog 5 = some false := by kernel_rfl
theorem Tryd.ze5 : tyZero Tryd.prog 5 = some [.int .u8 0] := by kernel_rfl
theorem Tryd.ar5 : tyArr Tryd.prog 5 = none := by kernel_rfl
theorem Tryd.sz6 : tySize Tryd.prog 6 = some 1 := by kernel_rfl
theorem Tryd.by6 : tyBytes Tryd.prog 6 = some 1 := by kernel_rfl
theorem Tryd.ag6 : tyAgg Tryd.prog 6 = some false := by kernel_rfl
theorem Tryd.ze6 : tyZero Tryd.prog 6 = some [.int .u8 0] := by kernel_rfl
theorem Tryd.ar6 : tyArr Tryd.prog 6 = none := by kernel_rfl
theorem Tryd.sz7 : tySize Tryd.prog 7 = some 4 := by kernel_rfl
theorem Tryd.by7 : tyBytes Tryd.prog 7 = some 24 := by kernel_rfl
theorem Tryd.ag7 : tyAgg Tryd.prog 7 = some true := by kernel_rfl
theorem Tryd.ze7 : tyZero Tryd.prog 7 = some [.int .i64 0, .int .i64 0, .bool false, .int .u8 0] := by kernel_rfl
theorem Tryd.fd7f0 : tyField Tryd.prog 7 0 = some (0, 1, false) := by kernel_rfl
theorem Tryd.fd7f1 : tyField Tryd.prog 7 1 = some (1, 1, false) := by kernel_rfl
theorem Tryd.fd7f2 : tyField Tryd.prog 7 2 = some (2, 1, false) := by kernel_rfl
theorem Tryd.fd7f3 : tyField Tryd.prog 7 3 = some (3, 1, false) := by kernel_rfl
theorem Tryd.pl7 : tyPlaces Tryd.prog 7 = some [(0, 1), (1, 1), (2, 1), (3, 1)] := by kernel_rfl
theorem Tryd.eq7 : tyEqA Tryd.prog 7 = some [true, true, false, true] := by kernel_rfl
theorem Tryd.ar7 : tyArr Tryd.prog 7 = none := by kernel_rfl
theorem Tryd.sz9 : tySize Tryd.prog 9 = some 1 := by kernel_rfl
theorem Tryd.by9 : tyBytes Tryd.prog 9 = some 16 := by kernel_rfl
theorem Tryd.ag9 : tyAgg Tryd.prog 9 = some false := by kernel_rfl
theorem Tryd.ze9 : tyZero Tryd.prog 9 = some [.string ⟨#[]⟩] := by kernel_rfl
theorem Tryd.ar9 : tyArr Tryd.prog 9 = none := by kernel_rfl
theorem Tryd.sz12 : tySize Tryd.prog 12 = some 1 := by kernel_rfl
theorem Tryd.by12 : tyBytes Tryd.prog 12 = some 8 := by kernel_rfl
theorem Tryd.ag12 : tyAgg Tryd.prog 12 = some false := by kernel_rfl
theorem Tryd.ze12 : tyZero Tryd.prog 12 = some [.int .u64 0] := by kernel_rfl
theorem Tryd.ar12 : tyArr Tryd.prog 12 = none := by kernel_rfl
theorem Tryd.sz13 : tySize Tryd.prog 13 = some 2 := by kernel_rfl
theorem Tryd.by13 : tyBytes Tryd.prog 13 = some 24 := by kernel_rfl
theorem Tryd.ag13 : tyAgg Tryd.prog 13 = some true := by kernel_rfl
theorem Tryd.ze13 : tyZero Tryd.prog 13 = some [.string ⟨#[]⟩, .int .u64 0] := by kernel_rfl
theorem Tryd.fd13f0 : tyField Tryd.prog 13 0 = some (0, 1, false) := by kernel_rfl
theorem Tryd.fd13f1 : tyField Tryd.prog 13 1 = some (1, 1, false) := by kernel_rfl
theorem Tryd.pl13 : tyPlaces Tryd.prog 13 = some [(0, 1), (1, 1)] := by kernel_rfl
theorem Tryd.ar13 : tyArr Tryd.prog 13 = none := by kernel_rfl
theorem Tryd.sz15 : tySize Tryd.prog 15 = some 1 := by kernel_rfl
theorem Tryd.by15 : tyBytes Tryd.prog 15 = some 8 := by kernel_rfl
theorem Tryd.ag15 : tyAgg Tryd.prog 15 = some false := by kernel_rfl
theorem Tryd.ze15 : tyZero Tryd.prog 15 = some [.pointer none] := by kernel_rfl
theorem Tryd.ar15 : tyArr Tryd.prog 15 = none := by kernel_rfl
theorem Tryd.sz16 : tySize Tryd.prog 16 = some 1 := by kernel_rfl
theorem Tryd.by16 : tyBytes Tryd.prog 16 = some 8 := by kernel_rfl
theorem Tryd.ag16 : tyAgg Tryd.prog 16 = some false := by kernel_rfl
theorem Tryd.ze16 : tyZero Tryd.prog 16 = some [.pointer none] := by kernel_rfl
theorem Tryd.ar16 : tyArr Tryd.prog 16 = none := by kernel_rfl
theorem Tryd.sz17 : tySize Tryd.prog 17 = some 1 := by kernel_rfl
theorem Tryd.by17 : tyBytes Tryd.prog 17 = some 8 := by kernel_rfl
theorem Tryd.ag17 : tyAgg Tryd.prog 17 = some false := by kernel_rfl
theorem Tryd.ze17 : tyZero Tryd.prog 17 = some [.pointer none] := by kernel_rfl
theorem Tryd.ar17 : tyArr Tryd.prog 17 = none := by kernel_rfl
theorem Tryd.sz18 : tySize Tryd.prog 18 = some 1 := by kernel_rfl
theorem Tryd.by18 : tyBytes Tryd.prog 18 = some 8 := by kernel_rfl
theorem Tryd.ag18 : tyAgg Tryd.prog 18 = some true := by kernel_rfl
theorem Tryd.ze18 : tyZero Tryd.prog 18 = some [.pointer none] := by kernel_rfl
theorem Tryd.fd18f0 : tyField Tryd.prog 18 0 = some (0, 1, false) := by kernel_rfl
theorem Tryd.pl18 : tyPlaces Tryd.prog 18 = some [(0, 1)] := by kernel_rfl
theorem Tryd.ar18 : tyArr Tryd.prog 18 = none := by kernel_rfl
theorem Tryd.sz20 : tySize Tryd.prog 20 = some 1 := by kernel_rfl
theorem Tryd.by20 : tyBytes Tryd.prog 20 = some 16 := by kernel_rfl
theorem Tryd.ag20 : tyAgg Tryd.prog 20 = some false := by kernel_rfl
theorem Tryd.ze20 : tyZero Tryd.prog 20 = some [.nilIface] := by kernel_rfl
theorem Tryd.ar20 : tyArr Tryd.prog 20 = none := by kernel_rfl
theorem Tryd.sz21 : tySize Tryd.prog 21 = some 1 := by kernel_rfl
theorem Tryd.by21 : tyBytes Tryd.prog 21 = some 4 := by kernel_rfl
theorem Tryd.ag21 : tyAgg Tryd.prog 21 = some false := by kernel_rfl
theorem Tryd.ze21 : tyZero Tryd.prog 21 = some [.int .i32 0] := by kernel_rfl
theorem Tryd.ar21 : tyArr Tryd.prog 21 = none := by kernel_rfl
theorem Tryd.sz22 : tySize Tryd.prog 22 = some 1 := by kernel_rfl
theorem Tryd.by22 : tyBytes Tryd.prog 22 = some 24 := by kernel_rfl
theorem Tryd.ag22 : tyAgg Tryd.prog 22 = some false := by kernel_rfl
theorem Tryd.ze22 : tyZero Tryd.prog 22 = some [.slice none 0 0] := by kernel_rfl
theorem Tryd.ar22 : tyArr Tryd.prog 22 = none := by kernel_rfl
theorem Tryd.sz23 : tySize Tryd.prog 23 = some 1 := by kernel_rfl
theorem Tryd.by23 : tyBytes Tryd.prog 23 = some 24 := by kernel_rfl
theorem Tryd.ag23 : tyAgg Tryd.prog 23 = some true := by kernel_rfl
theorem Tryd.ze23 : tyZero Tryd.prog 23 = some [.slice none 0 0] := by kernel_rfl
theorem Tryd.fd23f0 : tyField Tryd.prog 23 0 = some (0, 1, false) := by kernel_rfl
theorem Tryd.pl23 : tyPlaces Tryd.prog 23 = some [(0, 1)] := by kernel_rfl
theorem Tryd.ar23 : tyArr Tryd.prog 23 = none := by kernel_rfl
theorem Tryd.sz24 : tySize Tryd.prog 24 = some 1 := by kernel_rfl
theorem Tryd.by24 : tyBytes Tryd.prog 24 = some 24 := by kernel_rfl
theorem Tryd.ag24 : tyAgg Tryd.prog 24 = some true := by kernel_rfl
theorem Tryd.ze24 : tyZero Tryd.prog 24 = some [.slice none 0 0] := by kernel_rfl
theorem Tryd.fd24f0 : tyField Tryd.prog 24 0 = some (0, 1, false) := by kernel_rfl
theorem Tryd.pl24 : tyPlaces Tryd.prog 24 = some [(0, 1)] := by kernel_rfl
theorem Tryd.ar24 : tyArr Tryd.prog 24 = none := by kernel_rfl
theorem Tryd.sz25 : tySize Tryd.prog 25 = some 1 := by kernel_rfl
theorem Tryd.by25 : tyBytes Tryd.prog 25 = some 24 := by kernel_rfl
theorem Tryd.ag25 : tyAgg Tryd.prog 25 = some false := by kernel_rfl
theorem Tryd.ze25 : tyZero Tryd.prog 25 = some [.slice none 0 0] := by kernel_rfl
theorem Tryd.ar25 : tyArr Tryd.prog 25 = none := by kernel_rfl
theorem Tryd.sz26 : tySize Tryd.prog 26 = some 1 := by kernel_rfl
theorem Tryd.by26 : tyBytes Tryd.prog 26 = some 24 := by kernel_rfl
theorem Tryd.ag26 : tyAgg Tryd.prog 26 = some false := by kernel_rfl
theorem Tryd.ze26 : tyZero Tryd.prog 26 = some [.slice none 0 0] := by kernel_rfl
theorem Tryd.ar26 : tyArr Tryd.prog 26 = none := by kernel_rfl
theorem Tryd.sz27 : tySize Tryd.prog 27 = some 1 := by kernel_rfl
theorem Tryd.by27 : tyBytes Tryd.prog 27 = some 8 := by kernel_rfl
theorem Tryd.ag27 : tyAgg Tryd.prog 27 = some false := by kernel_rfl
theorem Tryd.ze27 : tyZero Tryd.prog 27 = some [.nilFunc] := by kernel_rfl
theorem Tryd.ar27 : tyArr Tryd.prog 27 = none := by kernel_rfl
theorem Tryd.sz28 : tySize Tryd.prog 28 = some 1 := by kernel_rfl
theorem Tryd.by28 : tyBytes Tryd.prog 28 = some 8 := by kernel_rfl
theorem Tryd.ag28 : tyAgg Tryd.prog 28 = some false := by kernel_rfl
theorem Tryd.ze28 : tyZero Tryd.prog 28 = some [.nilFunc] := by kernel_rfl
theorem Tryd.ar28 : tyArr Tryd.prog 28 = none := by kernel_rfl
theorem Tryd.sz29 : tySize Tryd.prog 29 = some 1 := by kernel_rfl
theorem Tryd.by29 : tyBytes Tryd.prog 29 = some 8 := by kernel_rfl
theorem Tryd.ag29 : tyAgg Tryd.prog 29 = some false := by kernel_rfl
theorem Tryd.ze29 : tyZero Tryd.prog 29 = some [.nilFunc] := by kernel_rfl
theorem Tryd.ar29 : tyArr Tryd.prog 29 = none := by kernel_rfl
theorem Tryd.sz30 : tySize Tryd.prog 30 = some 2 := by kernel_rfl
theorem Tryd.by30 : tyBytes Tryd.prog 30 = some 16 := by kernel_rfl
theorem Tryd.ag30 : tyAgg Tryd.prog 30 = some true := by kernel_rfl
theorem Tryd.ze30 : tyZero Tryd.prog 30 = some [.int .i64 0, .int .i64 0] := by kernel_rfl
theorem Tryd.pl30 : tyPlaces Tryd.prog 30 = some [(0, 1), (1, 1)] := by kernel_rfl
theorem Tryd.ar30 : tyArr Tryd.prog 30 = none := by kernel_rfl
theorem Tryd.sz31 : tySize Tryd.prog 31 = some 1 := by kernel_rfl
theorem Tryd.by31 : tyBytes Tryd.prog 31 = some 8 := by kernel_rfl
theorem Tryd.ag31 : tyAgg Tryd.prog 31 = some false := by kernel_rfl
theorem Tryd.ze31 : tyZero Tryd.prog 31 = some [.int .i64 0] := by kernel_rfl
theorem Tryd.ar31 : tyArr Tryd.prog 31 = none := by kernel_rfl
theorem Tryd.sz32 : tySize Tryd.prog 32 = some 1 := by kernel_rfl
theorem Tryd.by32 : tyBytes Tryd.prog 32 = some 0 := by kernel_rfl
theorem Tryd.ag32 : tyAgg Tryd.prog 32 = some false := by kernel_rfl
theorem Tryd.ar32 : tyArr Tryd.prog 32 = none := by kernel_rfl
theorem Tryd.sz33 : tySize Tryd.prog 33 = some 1 := by kernel_rfl
theorem Tryd.by33 : tyBytes Tryd.prog 33 = some 8 := by kernel_rfl
theorem Tryd.ag33 : tyAgg Tryd.prog 33 = some false := by kernel_rfl
theorem Tryd.ze33 : tyZero Tryd.prog 33 = some [.nilFunc] := by kernel_rfl
theorem Tryd.ar33 : tyArr Tryd.prog 33 = none := by kernel_rfl
theorem Tryd.sz34 : tySize Tryd.prog 34 = some 1 := by kernel_rfl
theorem Tryd.by34 : tyBytes Tryd.prog 34 = some 8 := by kernel_rfl
theorem Tryd.ag34 : tyAgg Tryd.prog 34 = some false := by kernel_rfl
theorem Tryd.ze34 : tyZero Tryd.prog 34 = some [.nilFunc] := by kernel_rfl
theorem Tryd.ar34 : tyArr Tryd.prog 34 = none := by kernel_rfl
theorem Tryd.sz35 : tySize Tryd.prog 35 = some 1 := by kernel_rfl
theorem Tryd.by35 : tyBytes Tryd.prog 35 = some 8 := by kernel_rfl
theorem Tryd.ag35 : tyAgg Tryd.prog 35 = some false := by kernel_rfl
theorem Tryd.ze35 : tyZero Tryd.prog 35 = some [.nilFunc] := by kernel_rfl
theorem Tryd.ar35 : tyArr Tryd.prog 35 = none := by kernel_rfl
theorem Tryd.sz36 : tySize Tryd.prog 36 = some 1 := by kernel_rfl
theorem Tryd.by36 : tyBytes Tryd.prog 36 = some 4 := by kernel_rfl
theorem Tryd.ag36 : tyAgg Tryd.prog 36 = some false := by kernel_rfl
theorem Tryd.ze36 : tyZero Tryd.prog 36 = some [.int .u32 0] := by kernel_rfl
theorem Tryd.ar36 : tyArr Tryd.prog 36 = none := by kernel_rfl
theorem Tryd.sz37 : tySize Tryd.prog 37 = some 1 := by kernel_rfl
theorem Tryd.by37 : tyBytes Tryd.prog 37 = some 4 := by kernel_rfl
theorem Tryd.ag37 : tyAgg Tryd.prog 37 = some false := by kernel_rfl
theorem Tryd.ze37 : tyZero Tryd.prog 37 = some [.int .u32 0] := by kernel_rfl
theorem Tryd.ar37 : tyArr Tryd.prog 37 = none := by kernel_rfl
theorem Tryd.sz38 : tySize Tryd.prog 38 = some 1 := by kernel_rfl
theorem Tryd.by38 : tyBytes Tryd.prog 38 = some 24 := by kernel_rfl
theorem Tryd.ag38 : tyAgg Tryd.prog 38 = some false := by kernel_rfl
theorem Tryd.ze38 : tyZero Tryd.prog 38 = some [.slice none 0 0] := by kernel_rfl
theorem Tryd.ar38 : tyArr Tryd.prog 38 = none := by kernel_rfl
theorem Tryd.sz39 : tySize Tryd.prog 39 = some 1 := by kernel_rfl
theorem Tryd.by39 : tyBytes Tryd.prog 39 = some 0 := by kernel_rfl
theorem Tryd.ag39 : tyAgg Tryd.prog 39 = some false := by kernel_rfl
theorem Tryd.ar39 : tyArr Tryd.prog 39 = none := by kernel_rfl
theorem Tryd.sz40 : tySize Tryd.prog 40 = some 1 := by kernel_rfl
theorem Tryd.by40 : tyBytes Tryd.prog 40 = some 8 := by kernel_rfl
theorem Tryd.ag40 : tyAgg Tryd.prog 40 = some false := by kernel_rfl
theorem Tryd.ze40 : tyZero Tryd.prog 40 = some [.nilFunc] := by kernel_rfl
theorem Tryd.ar40 : tyArr Tryd.prog 40 = none := by kernel_rfl
theorem Tryd.sz41 : tySize Tryd.prog 41 = some 1 := by kernel_rfl
theorem Tryd.by41 : tyBytes Tryd.prog 41 = some 8 := by kernel_rfl
theorem Tryd.ag41 : tyAgg Tryd.prog 41 = some false := by kernel_rfl
theorem Tryd.ze41 : tyZero Tryd.prog 41 = some [.nilFunc] := by kernel_rfl
theorem Tryd.ar41 : tyArr Tryd.prog 41 = none := by kernel_rfl
theorem Tryd.sz42 : tySize Tryd.prog 42 = some 1 := by kernel_rfl
theorem Tryd.by42 : tyBytes Tryd.prog 42 = some 8 := by kernel_rfl
theorem Tryd.ag42 : tyAgg Tryd.prog 42 = some false := by kernel_rfl
theorem Tryd.ze42 : tyZero Tryd.prog 42 = some [.nilFunc] := by kernel_rfl
theorem Tryd.ar42 : tyArr Tryd.prog 42 = none := by kernel_rfl
theorem Tryd.sz43 : tySize Tryd.prog 43 = some 1 := by kernel_rfl
theorem Tryd.by43 : tyBytes Tryd.prog 43 = some 8 := by kernel_rfl
theorem Tryd.ag43 : tyAgg Tryd.prog 43 = some false := by kernel_rfl
theorem Tryd.ze43 : tyZero Tryd.prog 43 = some [.nilFunc] := by kernel_rfl
theorem Tryd.ar43 : tyArr Tryd.prog 43 = none := by kernel_rfl
theorem Tryd.sz44 : tySize Tryd.prog 44 = some 1 := by kernel_rfl
theorem Tryd.by44 : tyBytes Tryd.prog 44 = some 8 := by kernel_rfl
theorem Tryd.ag44 : tyAgg Tryd.prog 44 = some false := by kernel_rfl
theorem Tryd.ze44 : tyZero Tryd.prog 44 = some [.nilFunc] := by kernel_rfl
theorem Tryd.ar44 : tyArr Tryd.prog 44 = none := by kernel_rfl
theorem Tryd.sz45 : tySize Tryd.prog 45 = some 1 := by kernel_rfl
theorem Tryd.by45 : tyBytes Tryd.prog 45 = some 8 := by kernel_rfl
theorem Tryd.ag45 : tyAgg Tryd.prog 45 = some false := by kernel_rfl
theorem Tryd.ze45 : tyZero Tryd.prog 45 = some [.nilFunc] := by kernel_rfl
theorem Tryd.ar45 : tyArr Tryd.prog 45 = none := by kernel_rfl
theorem Tryd.sz46 : tySize Tryd.prog 46 = some 1 := by kernel_rfl
theorem Tryd.by46 : tyBytes Tryd.prog 46 = some 24 := by kernel_rfl
theorem Tryd.ag46 : tyAgg Tryd.prog 46 = some false := by kernel_rfl
theorem Tryd.ze46 : tyZero Tryd.prog 46 = some [.slice none 0 0] := by kernel_rfl
theorem Tryd.ar46 : tyArr Tryd.prog 46 = none := by kernel_rfl
theorem Tryd.sz47 : tySize Tryd.prog 47 = some 1 := by kernel_rfl
theorem Tryd.by47 : tyBytes Tryd.prog 47 = some 0 := by kernel_rfl
theorem Tryd.ag47 : tyAgg Tryd.prog 47 = some false := by kernel_rfl
theorem Tryd.ar47 : tyArr Tryd.prog 47 = none := by kernel_rfl
theorem Tryd.sz48 : tySize Tryd.prog 48 = some 1 := by kernel_rfl
theorem Tryd.by48 : tyBytes Tryd.prog 48 = some 8 := by kernel_rfl
theorem Tryd.ag48 : tyAgg Tryd.prog 48 = some false := by kernel_rfl
theorem Tryd.ze48 : tyZero Tryd.prog 48 = some [.nilFunc] := by kernel_rfl
theorem Tryd.ar48 : tyArr Tryd.prog 48 = none := by kernel_rfl
theorem Tryd.sz49 : tySize Tryd.prog 49 = some 2 := by kernel_rfl
theorem Tryd.by49 : tyBytes Tryd.prog 49 = some 16 := by kernel_rfl
theorem Tryd.ag49 : tyAgg Tryd.prog 49 = some true := by kernel_rfl
theorem Tryd.ze49 : tyZero Tryd.prog 49 = some [.int .i64 0, .int .i64 0] := by kernel_rfl
theorem Tryd.fd49f0 : tyField Tryd.prog 49 0 = some (0, 1, false) := by kernel_rfl
theorem Tryd.fd49f1 : tyField Tryd.prog 49 1 = some (1, 1, false) := by kernel_rfl
theorem Tryd.pl49 : tyPlaces Tryd.prog 49 = some [(0, 1), (1, 1)] := by kernel_rfl
theorem Tryd.eq49 : tyEqA Tryd.prog 49 = some [true, true] := by kernel_rfl
theorem Tryd.ar49 : tyArr Tryd.prog 49 = none := by kernel_rfl
theorem Tryd.sz50 : tySize Tryd.prog 50 = some 2 := by kernel_rfl
theorem Tryd.by50 : tyBytes Tryd.prog 50 = some 16 := by kernel_rfl
theorem Tryd.ag50 : tyAgg Tryd.prog 50 = some true := by kernel_rfl
theorem Tryd.ze50 : tyZero Tryd.prog 50 = some [.int .i64 0, .int .i64 0] := by kernel_rfl
theorem Tryd.fd50f0 : tyField Tryd.prog 50 0 = some (0, 1, false) := by kernel_rfl
theorem Tryd.fd50f1 : tyField Tryd.prog 50 1 = some (1, 1, false) := by kernel_rfl
theorem Tryd.pl50 : tyPlaces Tryd.prog 50 = some [(0, 1), (1, 1)] := by kernel_rfl
theorem Tryd.eq50 : tyEqA Tryd.prog 50 = some [true, true] := by kernel_rfl
theorem Tryd.ar50 : tyArr Tryd.prog 50 = none := by kernel_rfl
theorem Tryd.sz51 : tySize Tryd.prog 51 = some 3 := by kernel_rfl
theorem Tryd.by51 : tyBytes Tryd.prog 51 = some 24 := by kernel_rfl
theorem Tryd.ag51 : tyAgg Tryd.prog 51 = some true := by kernel_rfl
theorem Tryd.ze51 : tyZero Tryd.prog 51 = some [.int .i64 0, .int .i64 0, .int .i64 0] := by kernel_rfl
theorem Tryd.pl51 : tyPlaces Tryd.prog 51 = some [(0, 1), (1, 1), (2, 1)] := by kernel_rfl
theorem Tryd.ar51 : tyArr Tryd.prog 51 = none := by kernel_rfl
theorem Tryd.sz52 : tySize Tryd.prog 52 = some 1 := by kernel_rfl
theorem Tryd.by52 : tyBytes Tryd.prog 52 = some 8 := by kernel_rfl
theorem Tryd.ag52 : tyAgg Tryd.prog 52 = some false := by kernel_rfl
theorem Tryd.ze52 : tyZero Tryd.prog 52 = some [.nilFunc] := by kernel_rfl
theorem Tryd.ar52 : tyArr Tryd.prog 52 = none := by kernel_rfl
theorem Tryd.sz53 : tySize Tryd.prog 53 = some 1 := by kernel_rfl
theorem Tryd.by53 : tyBytes Tryd.prog 53 = some 0 := by kernel_rfl
theorem Tryd.ag53 : tyAgg Tryd.prog 53 = some false := by kernel_rfl
theorem Tryd.ar53 : tyArr Tryd.prog 53 = none := by kernel_rfl
theorem Tryd.sz54 : tySize Tryd.prog 54 = some 1 := by kernel_rfl
theorem Tryd.by54 : tyBytes Tryd.prog 54 = some 8 := by kernel_rfl
theorem Tryd.ag54 : tyAgg Tryd.prog 54 = some false := by kernel_rfl
theorem Tryd.ze54 : tyZero Tryd.prog 54 = some [.nilFunc] := by kernel_rfl
theorem Tryd.ar54 : tyArr Tryd.prog 54 = none := by kernel_rfl
theorem Tryd.sz55 : tySize Tryd.prog 55 = some 1 := by kernel_rfl
theorem Tryd.by55 : tyBytes Tryd.prog 55 = some 8 := by kernel_rfl
theorem Tryd.ag55 : tyAgg Tryd.prog 55 = some false := by kernel_rfl
theorem Tryd.ze55 : tyZero Tryd.prog 55 = some [.nilFunc] := by kernel_rfl
theorem Tryd.ar55 : tyArr Tryd.prog 55 = none := by kernel_rfl
theorem Tryd.sz56 : tySize Tryd.prog 56 = some 1 := by kernel_rfl
theorem Tryd.by56 : tyBytes Tryd.prog 56 = some 8 := by kernel_rfl
theorem Tryd.ag56 : tyAgg Tryd.prog 56 = some false := by kernel_rfl
theorem Tryd.ze56 : tyZero Tryd.prog 56 = some [.nilFunc] := by kernel_rfl
theorem Tryd.ar56 : tyArr Tryd.prog 56 = none := by kernel_rfl
theorem Tryd.sz57 : tySize Tryd.prog 57 = some 1 := by kernel_rfl
theorem Tryd.by57 : tyBytes Tryd.prog 57 = some 8 := by kernel_rfl
theorem Tryd.ag57 : tyAgg Tryd.prog 57 = some false := by kernel_rfl
theorem Tryd.ze57 : tyZero Tryd.prog 57 = some [.nilFunc] := by kernel_rfl
theorem Tryd.ar57 : tyArr Tryd.prog 57 = none := by kernel_rfl
theorem Tryd.sz58 : tySize Tryd.prog 58 = some 1 := by kernel_rfl
theorem Tryd.by58 : tyBytes Tryd.prog 58 = some 8 := by kernel_rfl
theorem Tryd.ag58 : tyAgg Tryd.prog 58 = some false := by kernel_rfl
theorem Tryd.ze58 : tyZero Tryd.prog 58 = some [.nilFunc] := by kernel_rfl
theorem Tryd.ar58 : tyArr Tryd.prog 58 = none := by kernel_rfl
theorem Tryd.sz59 : tySize Tryd.prog 59 = some 1 := by kernel_rfl
theorem Tryd.by59 : tyBytes Tryd.prog 59 = some 8 := by kernel_rfl
theorem Tryd.ag59 : tyAgg Tryd.prog 59 = some false := by kernel_rfl
theorem Tryd.ze59 : tyZero Tryd.prog 59 = some [.nilFunc] := by kernel_rfl
theorem Tryd.ar59 : tyArr Tryd.prog 59 = none := by kernel_rfl
theorem Tryd.sz60 : tySize Tryd.prog 60 = some 1 := by kernel_rfl
theorem Tryd.by60 : tyBytes Tryd.prog 60 = some 0 := by kernel_rfl
theorem Tryd.ag60 : tyAgg Tryd.prog 60 = some false := by kernel_rfl
theorem Tryd.ar60 : tyArr Tryd.prog 60 = none := by kernel_rfl
theorem Tryd.sz61 : tySize Tryd.prog 61 = some 1 := by kernel_rfl
theorem Tryd.by61 : tyBytes Tryd.prog 61 = some 8 := by kernel_rfl
theorem Tryd.ag61 : tyAgg Tryd.prog 61 = some false := by kernel_rfl
theorem Tryd.ze61 : tyZero Tryd.prog 61 = some [.nilFunc] := by kernel_rfl
theorem Tryd.ar61 : tyArr Tryd.prog 61 = none := by kernel_rfl
theorem Tryd.sz62 : tySize Tryd.prog 62 = some 1 := by kernel_rfl
theorem Tryd.by62 : tyBytes Tryd.prog 62 = some 8 := by kernel_rfl
theorem Tryd.ag62 : tyAgg Tryd.prog 62 = some false := by kernel_rfl
theorem Tryd.ze62 : tyZero Tryd.prog 62 = some [.nilFunc] := by kernel_rfl
theorem Tryd.ar62 : tyArr Tryd.prog 62 = none := by kernel_rfl
theorem Tryd.sz63 : tySize Tryd.prog 63 = some 1 := by kernel_rfl
theorem Tryd.by63 : tyBytes Tryd.prog 63 = some 8 := by kernel_rfl
theorem Tryd.ag63 : tyAgg Tryd.prog 63 = some false := by kernel_rfl
theorem Tryd.ze63 : tyZero Tryd.prog 63 = some [.nilFunc] := by kernel_rfl
theorem Tryd.ar63 : tyArr Tryd.prog 63 = none := by kernel_rfl
theorem Tryd.sz64 : tySize Tryd.prog 64 = some 1 := by kernel_rfl
theorem Tryd.by64 : tyBytes Tryd.prog 64 = some 24 := by kernel_rfl
theorem Tryd.ag64 : tyAgg Tryd.prog 64 = some false := by kernel_rfl
theorem Tryd.ze64 : tyZero Tryd.prog 64 = some [.slice none 0 0] := by kernel_rfl
theorem Tryd.ar64 : tyArr Tryd.prog 64 = none := by kernel_rfl
theorem Tryd.sz65 : tySize Tryd.prog 65 = some 1 := by kernel_rfl
theorem Tryd.by65 : tyBytes Tryd.prog 65 = some 8 := by kernel_rfl
theorem Tryd.ag65 : tyAgg Tryd.prog 65 = some false := by kernel_rfl
theorem Tryd.ze65 : tyZero Tryd.prog 65 = some [.nilFunc] := by kernel_rfl
theorem Tryd.ar65 : tyArr Tryd.prog 65 = none := by kernel_rfl
theorem Tryd.sz66 : tySize Tryd.prog 66 = some 1 := by kernel_rfl
theorem Tryd.by66 : tyBytes Tryd.prog 66 = some 24 := by kernel_rfl
theorem Tryd.ag66 : tyAgg Tryd.prog 66 = some false := by kernel_rfl
theorem Tryd.ze66 : tyZero Tryd.prog 66 = some [.slice none 0 0] := by kernel_rfl
theorem Tryd.ar66 : tyArr Tryd.prog 66 = none := by kernel_rfl
theorem Tryd.sz67 : tySize Tryd.prog 67 = some 1 := by kernel_rfl
theorem Tryd.by67 : tyBytes Tryd.prog 67 = some 24 := by kernel_rfl
theorem Tryd.ag67 : tyAgg Tryd.prog 67 = some false := by kernel_rfl
theorem Tryd.ze67 : tyZero Tryd.prog 67 = some [.slice none 0 0] := by kernel_rfl
theorem Tryd.u867 : isU8 Tryd.prog 67 = true := by kernel_rfl
theorem Tryd.ar67 : tyArr Tryd.prog 67 = none := by kernel_rfl
theorem Tryd.sz68 : tySize Tryd.prog 68 = some 1 := by kernel_rfl
theorem Tryd.by68 : tyBytes Tryd.prog 68 = some 0 := by kernel_rfl
theorem Tryd.ag68 : tyAgg Tryd.prog 68 = some false := by kernel_rfl
theorem Tryd.ar68 : tyArr Tryd.prog 68 = none := by kernel_rfl
theorem Tryd.sz69 : tySize Tryd.prog 69 = some 1 := by kernel_rfl
theorem Tryd.by69 : tyBytes Tryd.prog 69 = some 8 := by kernel_rfl
theorem Tryd.ag69 : tyAgg Tryd.prog 69 = some false := by kernel_rfl
theorem Tryd.ze69 : tyZero Tryd.prog 69 = some [.nilFunc] := by kernel_rfl
theorem Tryd.ar69 : tyArr Tryd.prog 69 = none := by kernel_rfl
theorem Tryd.sz70 : tySize Tryd.prog 70 = some 1 := by kernel_rfl
theorem Tryd.by70 : tyBytes Tryd.prog 70 = some 8 := by kernel_rfl
theorem Tryd.ag70 : tyAgg Tryd.prog 70 = some false := by kernel_rfl
theorem Tryd.ze70 : tyZero Tryd.prog 70 = some [.nilFunc] := by kernel_rfl
theorem Tryd.ar70 : tyArr Tryd.prog 70 = none := by kernel_rfl
theorem Tryd.sz71 : tySize Tryd.prog 71 = some 1 := by kernel_rfl
theorem Tryd.by71 : tyBytes Tryd.prog 71 = some 8 := by kernel_rfl
theorem Tryd.ag71 : tyAgg Tryd.prog 71 = some false := by kernel_rfl
theorem Tryd.ze71 : tyZero Tryd.prog 71 = some [.nilFunc] := by kernel_rfl
theorem Tryd.ar71 : tyArr Tryd.prog 71 = none := by kernel_rfl
theorem Tryd.sz72 : tySize Tryd.prog 72 = some 1 := by kernel_rfl
theorem Tryd.by72 : tyBytes Tryd.prog 72 = some 8 := by kernel_rfl
theorem Tryd.ag72 : tyAgg Tryd.prog 72 = some false := by kernel_rfl
theorem Tryd.ze72 : tyZero Tryd.prog 72 = some [.nilFunc] := by kernel_rfl
theorem Tryd.ar72 : tyArr Tryd.prog 72 = none := by kernel_rfl
theorem Tryd.sz73 : tySize Tryd.prog 73 = some 1 := by kernel_rfl
theorem Tryd.by73 : tyBytes Tryd.prog 73 = some 8 := by kernel_rfl
theorem Tryd.ag73 : tyAgg Tryd.prog 73 = some false := by kernel_rfl
theorem Tryd.ze73 : tyZero Tryd.prog 73 = some [.nilFunc] := by kernel_rfl
theorem Tryd.ar73 : tyArr Tryd.prog 73 = none := by kernel_rfl
theorem Tryd.sz74 : tySize Tryd.prog 74 = some 1 := by kernel_rfl
theorem Tryd.by74 : tyBytes Tryd.prog 74 = some 8 := by kernel_rfl
theorem Tryd.ag74 : tyAgg Tryd.prog 74 = some false := by kernel_rfl
theorem Tryd.ze74 : tyZero Tryd.prog 74 = some [.nilFunc] := by kernel_rfl
theorem Tryd.ar74 : tyArr Tryd.prog 74 = none := by kernel_rfl
theorem Tryd.sz75 : tySize Tryd.prog 75 = some 1 := by kernel_rfl
theorem Tryd.by75 : tyBytes Tryd.prog 75 = some 8 := by kernel_rfl
theorem Tryd.ag75 : tyAgg Tryd.prog 75 = some false := by kernel_rfl
theorem Tryd.ze75 : tyZero Tryd.prog 75 = some [.nilFunc] := by kernel_rfl
theorem Tryd.ar75 : tyArr Tryd.prog 75 = none := by kernel_rfl
theorem Tryd.sz76 : tySize Tryd.prog 76 = some 1 := by kernel_rfl
theorem Tryd.by76 : tyBytes Tryd.prog 76 = some 8 := by kernel_rfl
theorem Tryd.ag76 : tyAgg Tryd.prog 76 = some false := by kernel_rfl
theorem Tryd.ze76 : tyZero Tryd.prog 76 = some [.nilFunc] := by kernel_rfl
theorem Tryd.ar76 : tyArr Tryd.prog 76 = none := by kernel_rfl
theorem Tryd.sz77 : tySize Tryd.prog 77 = some 1 := by kernel_rfl
theorem Tryd.by77 : tyBytes Tryd.prog 77 = some 8 := by kernel_rfl
theorem Tryd.ag77 : tyAgg Tryd.prog 77 = some false := by kernel_rfl
theorem Tryd.ze77 : tyZero Tryd.prog 77 = some [.nilFunc] := by kernel_rfl
theorem Tryd.ar77 : tyArr Tryd.prog 77 = none := by kernel_rfl
theorem Tryd.sz78 : tySize Tryd.prog 78 = some 1 := by kernel_rfl
theorem Tryd.by78 : tyBytes Tryd.prog 78 = some 8 := by kernel_rfl
theorem Tryd.ag78 : tyAgg Tryd.prog 78 = some false := by kernel_rfl
theorem Tryd.ze78 : tyZero Tryd.prog 78 = some [.nilFunc] := by kernel_rfl
theorem Tryd.ar78 : tyArr Tryd.prog 78 = none := by kernel_rfl
theorem Tryd.sz79 : tySize Tryd.prog 79 = some 1 := by kernel_rfl
theorem Tryd.by79 : tyBytes Tryd.prog 79 = some 8 := by kernel_rfl
theorem Tryd.ag79 : tyAgg Tryd.prog 79 = some false := by kernel_rfl
theorem Tryd.ze79 : tyZero Tryd.prog 79 = some [.nilFunc] := by kernel_rfl
theorem Tryd.ar79 : tyArr Tryd.prog 79 = none := by kernel_rfl
theorem Tryd.sz80 : tySize Tryd.prog 80 = some 1 := by kernel_rfl
theorem Tryd.by80 : tyBytes Tryd.prog 80 = some 8 := by kernel_rfl
theorem Tryd.ag80 : tyAgg Tryd.prog 80 = some false := by kernel_rfl
theorem Tryd.ze80 : tyZero Tryd.prog 80 = some [.nilFunc] := by kernel_rfl
theorem Tryd.ar80 : tyArr Tryd.prog 80 = none := by kernel_rfl
theorem Tryd.sz81 : tySize Tryd.prog 81 = some 1 := by kernel_rfl
theorem Tryd.by81 : tyBytes Tryd.prog 81 = some 8 := by kernel_rfl
theorem Tryd.ag81 : tyAgg Tryd.prog 81 = some false := by kernel_rfl
theorem Tryd.ze81 : tyZero Tryd.prog 81 = some [.nilFunc] := by kernel_rfl
theorem Tryd.ar81 : tyArr Tryd.prog 81 = none := by kernel_rfl
theorem Tryd.sz82 : tySize Tryd.prog 82 = some 1 := by kernel_rfl
theorem Tryd.by82 : tyBytes Tryd.prog 82 = some 8 := by kernel_rfl
theorem Tryd.ag82 : tyAgg Tryd.prog 82 = some false := by kernel_rfl
theorem Tryd.ze82 : tyZero Tryd.prog 82 = some [.nilFunc] := by kernel_rfl
theorem Tryd.ar82 : tyArr Tryd.prog 82 = none := by kernel_rfl
theorem Tryd.sz83 : tySize Tryd.prog 83 = some 1 := by kernel_rfl
theorem Tryd.by83 : tyBytes Tryd.prog 83 = some 8 := by kernel_rfl
theorem Tryd.ag83 : tyAgg Tryd.prog 83 = some false := by kernel_rfl
theorem Tryd.ze83 : tyZero Tryd.prog 83 = some [.nilFunc] := by kernel_rfl
theorem Tryd.ar83 : tyArr Tryd.prog 83 = none := by kernel_rfl
theorem Tryd.sz84 : tySize Tryd.prog 84 = some 1 := by kernel_rfl
theorem Tryd.by84 : tyBytes Tryd.prog 84 = some 8 := by kernel_rfl
theorem Tryd.ag84 : tyAgg Tryd.prog 84 = some false := by kernel_rfl
theorem Tryd.ze84 : tyZero Tryd.prog 84 = some [.nilFunc] := by kernel_rfl
theorem Tryd.ar84 : tyArr Tryd.prog 84 = none := by kernel_rfl
theorem Tryd.sz85 : tySize Tryd.prog 85 = some 1 := by kernel_rfl
theorem Tryd.by85 : tyBytes Tryd.prog 85 = some 8 := by kernel_rfl
theorem Tryd.ag85 : tyAgg Tryd.prog 85 = some false := by kernel_rfl
theorem Tryd.ze85 : tyZero Tryd.prog 85 = some [.nilFunc] := by kernel_rfl
theorem Tryd.ar85 : tyArr Tryd.prog 85 = none := by kernel_rfl
theorem Tryd.sz86 : tySize Tryd.prog 86 = some 1 := by kernel_rfl
theorem Tryd.by86 : tyBytes Tryd.prog 86 = some 8 := by kernel_rfl
theorem Tryd.ag86 : tyAgg Tryd.prog 86 = some false := by kernel_rfl
theorem Tryd.ze86 : tyZero Tryd.prog 86 = some [.nilFunc] := by kernel_rfl
theorem Tryd.ar86 : tyArr Tryd.prog 86 = none := by kernel_rfl
theorem Tryd.sz87 : tySize Tryd.prog 87 = some 1 := by kernel_rfl
theorem Tryd.by87 : tyBytes Tryd.prog 87 = some 8 := by kernel_rfl
theorem Tryd.ag87 : tyAgg Tryd.prog 87 = some false := by kernel_rfl
theorem Tryd.ze87 : tyZero Tryd.prog 87 = some [.nilFunc] := by kernel_rfl
theorem Tryd.ar87 : tyArr Tryd.prog 87 = none := by kernel_rfl
theorem Tryd.sz88 : tySize Tryd.prog 88 = some 1 := by kernel_rfl
theorem Tryd.by88 : tyBytes Tryd.prog 88 = some 8 := by kernel_rfl
theorem Tryd.ag88 : tyAgg Tryd.prog 88 = some false := by kernel_rfl
theorem Tryd.ze88 : tyZero Tryd.prog 88 = some [.nilFunc] := by kernel_rfl
theorem Tryd.ar88 : tyArr Tryd.prog 88 = none := by kernel_rfl
theorem Tryd.sz89 : tySize Tryd.prog 89 = some 1 := by kernel_rfl
theorem Tryd.by89 : tyBytes Tryd.prog 89 = some 8 := by kernel_rfl
theorem Tryd.ag89 : tyAgg Tryd.prog 89 = some false := by kernel_rfl
theorem Tryd.ze89 : tyZero Tryd.prog 89 = some [.nilFunc] := by kernel_rfl
theorem Tryd.ar89 : tyArr Tryd.prog 89 = none := by kernel_rfl
theorem Tryd.sz90 : tySize Tryd.prog 90 = some 1 := by kernel_rfl
theorem Tryd.by90 : tyBytes Tryd.prog 90 = some 8 := by kernel_rfl
theorem Tryd.ag90 : tyAgg Tryd.prog 90 = some false := by kernel_rfl
theorem Tryd.ze90 : tyZero Tryd.prog 90 = some [.nilFunc] := by kernel_rfl
theorem Tryd.ar90 : tyArr Tryd.prog 90 = none := by kernel_rfl
theorem Tryd.sz91 : tySize Tryd.prog 91 = some 1 := by kernel_rfl
theorem Tryd.by91 : tyBytes Tryd.prog 91 = some 8 := by kernel_rfl
theorem Tryd.ag91 : tyAgg Tryd.prog 91 = some false := by kernel_rfl
theorem Tryd.ze91 : tyZero Tryd.prog 91 = some [.nilFunc] := by kernel_rfl
theorem Tryd.ar91 : tyArr Tryd.prog 91 = none := by kernel_rfl
theorem Tryd.sz92 : tySize Tryd.prog 92 = some 1 := by kernel_rfl
theorem Tryd.by92 : tyBytes Tryd.prog 92 = some 8 := by kernel_rfl
theorem Tryd.ag92 : tyAgg Tryd.prog 92 = some false := by kernel_rfl
theorem Tryd.ze92 : tyZero Tryd.prog 92 = some [.nilFunc] := by kernel_rfl
theorem Tryd.ar92 : tyArr Tryd.prog 92 = none := by kernel_rfl
theorem Tryd.sz93 : tySize Tryd.prog 93 = some 1 := by kernel_rfl
theorem Tryd.by93 : tyBytes Tryd.prog 93 = some 8 := by kernel_rfl
theorem Tryd.ag93 : tyAgg Tryd.prog 93 = some false := by kernel_rfl
theorem Tryd.ze93 : tyZero Tryd.prog 93 = some [.int .u64 0] := by kernel_rfl
theorem Tryd.ar93 : tyArr Tryd.prog 93 = none := by kernel_rfl
theorem Tryd.sz94 : tySize Tryd.prog 94 = some 1 := by kernel_rfl
theorem Tryd.by94 : tyBytes Tryd.prog 94 = some 8 := by kernel_rfl
theorem Tryd.ag94 : tyAgg Tryd.prog 94 = some false := by kernel_rfl
theorem Tryd.ze94 : tyZero Tryd.prog 94 = some [.nilFunc] := by kernel_rfl
theorem Tryd.ar94 : tyArr Tryd.prog 94 = none := by kernel_rfl
theorem Tryd.sz95 : tySize Tryd.prog 95 = some 1 := by kernel_rfl
theorem Tryd.by95 : tyBytes Tryd.prog 95 = some 8 := by kernel_rfl
theorem Tryd.ag95 : tyAgg Tryd.prog 95 = some false := by kernel_rfl
theorem Tryd.ze95 : tyZero Tryd.prog 95 = some [.nilFunc] := by kernel_rfl
theorem Tryd.ar95 : tyArr Tryd.prog 95 = none := by kernel_rfl
theorem Tryd.sz96 : tySize Tryd.prog 96 = some 1 := by kernel_rfl
theorem Tryd.by96 : tyBytes Tryd.prog 96 = some 8 := by kernel_rfl
theorem Tryd.ag96 : tyAgg Tryd.prog 96 = some false := by kernel_rfl
theorem Tryd.ze96 : tyZero Tryd.prog 96 = some [.nilFunc] := by kernel_rfl
theorem Tryd.ar96 : tyArr Tryd.prog 96 = none := by kernel_rfl
theorem Tryd.sz97 : tySize Tryd.prog 97 = some 32 := by kernel_rfl
theorem Tryd.by97 : tyBytes Tryd.prog 97 = some 32 := by kernel_rfl
theorem Tryd.ag97 : tyAgg Tryd.prog 97 = some true := by kernel_rfl
theorem Tryd.ze97 : tyZero Tryd.prog 97 = some [.int .u8 0, .int .u8 0, .int .u8 0, .int .u8 0, .int .u8 0, .int .u8 0, .int .u8 0, .int .u8 0, .int .u8 0, .int .u8 0, .int .u8 0, .int .u8 0, .int .u8 0, .int .u8 0, .int .u8 0, .int .u8 0, .int .u8 0, .int .u8 0, .int .u8 0, .int .u8 0, .int .u8 0, .int .u8 0, .int .u8 0, .int .u8 0, .int .u8 0, .int .u8 0, .int .u8 0, .int .u8 0, .int .u8 0, .int .u8 0, .int .u8 0, .int .u8 0] := by kernel_rfl
theorem Tryd.ar97 : tyArr Tryd.prog 97 = some (32, 1, [.int .u8 0]) := by kernel_rfl
theorem Tryd.sz98 : tySize Tryd.prog 98 = some 1 := by kernel_rfl
theorem Tryd.by98 : tyBytes Tryd.prog 98 = some 8 := by kernel_rfl
theorem Tryd.ag98 : tyAgg Tryd.prog 98 = some false := by kernel_rfl
theorem Tryd.ze98 : tyZero Tryd.prog 98 = some [.nilFunc] := by kernel_rfl
theorem Tryd.ar98 : tyArr Tryd.prog 98 = none := by kernel_rfl
theorem Tryd.sz99 : tySize Tryd.prog 99 = some 4 := by kernel_rfl
theorem Tryd.by99 : tyBytes Tryd.prog 99 = some 40 := by kernel_rfl
theorem Tryd.ag99 : tyAgg Tryd.prog 99 = some true := by kernel_rfl
theorem Tryd.ze99 : tyZero Tryd.prog 99 = some [.pointer none, .pointer none, .pointer none, .string ⟨#[]⟩] := by kernel_rfl
theorem Tryd.fd99f0 : tyField Tryd.prog 99 0 = some (0, 1, false) := by kernel_rfl
theorem Tryd.fd99f1 : tyField Tryd.prog 99 1 = some (1, 1, false) := by kernel_rfl
theorem Tryd.fd99f2 : tyField Tryd.prog 99 2 = some (2, 1, false) := by kernel_rfl
theorem Tryd.fd99f3 : tyField Tryd.prog 99 3 = some (3, 1, false) := by kernel_rfl
theorem Tryd.pl99 : tyPlaces Tryd.prog 99 = some [(0, 1), (1, 1), (2, 1), (3, 1)] := by kernel_rfl
theorem Tryd.ar99 : tyArr Tryd.prog 99 = none := by kernel_rfl
theorem Tryd.sz101 : tySize Tryd.prog 101 = some 0 := by kernel_rfl
theorem Tryd.by101 : tyBytes Tryd.prog 101 = some 0 := by kernel_rfl
theorem Tryd.ag101 : tyAgg Tryd.prog 101 = some true := by kernel_rfl
theorem Tryd.ze101 : tyZero Tryd.prog 101 = some [] := by kernel_rfl
theorem Tryd.pl101 : tyPlaces Tryd.prog 101 = some [] := by kernel_rfl
theorem Tryd.ar101 : tyArr Tryd.prog 101 = none := by kernel_rfl
theorem Tryd.sz102 : tySize Tryd.prog 102 = some 0 := by kernel_rfl
theorem Tryd.by102 : tyBytes Tryd.prog 102 = some 0 := by kernel_rfl
theorem Tryd.ag102 : tyAgg Tryd.prog 102 = some true := by kernel_rfl
theorem Tryd.ze102 : tyZero Tryd.prog 102 = some [] := by kernel_rfl
theorem Tryd.fd102f0 : tyField Tryd.prog 102 0 = some (0, 0, true) := by kernel_rfl
theorem Tryd.pl102 : tyPlaces Tryd.prog 102 = some [(0, 0)] := by kernel_rfl
theorem Tryd.ar102 : tyArr Tryd.prog 102 = none := by kernel_rfl
theorem Tryd.sz104 : tySize Tryd.prog 104 = some 1 := by kernel_rfl
theorem Tryd.by104 : tyBytes Tryd.prog 104 = some 8 := by kernel_rfl
theorem Tryd.ag104 : tyAgg Tryd.prog 104 = some false := by kernel_rfl
theorem Tryd.ze104 : tyZero Tryd.prog 104 = some [.nilFunc] := by kernel_rfl
theorem Tryd.ar104 : tyArr Tryd.prog 104 = none := by kernel_rfl
theorem Tryd.sz105 : tySize Tryd.prog 105 = some 1 := by kernel_rfl
theorem Tryd.by105 : tyBytes Tryd.prog 105 = some 1 := by kernel_rfl
theorem Tryd.ag105 : tyAgg Tryd.prog 105 = some false := by kernel_rfl
theorem Tryd.ze105 : tyZero Tryd.prog 105 = some [.int .u8 0] := by kernel_rfl
theorem Tryd.ar105 : tyArr Tryd.prog 105 = none := by kernel_rfl
theorem Tryd.sz106 : tySize Tryd.prog 106 = some 1 := by kernel_rfl
theorem Tryd.by106 : tyBytes Tryd.prog 106 = some 1 := by kernel_rfl
theorem Tryd.ag106 : tyAgg Tryd.prog 106 = some false := by kernel_rfl
theorem Tryd.ze106 : tyZero Tryd.prog 106 = some [.int .u8 0] := by kernel_rfl
theorem Tryd.ar106 : tyArr Tryd.prog 106 = none := by kernel_rfl
theorem Tryd.sz107 : tySize Tryd.prog 107 = some 1 := by kernel_rfl
theorem Tryd.by107 : tyBytes Tryd.prog 107 = some 8 := by kernel_rfl
theorem Tryd.ag107 : tyAgg Tryd.prog 107 = some false := by kernel_rfl
theorem Tryd.ze107 : tyZero Tryd.prog 107 = some [.nilFunc] := by kernel_rfl
theorem Tryd.ar107 : tyArr Tryd.prog 107 = none := by kernel_rfl
theorem Tryd.sz108 : tySize Tryd.prog 108 = some 1 := by kernel_rfl
theorem Tryd.by108 : tyBytes Tryd.prog 108 = some 8 := by kernel_rfl
theorem Tryd.ag108 : tyAgg Tryd.prog 108 = some false := by kernel_rfl
theorem Tryd.ze108 : tyZero Tryd.prog 108 = some [.pointer none] := by kernel_rfl
theorem Tryd.ar108 : tyArr Tryd.prog 108 = none := by kernel_rfl
theorem Tryd.sz109 : tySize Tryd.prog 109 = some 1 := by kernel_rfl
theorem Tryd.by109 : tyBytes Tryd.prog 109 = some 4 := by kernel_rfl
theorem Tryd.ag109 : tyAgg Tryd.prog 109 = some false := by kernel_rfl
theorem Tryd.ze109 : tyZero Tryd.prog 109 = some [.int .i32 0] := by kernel_rfl
theorem Tryd.ar109 : tyArr Tryd.prog 109 = none := by kernel_rfl
theorem Tryd.sz110 : tySize Tryd.prog 110 = some 1 := by kernel_rfl
theorem Tryd.by110 : tyBytes Tryd.prog 110 = some 4 := by kernel_rfl
theorem Tryd.ag110 : tyAgg Tryd.prog 110 = some false := by kernel_rfl
theorem Tryd.ze110 : tyZero Tryd.prog 110 = some [.int .i32 0] := by kernel_rfl
theorem Tryd.ar110 : tyArr Tryd.prog 110 = none := by kernel_rfl
theorem Tryd.sz111 : tySize Tryd.prog 111 = some 11 := by kernel_rfl
theorem Tryd.by111 : tyBytes Tryd.prog 111 = some 48 := by kernel_rfl
theorem Tryd.ag111 : tyAgg Tryd.prog 111 = some true := by kernel_rfl
theorem Tryd.ze111 : tyZero Tryd.prog 111 = some [.int .u64 0, .int .u64 0, .int .u32 0, .int .u8 0, .int .u8 0, .int .u8 0, .int .u8 0, .nilFunc, .pointer none, .int .i32 0, .int .i32 0] := by kernel_rfl
theorem Tryd.fd111f0 : tyField Tryd.prog 111 0 = some (0, 1, false) := by kernel_rfl
theorem Tryd.fd111f1 : tyField Tryd.prog 111 1 = some (1, 1, false) := by kernel_rfl
theorem Tryd.fd111f2 : tyField Tryd.prog 111 2 = some (2, 1, false) := by kernel_rfl
theorem Tryd.fd111f3 : tyField Tryd.prog 111 3 = some (3, 1, false) := by kernel_rfl
theorem Tryd.fd111f4 : tyField Tryd.prog 111 4 = some (4, 1, false) := by kernel_rfl
theorem Tryd.fd111f5 : tyField Tryd.prog 111 5 = some (5, 1, false) := by kernel_rfl
theorem Tryd.fd111f6 : tyField Tryd.prog 111 6 = some (6, 1, false) := by kernel_rfl
theorem Tryd.fd111f7 : tyField Tryd.prog 111 7 = some (7, 1, false) := by kernel_rfl
theorem Tryd.fd111f8 : tyField Tryd.prog 111 8 = some (8, 1, false) := by kernel_rfl
theorem Tryd.fd111f9 : tyField Tryd.prog 111 9 = some (9, 1, false) := by kernel_rfl
theorem Tryd.fd111f10 : tyField Tryd.prog 111 10 = some (10, 1, false) := by kernel_rfl
theorem Tryd.pl111 : tyPlaces Tryd.prog 111 = some [(0, 1), (1, 1), (2, 1), (3, 1), (4, 1), (5, 1), (6, 1), (7, 1), (8, 1), (9, 1), (10, 1)] := by kernel_rfl
theorem Tryd.ar111 : tyArr Tryd.prog 111 = none := by kernel_rfl
theorem Tryd.sz112 : tySize Tryd.prog 112 = some 11 := by kernel_rfl
theorem Tryd.by112 : tyBytes Tryd.prog 112 = some 48 := by kernel_rfl
theorem Tryd.ag112 : tyAgg Tryd.prog 112 = some true := by kernel_rfl
theorem Tryd.ze112 : tyZero Tryd.prog 112 = some [.int .u64 0, .int .u64 0, .int .u32 0, .int .u8 0, .int .u8 0, .int .u8 0, .int .u8 0, .nilFunc, .pointer none, .int .i32 0, .int .i32 0] := by kernel_rfl
theorem Tryd.fd112f0 : tyField Tryd.prog 112 0 = some (0, 1, false) := by kernel_rfl
theorem Tryd.fd112f1 : tyField Tryd.prog 112 1 = some (1, 1, false) := by kernel_rfl
theorem Tryd.fd112f2 : tyField Tryd.prog 112 2 = some (2, 1, false) := by kernel_rfl
theorem Tryd.fd112f3 : tyField Tryd.prog 112 3 = some (3, 1, false) := by kernel_rfl
theorem Tryd.fd112f4 : tyField Tryd.prog 112 4 = some (4, 1, false) := by kernel_rfl
theorem Tryd.fd112f5 : tyField Tryd.prog 112 5 = some (5, 1, false) := by kernel_rfl
theorem Tryd.fd112f6 : tyField Tryd.prog 112 6 = some (6, 1, false) := by kernel_rfl
theorem Tryd.fd112f7 : tyField Tryd.prog 112 7 = some (7, 1, false) := by kernel_rfl
theorem Tryd.fd112f8 : tyField Tryd.prog 112 8 = some (8, 1, false) := by kernel_rfl
theorem Tryd.fd112f9 : tyField Tryd.prog 112 9 = some (9, 1, false) := by kernel_rfl
theorem Tryd.fd112f10 : tyField Tryd.prog 112 10 = some (10, 1, false) := by kernel_rfl
theorem Tryd.pl112 : tyPlaces Tryd.prog 112 = some [(0, 1), (1, 1), (2, 1), (3, 1), (4, 1), (5, 1), (6, 1), (7, 1), (8, 1), (9, 1), (10, 1)] := by kernel_rfl
theorem Tryd.ar112 : tyArr Tryd.prog 112 = none := by kernel_rfl
theorem Tryd.sz113 : tySize Tryd.prog 113 = some 1 := by kernel_rfl
theorem Tryd.by113 : tyBytes Tryd.prog 113 = some 8 := by kernel_rfl
theorem Tryd.ag113 : tyAgg Tryd.prog 113 = some false := by kernel_rfl
theorem Tryd.ze113 : tyZero Tryd.prog 113 = some [.pointer none] := by kernel_rfl
theorem Tryd.ar113 : tyArr Tryd.prog 113 = none := by kernel_rfl
theorem Tryd.ok2 : FnOK Tryd.prog 2 := ⟨_, Tryd.func2, rfl, by kernel_rfl⟩
theorem Tryd.ok3 : FnOK Tryd.prog 3 := ⟨_, Tryd.func3, rfl, by kernel_rfl⟩
theorem Tryd.ok4 : FnOK Tryd.prog 4 := ⟨_, Tryd.func4, rfl, by kernel_rfl⟩
theorem Tryd.ok5 : FnOK Tryd.prog 5 := ⟨_, Tryd.func5, rfl, by kernel_rfl⟩
theorem Tryd.ok6 : FnOK Tryd.prog 6 := ⟨_, Tryd.func6, rfl, by kernel_rfl⟩
theorem Tryd.ok7 : FnOK Tryd.prog 7 := ⟨_, Tryd.func7, rfl, by kernel_rfl⟩
theorem Tryd.ok8 : FnOK Tryd.prog 8 := ⟨_, Tryd.func8, rfl, by kernel_rfl⟩
theorem Tryd.ok9 : FnOK Tryd.prog 9 := ⟨_, Tryd.func9, rfl, by kernel_rfl⟩
theorem Tryd.ok10 : FnOK Tryd.prog 10 := ⟨_, Tryd.func10, rfl, by kernel_rfl⟩
theorem Tryd.ok11 : FnOK Tryd.prog 11 := ⟨_, Tryd.func11, rfl, by kernel_rfl⟩
theorem Tryd.ok12 : FnOK Tryd.prog 12 := ⟨_, Tryd.func12, rfl, by kernel_rfl⟩
theorem Tryd.ok13 : FnOK Tryd.prog 13 := ⟨_, Tryd.func13, rfl, by kernel_rfl⟩
theorem Tryd.ok14 : FnOK Tryd.prog 14 := ⟨_, Tryd.func14, rfl, by kernel_rfl⟩
theorem Tryd.ok15 : FnOK Tryd.prog 15 := ⟨_, Tryd.func15, rfl, by kernel_rfl⟩
theorem Tryd.ok16 : FnOK Tryd.prog 16 := ⟨_, Tryd.func16, rfl, by kernel_rfl⟩
theorem Tryd.ok17 : FnOK Tryd.prog 17 := ⟨_, Tryd.func17, rfl, by kernel_rfl⟩
theorem Tryd.ok18 : FnOK Tryd.prog 18 := ⟨_, Tryd.func18, rfl, by kernel_rfl⟩
theorem Tryd.ok19 : FnOK Tryd.prog 19 := ⟨_, Tryd.func19, rfl, by kernel_rfl⟩
theorem Tryd.ok20 : FnOK Tryd.prog 20 := ⟨_, Tryd.func20, rfl, by kernel_rfl⟩
theorem Tryd.ok21 : FnOK Tryd.prog 21 := ⟨_, Tryd.func21, rfl, by kernel_rfl⟩
theorem Tryd.ok22 : FnOK Tryd.prog 22 := ⟨_, Tryd.func22, rfl, by kernel_rfl⟩
theorem Tryd.ok23 : FnOK Tryd.prog 23 := ⟨_, Tryd.func23, rfl, by kernel_rfl⟩
theorem Tryd.ok24 : FnOK Tryd.prog 24 := ⟨_, Tryd.func24, rfl, by kernel_rfl⟩
theorem Tryd.ok25 : FnOK Tryd.prog 25 := ⟨_, Tryd.func25, rfl, by kernel_rfl⟩
theorem Tryd.ok26 : FnOK Tryd.prog 26 := ⟨_, Tryd.func26, rfl, by kernel_rfl⟩
theorem Tryd.ok27 : FnOK Tryd.prog 27 := ⟨_, Tryd.func27, rfl, by kernel_rfl⟩
theorem Tryd.ok28 : FnOK Tryd.prog 28 := ⟨_, Tryd.func28, rfl, by kernel_rfl⟩
theorem Tryd.ok29 : FnOK Tryd.prog 29 := ⟨_, Tryd.func29, rfl, by kernel_rfl⟩
theorem Tryd.ok30 : FnOK Tryd.prog 30 := ⟨_, Tryd.func30, rfl, by kernel_rfl⟩
theorem Tryd.ok31 : FnOK Tryd.prog 31 := ⟨_, Tryd.func31, rfl, by kernel_rfl⟩
theorem Tryd.ok32 : FnOK Tryd.prog 32 := ⟨_, Tryd.func32, rfl, by kernel_rfl⟩
theorem Tryd.ok33 : FnOK Tryd.prog 33 := ⟨_, Tryd.func33, rfl, by kernel_rfl⟩
theorem Tryd.ok34 : FnOK Tryd.prog 34 := ⟨_, Tryd.func34, rfl, by kernel_rfl⟩
theorem Tryd.ok35 : FnOK Tryd.prog 35 := ⟨_, Tryd.func35, rfl, by kernel_rfl⟩
theorem Tryd.ok36 : FnOK Tryd.prog 36 := ⟨_, Tryd.func36, rfl, by kernel_rfl⟩
theorem Tryd.ok37 : FnOK Tryd.prog 37 := ⟨_, Tryd.func37, rfl, by kernel_rfl⟩
theorem Tryd.ok38 : FnOK Tryd.prog 38 := ⟨_, Tryd.func38, rfl, by kernel_rfl⟩
theorem Tryd.ok39 : FnOK Tryd.prog 39 := ⟨_, Tryd.func39, rfl, by kernel_rfl⟩
theorem Tryd.ok40 : FnOK Tryd.prog 40 := ⟨_, Tryd.func40, rfl, by kernel_rfl⟩
theorem Tryd.ok41 : FnOK Tryd.prog 41 := ⟨_, Tryd.func41, rfl, by kernel_rfl⟩
theorem Tryd.ok42 : FnOK Tryd.prog 42 := ⟨_, Tryd.func42, rfl, by kernel_rfl⟩
theorem Tryd.ok43 : FnOK Tryd.prog 43 := ⟨_, Tryd.func43, rfl, by kernel_rfl⟩
theorem Tryd.ok44 : FnOK Tryd.prog 44 := ⟨_, Tryd.func44, rfl, by kernel_rfl⟩
theorem Tryd.ok45 : FnOK Tryd.prog 45 := ⟨_, Tryd.func45, rfl, by kernel_rfl⟩
theorem Tryd.ok46 : FnOK Tryd.prog 46 := ⟨_, Tryd.func46, rfl, by kernel_rfl⟩
theorem Tryd.ok47 : FnOK Tryd.prog 47 := ⟨_, Tryd.func47, rfl, by kernel_rfl⟩
theorem Tryd.ok48 : FnOK Tryd.prog 48 := ⟨_, Tryd.func48, rfl, by kernel_rfl⟩
theorem Tryd.ok49 : FnOK Tryd.prog 49 := ⟨_, Tryd.func49, rfl, by kernel_rfl⟩
theorem Tryd.ok50 : FnOK Tryd.prog 50 := ⟨_, Tryd.func50, rfl, by kernel_rfl⟩
theorem Tryd.ok51 : FnOK Tryd.prog 51 := ⟨_, Tryd.func51, rfl, by kernel_rfl⟩
theorem Tryd.ok52 : FnOK Tryd.prog 52 := ⟨_, Tryd.func52, rfl, by kernel_rfl⟩
theorem Tryd.ok53 : FnOK Tryd.prog 53 := ⟨_, Tryd.func53, rfl, by kernel_rfl⟩
theorem Tryd.ok54 : FnOK Tryd.prog 54 := ⟨_, Tryd.func54, rfl, by kernel_rfl⟩
theorem Tryd.ok55 : FnOK Tryd.prog 55 := ⟨_, Tryd.func55, rfl, by kernel_rfl⟩
theorem Tryd.ok56 : FnOK Tryd.prog 56 := ⟨_, Tryd.func56, rfl, by kernel_rfl⟩
theorem Tryd.ok57 : FnOK Tryd.prog 57 := ⟨_, Tryd.func57, rfl, by kernel_rfl⟩
theorem Tryd.ok58 : FnOK Tryd.prog 58 := ⟨_, Tryd.func58, rfl, by kernel_rfl⟩
theorem Tryd.ok59 : FnOK Tryd.prog 59 := ⟨_, Tryd.func59, rfl, by kernel_rfl⟩
theorem Tryd.ok60 : FnOK Tryd.prog 60 := ⟨_, Tryd.func60, rfl, by kernel_rfl⟩
theorem Tryd.ok61 : FnOK Tryd.prog 61 := ⟨_, Tryd.func61, rfl, by kernel_rfl⟩
theorem Tryd.ok62 : FnOK Tryd.prog 62 := ⟨_, Tryd.func62, rfl, by kernel_rfl⟩
theorem Tryd.ok63 : FnOK Tryd.prog 63 := ⟨_, Tryd.func63, rfl, by kernel_rfl⟩
theorem Tryd.ok64 : FnOK Tryd.prog 64 := ⟨_, Tryd.func64, rfl, by kernel_rfl⟩
theorem Tryd.ok65 : FnOK Tryd.prog 65 := ⟨_, Tryd.func65, rfl, by kernel_rfl⟩
theorem Tryd.ok66 : FnOK Tryd.prog 66 := ⟨_, Tryd.func66, rfl, by kernel_rfl⟩
theorem Tryd.ok67 : FnOK Tryd.prog 67 := ⟨_, Tryd.func67, rfl, by kernel_rfl⟩
theorem Tryd.ok68 : FnOK Tryd.prog 68 := ⟨_, Tryd.func68, rfl, by kernel_rfl⟩
theorem Tryd.ok88 : FnOK Tryd.prog 88 := ⟨_, Tryd.func88, rfl, by kernel_rfl⟩
end Go.Proofs
