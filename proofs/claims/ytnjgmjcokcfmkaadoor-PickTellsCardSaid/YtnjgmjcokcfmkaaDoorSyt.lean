/- Closed facts on the program's types and functions, printed by a program of mine. No condition. -/
import Derived.Test.YtnjgmjcokcfmkaaDoorChecked
import Derived.Test.YtnjgmjcokcfmkaaDoorSyZ
namespace Go.Proofs
open Go Go.Sy
set_option maxRecDepth 100000
set_option linter.unusedSimpArgs false
set_option linter.unusedVariables false
theorem Tryd.mixed : Tryd.prog.follows .mixedOrders = true := Tryd.checked.mixed
theorem Tryd.sz0 : tySize Tryd.prog 0 = some 1 := by kernel_rfl
theorem Tryd.by0 : tyBytes Tryd.prog 0 = some 0 := by kernel_rfl
theorem Tryd.ag0 : tyAgg Tryd.prog 0 = some false := by kernel_rfl
theorem Tryd.ar0 : tyArr Tryd.prog 0 = none := by kernel_rfl
theorem Tryd.sz1 : tySize Tryd.prog 1 = some 1 := by kernel_rfl
theorem Tryd.by1 : tyBytes Tryd.prog 1 = some 8 := by kernel_rfl
theorem Tryd.ag1 : tyAgg Tryd.prog 1 = some false := by kernel_rfl
theorem Tryd.ze1 : tyZero Tryd.prog 1 = some [.nilFunc] := by kernel_rfl
theorem Tryd.ar1 : tyArr Tryd.prog 1 = none := by kernel_rfl
theorem Tryd.sz2 : tySize Tryd.prog 2 = some 1 := by kernel_rfl
theorem Tryd.by2 : tyBytes Tryd.prog 2 = some 8 := by kernel_rfl
theorem Tryd.ag2 : tyAgg Tryd.prog 2 = some false := by kernel_rfl
theorem Tryd.ze2 : tyZero Tryd.prog 2 = some [.int .i64 0] := by kernel_rfl
theorem Tryd.ar2 : tyArr Tryd.prog 2 = none := by kernel_rfl
theorem Tryd.sz3 : tySize Tryd.prog 3 = some 1 := by kernel_rfl
theorem Tryd.by3 : tyBytes Tryd.prog 3 = some 8 := by kernel_rfl
theorem Tryd.ag3 : tyAgg Tryd.prog 3 = some false := by kernel_rfl
theorem Tryd.ze3 : tyZero Tryd.prog 3 = some [.int .i64 0] := by kernel_rfl
theorem Tryd.ar3 : tyArr Tryd.prog 3 = none := by kernel_rfl
theorem Tryd.sz4 : tySize Tryd.prog 4 = some 1 := by kernel_rfl
theorem Tryd.by4 : tyBytes Tryd.prog 4 = some 1 := by kernel_rfl
theorem Tryd.ag4 : tyAgg Tryd.prog 4 = some false := by kernel_rfl
theorem Tryd.ze4 : tyZero Tryd.prog 4 = some [.bool false] := by kernel_rfl
theorem Tryd.ar4 : tyArr Tryd.prog 4 = none := by kernel_rfl
theorem Tryd.sz5 : tySize Tryd.prog 5 = some 1 := by kernel_rfl
theorem Tryd.by5 : tyBytes Tryd.prog 5 = some 1 := by kernel_rfl
theorem Tryd.ag5 : tyAgg Tryd.prog 5 = some false := by kernel_rfl
theorem Tryd.ze5 : tyZero Tryd.prog 5 = some [.int .u8 0] := by kernel_rfl
theorem Tryd.ar5 : tyArr Tryd.prog 5 = none := by kernel_rfl
theorem Tryd.sz6 : tySize Tryd.prog 6 = some 1 := by kernel_rfl
theorem Tryd.by6 : tyBytes Tryd.prog 6 = some 1 := by kernel_rfl
theorem Tryd.ag6 : tyAgg Tryd.prog 6 = some false := by kernel_rfl
theorem Tryd.ze6 : tyZero Tryd.prog 6 = some [.int .u8 0] := by kernel_rfl
theorem Tryd.ar6 : tyArr Tryd.prog 6 = none := by kernel_rfl
theorem Tryd.sz7 : tySize Tryd.prog 7 = some 4 := by kernel_rfl
theorem Tryd.by7 : tyBytes Tryd.prog 7 = some 24 := by kernel_rfl
theorem Tryd.ag7 : tyAgg Tryd.prog 7 = some true := by kernel_rfl
theorem Tryd.ze7 : tyZero Tryd.prog 7 = some [.int .i64 0, .int .i64 0, .bool false, .int .u8 0] := by kernel_rfl
theorem Tryd.fd7f0 : tyField Tryd.prog 7 0 = some (0, 1, false) := by kernel_rfl
theorem Tryd.fd7f1 : tyField Tryd.prog 7 1 = some (1, 1, false) := by kernel_rfl
theorem Tryd.fd7f2 : tyField Tryd.prog 7 2 = some (2, 1, false) := by kernel_rfl
theorem Tryd.fd7f3 : tyField Tryd.prog 7 3 = some (3, 1, false) := by kernel_rfl
theorem Tryd.pl7 : tyPlaces Tryd.prog 7 = some [(0, 1), (1, 1), (2, 1), (3, 1)] := by kernel_rfl
theorem Tryd.eq7 : tyEqA Tryd.prog 7 = some [true, true, false, true] := by kernel_rfl
theorem Tryd.ar7 : tyArr Tryd.prog 7 = none := by kernel_rfl
theorem Tryd.sz9 : tySize Tryd.prog 9 = some 1 := by kernel_rfl
theorem Tryd.by9 : tyBytes Tryd.prog 9 = some 16 := by kernel_rfl
theorem Tryd.ag9 : tyAgg Tryd.prog 9 = some false := by kernel_rfl
theorem Tryd.ze9 : tyZero Tryd.prog 9 = some [.string ⟨#[]⟩] := by kernel_rfl
theorem Tryd.ar9 : tyArr Tryd.prog 9 = none := by kernel_rfl
theorem Tryd.sz12 : tySize Tryd.prog 12 = some 1 := by kernel_rfl
theorem Tryd.by12 : tyBytes Tryd.prog 12 = some 8 := by kernel_rfl
theorem Tryd.ag12 : tyAgg Tryd.prog 12 = some false := by kernel_rfl
theorem Tryd.ze12 : tyZero Tryd.prog 12 = some [.int .u64 0] := by kernel_rfl
theorem Tryd.ar12 : tyArr Tryd.prog 12 = none := by kernel_rfl
theorem Tryd.sz13 : tySize Tryd.prog 13 = some 2 := by kernel_rfl
theorem Tryd.by13 : tyBytes Tryd.prog 13 = some 24 := by kernel_rfl
theorem Tryd.ag13 : tyAgg Tryd.prog 13 = some true := by kernel_rfl
theorem Tryd.ze13 : tyZero Tryd.prog 13 = some [.string ⟨#[]⟩, .int .u64 0] := by kernel_rfl
theorem Tryd.fd13f0 : tyField Tryd.prog 13 0 = some (0, 1, false) := by kernel_rfl
theorem Tryd.fd13f1 : tyField Tryd.prog 13 1 = some (1, 1, false) := by kernel_rfl
theorem Tryd.pl13 : tyPlaces Tryd.prog 13 = some [(0, 1), (1, 1)] := by kernel_rfl
theorem Tryd.ar13 : tyArr Tryd.prog 13 = none := by kernel_rfl
theorem Tryd.sz15 : tySize Tryd.prog 15 = some 1 := by kernel_rfl
theorem Tryd.by15 : tyBytes Tryd.prog 15 = some 8 := by kernel_rfl
theorem Tryd.ag15 : tyAgg Tryd.prog 15 = some false := by kernel_rfl
theorem Tryd.ze15 : tyZero Tryd.prog 15 = some [.pointer none] := by kernel_rfl
theorem Tryd.ar15 : tyArr Tryd.prog 15 = none := by kernel_rfl
theorem Tryd.sz16 : tySize Tryd.prog 16 = some 1 := by kernel_rfl
theorem Tryd.by16 : tyBytes Tryd.prog 16 = some 8 := by kernel_rfl
theorem Tryd.ag16 : tyAgg Tryd.prog 16 = some false := by kernel_rfl
theorem Tryd.ze16 : tyZero Tryd.prog 16 = some [.pointer none] := by kernel_rfl
theorem Tryd.ar16 : tyArr Tryd.prog 16 = none := by kernel_rfl
theorem Tryd.sz17 : tySize Tryd.prog 17 = some 1 := by kernel_rfl
theorem Tryd.by17 : tyBytes Tryd.prog 17 = some 8 := by kernel_rfl
theorem Tryd.ag17 : tyAgg Tryd.prog 17 = some false := by kernel_rfl
theorem Tryd.ze17 : tyZero Tryd.prog 17 = some [.pointer none] := by kernel_rfl
theorem Tryd.ar17 : tyArr Tryd.prog 17 = none := by kernel_rfl
theorem Tryd.sz18 : tySize Tryd.prog 18 = some 1 := by kernel_rfl
theorem Tryd.by18 : tyBytes Tryd.prog 18 = some 8 := by kernel_rfl
theorem Tryd.ag18 : tyAgg Tryd.prog 18 = some true := by kernel_rfl
theorem Tryd.ze18 : tyZero Tryd.prog 18 = some [.pointer none] := by kernel_rfl
theorem Tryd.fd18f0 : tyField Tryd.prog 18 0 = some (0, 1, false) := by kernel_rfl
theorem Tryd.pl18 : tyPlaces Tryd.prog 18 = some [(0, 1)] := by kernel_rfl
theorem Tryd.ar18 : tyArr Tryd.prog 18 = none := by kernel_rfl
theorem Tryd.sz20 : tySize Tryd.prog 20 = some 1 := by kernel_rfl
theorem Tryd.by20 : tyBytes Tryd.prog 20 = some 16 := by kernel_rfl
theorem Tryd.ag20 : tyAgg Tryd.prog 20 = some false := by kernel_rfl
theorem Tryd.ze20 : tyZero Tryd.prog 20 = some [.nilIface] := by kernel_rfl
theorem Tryd.ar20 : tyArr Tryd.prog 20 = none := by kernel_rfl
theorem Tryd.sz21 : tySize Tryd.prog 21 = some 1 := by kernel_rfl
theorem Tryd.by21 : tyBytes Tryd.prog 21 = some 4 := by kernel_rfl
theorem Tryd.ag21 : tyAgg Tryd.prog 21 = some false := by kernel_rfl
theorem Tryd.ze21 : tyZero Tryd.prog 21 = some [.int .i32 0] := by kernel_rfl
theorem Tryd.ar21 : tyArr Tryd.prog 21 = none := by kernel_rfl
theorem Tryd.sz22 : tySize Tryd.prog 22 = some 1 := by kernel_rfl
theorem Tryd.by22 : tyBytes Tryd.prog 22 = some 24 := by kernel_rfl
theorem Tryd.ag22 : tyAgg Tryd.prog 22 = some false := by kernel_rfl
theorem Tryd.ze22 : tyZero Tryd.prog 22 = some [.slice none 0 0] := by kernel_rfl
theorem Tryd.ar22 : tyArr Tryd.prog 22 = none := by kernel_rfl
theorem Tryd.sz23 : tySize Tryd.prog 23 = some 1 := by kernel_rfl
theorem Tryd.by23 : tyBytes Tryd.prog 23 = some 24 := by kernel_rfl
theorem Tryd.ag23 : tyAgg Tryd.prog 23 = some false := by kernel_rfl
theorem Tryd.ze23 : tyZero Tryd.prog 23 = some [.slice none 0 0] := by kernel_rfl
theorem Tryd.ar23 : tyArr Tryd.prog 23 = none := by kernel_rfl
theorem Tryd.sz24 : tySize Tryd.prog 24 = some 1 := by kernel_rfl
theorem Tryd.by24 : tyBytes Tryd.prog 24 = some 4 := by kernel_rfl
theorem Tryd.ag24 : tyAgg Tryd.prog 24 = some false := by kernel_rfl
theorem Tryd.ze24 : tyZero Tryd.prog 24 = some [.int .u32 0] := by kernel_rfl
theorem Tryd.ar24 : tyArr Tryd.prog 24 = none := by kernel_rfl
theorem Tryd.sz25 : tySize Tryd.prog 25 = some 1 := by kernel_rfl
theorem Tryd.by25 : tyBytes Tryd.prog 25 = some 4 := by kernel_rfl
theorem Tryd.ag25 : tyAgg Tryd.prog 25 = some false := by kernel_rfl
theorem Tryd.ze25 : tyZero Tryd.prog 25 = some [.int .u32 0] := by kernel_rfl
theorem Tryd.ar25 : tyArr Tryd.prog 25 = none := by kernel_rfl
theorem Tryd.sz26 : tySize Tryd.prog 26 = some 3 := by kernel_rfl
theorem Tryd.by26 : tyBytes Tryd.prog 26 = some 56 := by kernel_rfl
theorem Tryd.ag26 : tyAgg Tryd.prog 26 = some true := by kernel_rfl
theorem Tryd.ze26 : tyZero Tryd.prog 26 = some [.slice none 0 0, .slice none 0 0, .int .u32 0] := by kernel_rfl
theorem Tryd.fd26f0 : tyField Tryd.prog 26 0 = some (0, 1, false) := by kernel_rfl
theorem Tryd.fd26f1 : tyField Tryd.prog 26 1 = some (1, 1, false) := by kernel_rfl
theorem Tryd.fd26f2 : tyField Tryd.prog 26 2 = some (2, 1, false) := by kernel_rfl
theorem Tryd.pl26 : tyPlaces Tryd.prog 26 = some [(0, 1), (1, 1), (2, 1)] := by kernel_rfl
theorem Tryd.ar26 : tyArr Tryd.prog 26 = none := by kernel_rfl
theorem Tryd.sz27 : tySize Tryd.prog 27 = some 3 := by kernel_rfl
theorem Tryd.by27 : tyBytes Tryd.prog 27 = some 56 := by kernel_rfl
theorem Tryd.ag27 : tyAgg Tryd.prog 27 = some true := by kernel_rfl
theorem Tryd.ze27 : tyZero Tryd.prog 27 = some [.slice none 0 0, .slice none 0 0, .int .u32 0] := by kernel_rfl
theorem Tryd.fd27f0 : tyField Tryd.prog 27 0 = some (0, 1, false) := by kernel_rfl
theorem Tryd.fd27f1 : tyField Tryd.prog 27 1 = some (1, 1, false) := by kernel_rfl
theorem Tryd.fd27f2 : tyField Tryd.prog 27 2 = some (2, 1, false) := by kernel_rfl
theorem Tryd.pl27 : tyPlaces Tryd.prog 27 = some [(0, 1), (1, 1), (2, 1)] := by kernel_rfl
theorem Tryd.ar27 : tyArr Tryd.prog 27 = none := by kernel_rfl
theorem Tryd.sz28 : tySize Tryd.prog 28 = some 1 := by kernel_rfl
theorem Tryd.by28 : tyBytes Tryd.prog 28 = some 8 := by kernel_rfl
theorem Tryd.ag28 : tyAgg Tryd.prog 28 = some false := by kernel_rfl
theorem Tryd.ze28 : tyZero Tryd.prog 28 = some [.nilFunc] := by kernel_rfl
theorem Tryd.ar28 : tyArr Tryd.prog 28 = none := by kernel_rfl
theorem Tryd.sz29 : tySize Tryd.prog 29 = some 1 := by kernel_rfl
theorem Tryd.by29 : tyBytes Tryd.prog 29 = some 8 := by kernel_rfl
theorem Tryd.ag29 : tyAgg Tryd.prog 29 = some false := by kernel_rfl
theorem Tryd.ze29 : tyZero Tryd.prog 29 = some [.nilFunc] := by kernel_rfl
theorem Tryd.ar29 : tyArr Tryd.prog 29 = none := by kernel_rfl
theorem Tryd.sz30 : tySize Tryd.prog 30 = some 1 := by kernel_rfl
theorem Tryd.by30 : tyBytes Tryd.prog 30 = some 24 := by kernel_rfl
theorem Tryd.ag30 : tyAgg Tryd.prog 30 = some false := by kernel_rfl
theorem Tryd.ze30 : tyZero Tryd.prog 30 = some [.slice none 0 0] := by kernel_rfl
theorem Tryd.ar30 : tyArr Tryd.prog 30 = none := by kernel_rfl
theorem Tryd.sz31 : tySize Tryd.prog 31 = some 1 := by kernel_rfl
theorem Tryd.by31 : tyBytes Tryd.prog 31 = some 24 := by kernel_rfl
theorem Tryd.ag31 : tyAgg Tryd.prog 31 = some false := by kernel_rfl
theorem Tryd.ze31 : tyZero Tryd.prog 31 = some [.slice none 0 0] := by kernel_rfl
theorem Tryd.ar31 : tyArr Tryd.prog 31 = none := by kernel_rfl
theorem Tryd.sz32 : tySize Tryd.prog 32 = some 1 := by kernel_rfl
theorem Tryd.by32 : tyBytes Tryd.prog 32 = some 8 := by kernel_rfl
theorem Tryd.ag32 : tyAgg Tryd.prog 32 = some false := by kernel_rfl
theorem Tryd.ze32 : tyZero Tryd.prog 32 = some [.int .i64 0] := by kernel_rfl
theorem Tryd.ar32 : tyArr Tryd.prog 32 = none := by kernel_rfl
theorem Tryd.sz33 : tySize Tryd.prog 33 = some 1 := by kernel_rfl
theorem Tryd.by33 : tyBytes Tryd.prog 33 = some 0 := by kernel_rfl
theorem Tryd.ag33 : tyAgg Tryd.prog 33 = some false := by kernel_rfl
theorem Tryd.ar33 : tyArr Tryd.prog 33 = none := by kernel_rfl
theorem Tryd.sz34 : tySize Tryd.prog 34 = some 1 := by kernel_rfl
theorem Tryd.by34 : tyBytes Tryd.prog 34 = some 8 := by kernel_rfl
theorem Tryd.ag34 : tyAgg Tryd.prog 34 = some false := by kernel_rfl
theorem Tryd.ze34 : tyZero Tryd.prog 34 = some [.nilFunc] := by kernel_rfl
theorem Tryd.ar34 : tyArr Tryd.prog 34 = none := by kernel_rfl
theorem Tryd.sz35 : tySize Tryd.prog 35 = some 1 := by kernel_rfl
theorem Tryd.by35 : tyBytes Tryd.prog 35 = some 8 := by kernel_rfl
theorem Tryd.ag35 : tyAgg Tryd.prog 35 = some false := by kernel_rfl
theorem Tryd.ze35 : tyZero Tryd.prog 35 = some [.nilFunc] := by kernel_rfl
theorem Tryd.ar35 : tyArr Tryd.prog 35 = none := by kernel_rfl
theorem Tryd.sz36 : tySize Tryd.prog 36 = some 1 := by kernel_rfl
theorem Tryd.by36 : tyBytes Tryd.prog 36 = some 8 := by kernel_rfl
theorem Tryd.ag36 : tyAgg Tryd.prog 36 = some false := by kernel_rfl
theorem Tryd.ze36 : tyZero Tryd.prog 36 = some [.nilFunc] := by kernel_rfl
theorem Tryd.ar36 : tyArr Tryd.prog 36 = none := by kernel_rfl
theorem Tryd.sz37 : tySize Tryd.prog 37 = some 1 := by kernel_rfl
theorem Tryd.by37 : tyBytes Tryd.prog 37 = some 0 := by kernel_rfl
theorem Tryd.ag37 : tyAgg Tryd.prog 37 = some false := by kernel_rfl
theorem Tryd.ar37 : tyArr Tryd.prog 37 = none := by kernel_rfl
theorem Tryd.sz38 : tySize Tryd.prog 38 = some 1 := by kernel_rfl
theorem Tryd.by38 : tyBytes Tryd.prog 38 = some 8 := by kernel_rfl
theorem Tryd.ag38 : tyAgg Tryd.prog 38 = some false := by kernel_rfl
theorem Tryd.ze38 : tyZero Tryd.prog 38 = some [.nilFunc] := by kernel_rfl
theorem Tryd.ar38 : tyArr Tryd.prog 38 = none := by kernel_rfl
theorem Tryd.sz39 : tySize Tryd.prog 39 = some 1 := by kernel_rfl
theorem Tryd.by39 : tyBytes Tryd.prog 39 = some 8 := by kernel_rfl
theorem Tryd.ag39 : tyAgg Tryd.prog 39 = some false := by kernel_rfl
theorem Tryd.ze39 : tyZero Tryd.prog 39 = some [.nilFunc] := by kernel_rfl
theorem Tryd.ar39 : tyArr Tryd.prog 39 = none := by kernel_rfl
theorem Tryd.sz40 : tySize Tryd.prog 40 = some 1 := by kernel_rfl
theorem Tryd.by40 : tyBytes Tryd.prog 40 = some 8 := by kernel_rfl
theorem Tryd.ag40 : tyAgg Tryd.prog 40 = some false := by kernel_rfl
theorem Tryd.ze40 : tyZero Tryd.prog 40 = some [.nilFunc] := by kernel_rfl
theorem Tryd.ar40 : tyArr Tryd.prog 40 = none := by kernel_rfl
theorem Tryd.sz41 : tySize Tryd.prog 41 = some 1 := by kernel_rfl
theorem Tryd.by41 : tyBytes Tryd.prog 41 = some 8 := by kernel_rfl
theorem Tryd.ag41 : tyAgg Tryd.prog 41 = some false := by kernel_rfl
theorem Tryd.ze41 : tyZero Tryd.prog 41 = some [.nilFunc] := by kernel_rfl
theorem Tryd.ar41 : tyArr Tryd.prog 41 = none := by kernel_rfl
theorem Tryd.sz42 : tySize Tryd.prog 42 = some 2 := by kernel_rfl
theorem Tryd.by42 : tyBytes Tryd.prog 42 = some 8 := by kernel_rfl
theorem Tryd.ag42 : tyAgg Tryd.prog 42 = some true := by kernel_rfl
theorem Tryd.ze42 : tyZero Tryd.prog 42 = some [.int .u32 0, .int .u32 0] := by kernel_rfl
theorem Tryd.fd42f0 : tyField Tryd.prog 42 0 = some (0, 1, false) := by kernel_rfl
theorem Tryd.fd42f1 : tyField Tryd.prog 42 1 = some (1, 1, false) := by kernel_rfl
theorem Tryd.pl42 : tyPlaces Tryd.prog 42 = some [(0, 1), (1, 1)] := by kernel_rfl
theorem Tryd.eq42 : tyEqA Tryd.prog 42 = some [true, true] := by kernel_rfl
theorem Tryd.ar42 : tyArr Tryd.prog 42 = none := by kernel_rfl
theorem Tryd.sz43 : tySize Tryd.prog 43 = some 2 := by kernel_rfl
theorem Tryd.by43 : tyBytes Tryd.prog 43 = some 8 := by kernel_rfl
theorem Tryd.ag43 : tyAgg Tryd.prog 43 = some true := by kernel_rfl
theorem Tryd.ze43 : tyZero Tryd.prog 43 = some [.int .u32 0, .int .u32 0] := by kernel_rfl
theorem Tryd.fd43f0 : tyField Tryd.prog 43 0 = some (0, 1, false) := by kernel_rfl
theorem Tryd.fd43f1 : tyField Tryd.prog 43 1 = some (1, 1, false) := by kernel_rfl
theorem Tryd.pl43 : tyPlaces Tryd.prog 43 = some [(0, 1), (1, 1)] := by kernel_rfl
theorem Tryd.eq43 : tyEqA Tryd.prog 43 = some [true, true] := by kernel_rfl
theorem Tryd.ar43 : tyArr Tryd.prog 43 = none := by kernel_rfl
theorem Tryd.sz44 : tySize Tryd.prog 44 = some 4 := by kernel_rfl
theorem Tryd.by44 : tyBytes Tryd.prog 44 = some 24 := by kernel_rfl
theorem Tryd.ag44 : tyAgg Tryd.prog 44 = some true := by kernel_rfl
theorem Tryd.ze44 : tyZero Tryd.prog 44 = some [.int .i64 0, .int .i64 0, .int .u32 0, .int .u32 0] := by kernel_rfl
theorem Tryd.fd44f0 : tyField Tryd.prog 44 0 = some (0, 1, false) := by kernel_rfl
theorem Tryd.fd44f1 : tyField Tryd.prog 44 1 = some (1, 1, false) := by kernel_rfl
theorem Tryd.fd44f2 : tyField Tryd.prog 44 2 = some (2, 2, true) := by kernel_rfl
theorem Tryd.pl44 : tyPlaces Tryd.prog 44 = some [(0, 1), (1, 1), (2, 2)] := by kernel_rfl
theorem Tryd.eq44 : tyEqA Tryd.prog 44 = some [true, true, true, true] := by kernel_rfl
theorem Tryd.ar44 : tyArr Tryd.prog 44 = none := by kernel_rfl
theorem Tryd.sz45 : tySize Tryd.prog 45 = some 4 := by kernel_rfl
theorem Tryd.by45 : tyBytes Tryd.prog 45 = some 24 := by kernel_rfl
theorem Tryd.ag45 : tyAgg Tryd.prog 45 = some true := by kernel_rfl
theorem Tryd.ze45 : tyZero Tryd.prog 45 = some [.int .i64 0, .int .i64 0, .int .u32 0, .int .u32 0] := by kernel_rfl
theorem Tryd.fd45f0 : tyField Tryd.prog 45 0 = some (0, 1, false) := by kernel_rfl
theorem Tryd.fd45f1 : tyField Tryd.prog 45 1 = some (1, 1, false) := by kernel_rfl
theorem Tryd.fd45f2 : tyField Tryd.prog 45 2 = some (2, 2, true) := by kernel_rfl
theorem Tryd.pl45 : tyPlaces Tryd.prog 45 = some [(0, 1), (1, 1), (2, 2)] := by kernel_rfl
theorem Tryd.eq45 : tyEqA Tryd.prog 45 = some [true, true, true, true] := by kernel_rfl
theorem Tryd.ar45 : tyArr Tryd.prog 45 = none := by kernel_rfl
theorem Tryd.sz46 : tySize Tryd.prog 46 = some 1 := by kernel_rfl
theorem Tryd.by46 : tyBytes Tryd.prog 46 = some 8 := by kernel_rfl
theorem Tryd.ag46 : tyAgg Tryd.prog 46 = some false := by kernel_rfl
theorem Tryd.ze46 : tyZero Tryd.prog 46 = some [.nilFunc] := by kernel_rfl
theorem Tryd.ar46 : tyArr Tryd.prog 46 = none := by kernel_rfl
theorem Tryd.sz47 : tySize Tryd.prog 47 = some 1 := by kernel_rfl
theorem Tryd.by47 : tyBytes Tryd.prog 47 = some 8 := by kernel_rfl
theorem Tryd.ag47 : tyAgg Tryd.prog 47 = some false := by kernel_rfl
theorem Tryd.ze47 : tyZero Tryd.prog 47 = some [.nilFunc] := by kernel_rfl
theorem Tryd.ar47 : tyArr Tryd.prog 47 = none := by kernel_rfl
theorem Tryd.sz48 : tySize Tryd.prog 48 = some 1 := by kernel_rfl
theorem Tryd.by48 : tyBytes Tryd.prog 48 = some 8 := by kernel_rfl
theorem Tryd.ag48 : tyAgg Tryd.prog 48 = some false := by kernel_rfl
theorem Tryd.ze48 : tyZero Tryd.prog 48 = some [.nilFunc] := by kernel_rfl
theorem Tryd.ar48 : tyArr Tryd.prog 48 = none := by kernel_rfl
theorem Tryd.sz49 : tySize Tryd.prog 49 = some 1 := by kernel_rfl
theorem Tryd.by49 : tyBytes Tryd.prog 49 = some 8 := by kernel_rfl
theorem Tryd.ag49 : tyAgg Tryd.prog 49 = some false := by kernel_rfl
theorem Tryd.ze49 : tyZero Tryd.prog 49 = some [.nilFunc] := by kernel_rfl
theorem Tryd.ar49 : tyArr Tryd.prog 49 = none := by kernel_rfl
theorem Tryd.sz50 : tySize Tryd.prog 50 = some 1 := by kernel_rfl
theorem Tryd.by50 : tyBytes Tryd.prog 50 = some 8 := by kernel_rfl
theorem Tryd.ag50 : tyAgg Tryd.prog 50 = some false := by kernel_rfl
theorem Tryd.ze50 : tyZero Tryd.prog 50 = some [.int .u64 0] := by kernel_rfl
theorem Tryd.ar50 : tyArr Tryd.prog 50 = none := by kernel_rfl
theorem Tryd.sz51 : tySize Tryd.prog 51 = some 2 := by kernel_rfl
theorem Tryd.by51 : tyBytes Tryd.prog 51 = some 16 := by kernel_rfl
theorem Tryd.ag51 : tyAgg Tryd.prog 51 = some true := by kernel_rfl
theorem Tryd.ze51 : tyZero Tryd.prog 51 = some [.int .u64 0, .int .u64 0] := by kernel_rfl
theorem Tryd.fd51f0 : tyField Tryd.prog 51 0 = some (0, 1, false) := by kernel_rfl
theorem Tryd.fd51f1 : tyField Tryd.prog 51 1 = some (1, 1, false) := by kernel_rfl
theorem Tryd.pl51 : tyPlaces Tryd.prog 51 = some [(0, 1), (1, 1)] := by kernel_rfl
theorem Tryd.eq51 : tyEqA Tryd.prog 51 = some [true, true] := by kernel_rfl
theorem Tryd.ar51 : tyArr Tryd.prog 51 = none := by kernel_rfl
theorem Tryd.sz52 : tySize Tryd.prog 52 = some 2 := by kernel_rfl
theorem Tryd.by52 : tyBytes Tryd.prog 52 = some 16 := by kernel_rfl
theorem Tryd.ag52 : tyAgg Tryd.prog 52 = some true := by kernel_rfl
theorem Tryd.ze52 : tyZero Tryd.prog 52 = some [.int .u64 0, .int .u64 0] := by kernel_rfl
theorem Tryd.fd52f0 : tyField Tryd.prog 52 0 = some (0, 1, false) := by kernel_rfl
theorem Tryd.fd52f1 : tyField Tryd.prog 52 1 = some (1, 1, false) := by kernel_rfl
theorem Tryd.pl52 : tyPlaces Tryd.prog 52 = some [(0, 1), (1, 1)] := by kernel_rfl
theorem Tryd.eq52 : tyEqA Tryd.prog 52 = some [true, true] := by kernel_rfl
theorem Tryd.ar52 : tyArr Tryd.prog 52 = none := by kernel_rfl
theorem Tryd.sz53 : tySize Tryd.prog 53 = some 3 := by kernel_rfl
theorem Tryd.by53 : tyBytes Tryd.prog 53 = some 24 := by kernel_rfl
theorem Tryd.ag53 : tyAgg Tryd.prog 53 = some true := by kernel_rfl
theorem Tryd.ze53 : tyZero Tryd.prog 53 = some [.int .u64 0, .int .u64 0, .int .u64 0] := by kernel_rfl
theorem Tryd.fd53f0 : tyField Tryd.prog 53 0 = some (0, 2, true) := by kernel_rfl
theorem Tryd.fd53f1 : tyField Tryd.prog 53 1 = some (2, 1, false) := by kernel_rfl
theorem Tryd.pl53 : tyPlaces Tryd.prog 53 = some [(0, 2), (2, 1)] := by kernel_rfl
theorem Tryd.eq53 : tyEqA Tryd.prog 53 = some [true, true, true] := by kernel_rfl
theorem Tryd.ar53 : tyArr Tryd.prog 53 = none := by kernel_rfl
theorem Tryd.sz54 : tySize Tryd.prog 54 = some 3 := by kernel_rfl
theorem Tryd.by54 : tyBytes Tryd.prog 54 = some 24 := by kernel_rfl
theorem Tryd.ag54 : tyAgg Tryd.prog 54 = some true := by kernel_rfl
theorem Tryd.ze54 : tyZero Tryd.prog 54 = some [.int .u64 0, .int .u64 0, .int .u64 0] := by kernel_rfl
theorem Tryd.fd54f0 : tyField Tryd.prog 54 0 = some (0, 2, true) := by kernel_rfl
theorem Tryd.fd54f1 : tyField Tryd.prog 54 1 = some (2, 1, false) := by kernel_rfl
theorem Tryd.pl54 : tyPlaces Tryd.prog 54 = some [(0, 2), (2, 1)] := by kernel_rfl
theorem Tryd.eq54 : tyEqA Tryd.prog 54 = some [true, true, true] := by kernel_rfl
theorem Tryd.ar54 : tyArr Tryd.prog 54 = none := by kernel_rfl
theorem Tryd.sz55 : tySize Tryd.prog 55 = some 6 := by kernel_rfl
theorem Tryd.by55 : tyBytes Tryd.prog 55 = some 64 := by kernel_rfl
theorem Tryd.ag55 : tyAgg Tryd.prog 55 = some true := by kernel_rfl
theorem Tryd.ze55 : tyZero Tryd.prog 55 = some [.slice none 0 0, .int .u64 0, .int .u64 0, .int .u64 0, .int .u64 0, .bool false] := by kernel_rfl
theorem Tryd.fd55f0 : tyField Tryd.prog 55 0 = some (0, 1, false) := by kernel_rfl
theorem Tryd.fd55f1 : tyField Tryd.prog 55 1 = some (1, 3, true) := by kernel_rfl
theorem Tryd.fd55f2 : tyField Tryd.prog 55 2 = some (4, 1, false) := by kernel_rfl
theorem Tryd.fd55f3 : tyField Tryd.prog 55 3 = some (5, 1, false) := by kernel_rfl
theorem Tryd.pl55 : tyPlaces Tryd.prog 55 = some [(0, 1), (1, 3), (4, 1), (5, 1)] := by kernel_rfl
theorem Tryd.ar55 : tyArr Tryd.prog 55 = none := by kernel_rfl
theorem Tryd.sz56 : tySize Tryd.prog 56 = some 6 := by kernel_rfl
theorem Tryd.by56 : tyBytes Tryd.prog 56 = some 64 := by kernel_rfl
theorem Tryd.ag56 : tyAgg Tryd.prog 56 = some true := by kernel_rfl
theorem Tryd.ze56 : tyZero Tryd.prog 56 = some [.slice none 0 0, .int .u64 0, .int .u64 0, .int .u64 0, .int .u64 0, .bool false] := by kernel_rfl
theorem Tryd.fd56f0 : tyField Tryd.prog 56 0 = some (0, 1, false) := by kernel_rfl
theorem Tryd.fd56f1 : tyField Tryd.prog 56 1 = some (1, 3, true) := by kernel_rfl
theorem Tryd.fd56f2 : tyField Tryd.prog 56 2 = some (4, 1, false) := by kernel_rfl
theorem Tryd.fd56f3 : tyField Tryd.prog 56 3 = some (5, 1, false) := by kernel_rfl
theorem Tryd.pl56 : tyPlaces Tryd.prog 56 = some [(0, 1), (1, 3), (4, 1), (5, 1)] := by kernel_rfl
theorem Tryd.ar56 : tyArr Tryd.prog 56 = none := by kernel_rfl
theorem Tryd.sz57 : tySize Tryd.prog 57 = some 1 := by kernel_rfl
theorem Tryd.by57 : tyBytes Tryd.prog 57 = some 0 := by kernel_rfl
theorem Tryd.ag57 : tyAgg Tryd.prog 57 = some false := by kernel_rfl
theorem Tryd.ar57 : tyArr Tryd.prog 57 = none := by kernel_rfl
theorem Tryd.sz58 : tySize Tryd.prog 58 = some 1 := by kernel_rfl
theorem Tryd.by58 : tyBytes Tryd.prog 58 = some 8 := by kernel_rfl
theorem Tryd.ag58 : tyAgg Tryd.prog 58 = some false := by kernel_rfl
theorem Tryd.ze58 : tyZero Tryd.prog 58 = some [.nilFunc] := by kernel_rfl
theorem Tryd.ar58 : tyArr Tryd.prog 58 = none := by kernel_rfl
theorem Tryd.sz59 : tySize Tryd.prog 59 = some 1 := by kernel_rfl
theorem Tryd.by59 : tyBytes Tryd.prog 59 = some 8 := by kernel_rfl
theorem Tryd.ag59 : tyAgg Tryd.prog 59 = some false := by kernel_rfl
theorem Tryd.ze59 : tyZero Tryd.prog 59 = some [.nilFunc] := by kernel_rfl
theorem Tryd.ar59 : tyArr Tryd.prog 59 = none := by kernel_rfl
theorem Tryd.sz60 : tySize Tryd.prog 60 = some 1 := by kernel_rfl
theorem Tryd.by60 : tyBytes Tryd.prog 60 = some 8 := by kernel_rfl
theorem Tryd.ag60 : tyAgg Tryd.prog 60 = some false := by kernel_rfl
theorem Tryd.ze60 : tyZero Tryd.prog 60 = some [.nilFunc] := by kernel_rfl
theorem Tryd.ar60 : tyArr Tryd.prog 60 = none := by kernel_rfl
theorem Tryd.sz61 : tySize Tryd.prog 61 = some 1 := by kernel_rfl
theorem Tryd.by61 : tyBytes Tryd.prog 61 = some 8 := by kernel_rfl
theorem Tryd.ag61 : tyAgg Tryd.prog 61 = some false := by kernel_rfl
theorem Tryd.ze61 : tyZero Tryd.prog 61 = some [.nilFunc] := by kernel_rfl
theorem Tryd.ar61 : tyArr Tryd.prog 61 = none := by kernel_rfl
theorem Tryd.sz62 : tySize Tryd.prog 62 = some 1 := by kernel_rfl
theorem Tryd.by62 : tyBytes Tryd.prog 62 = some 8 := by kernel_rfl
theorem Tryd.ag62 : tyAgg Tryd.prog 62 = some false := by kernel_rfl
theorem Tryd.ze62 : tyZero Tryd.prog 62 = some [.nilFunc] := by kernel_rfl
theorem Tryd.ar62 : tyArr Tryd.prog 62 = none := by kernel_rfl
theorem Tryd.sz63 : tySize Tryd.prog 63 = some 1 := by kernel_rfl
theorem Tryd.by63 : tyBytes Tryd.prog 63 = some 0 := by kernel_rfl
theorem Tryd.ag63 : tyAgg Tryd.prog 63 = some false := by kernel_rfl
theorem Tryd.ar63 : tyArr Tryd.prog 63 = none := by kernel_rfl
theorem Tryd.sz64 : tySize Tryd.prog 64 = some 1 := by kernel_rfl
theorem Tryd.by64 : tyBytes Tryd.prog 64 = some 8 := by kernel_rfl
theorem Tryd.ag64 : tyAgg Tryd.prog 64 = some false := by kernel_rfl
theorem Tryd.ze64 : tyZero Tryd.prog 64 = some [.nilFunc] := by kernel_rfl
theorem Tryd.ar64 : tyArr Tryd.prog 64 = none := by kernel_rfl
theorem Tryd.sz65 : tySize Tryd.prog 65 = some 1 := by kernel_rfl
theorem Tryd.by65 : tyBytes Tryd.prog 65 = some 0 := by kernel_rfl
theorem Tryd.ag65 : tyAgg Tryd.prog 65 = some false := by kernel_rfl
theorem Tryd.ar65 : tyArr Tryd.prog 65 = none := by kernel_rfl
theorem Tryd.sz66 : tySize Tryd.prog 66 = some 1 := by kernel_rfl
theorem Tryd.by66 : tyBytes Tryd.prog 66 = some 8 := by kernel_rfl
theorem Tryd.ag66 : tyAgg Tryd.prog 66 = some false := by kernel_rfl
theorem Tryd.ze66 : tyZero Tryd.prog 66 = some [.nilFunc] := by kernel_rfl
theorem Tryd.ar66 : tyArr Tryd.prog 66 = none := by kernel_rfl
theorem Tryd.sz67 : tySize Tryd.prog 67 = some 2 := by kernel_rfl
theorem Tryd.by67 : tyBytes Tryd.prog 67 = some 16 := by kernel_rfl
theorem Tryd.ag67 : tyAgg Tryd.prog 67 = some true := by kernel_rfl
theorem Tryd.ze67 : tyZero Tryd.prog 67 = some [.int .i64 0, .int .i64 0] := by kernel_rfl
theorem Tryd.fd67f0 : tyField Tryd.prog 67 0 = some (0, 1, false) := by kernel_rfl
theorem Tryd.fd67f1 : tyField Tryd.prog 67 1 = some (1, 1, false) := by kernel_rfl
theorem Tryd.pl67 : tyPlaces Tryd.prog 67 = some [(0, 1), (1, 1)] := by kernel_rfl
theorem Tryd.eq67 : tyEqA Tryd.prog 67 = some [true, true] := by kernel_rfl
theorem Tryd.ar67 : tyArr Tryd.prog 67 = none := by kernel_rfl
theorem Tryd.sz68 : tySize Tryd.prog 68 = some 2 := by kernel_rfl
theorem Tryd.by68 : tyBytes Tryd.prog 68 = some 16 := by kernel_rfl
theorem Tryd.ag68 : tyAgg Tryd.prog 68 = some true := by kernel_rfl
theorem Tryd.ze68 : tyZero Tryd.prog 68 = some [.int .i64 0, .int .i64 0] := by kernel_rfl
theorem Tryd.fd68f0 : tyField Tryd.prog 68 0 = some (0, 1, false) := by kernel_rfl
theorem Tryd.fd68f1 : tyField Tryd.prog 68 1 = some (1, 1, false) := by kernel_rfl
theorem Tryd.pl68 : tyPlaces Tryd.prog 68 = some [(0, 1), (1, 1)] := by kernel_rfl
theorem Tryd.eq68 : tyEqA Tryd.prog 68 = some [true, true] := by kernel_rfl
theorem Tryd.ar68 : tyArr Tryd.prog 68 = none := by kernel_rfl
theorem Tryd.sz69 : tySize Tryd.prog 69 = some 1 := by kernel_rfl
theorem Tryd.by69 : tyBytes Tryd.prog 69 = some 8 := by kernel_rfl
theorem Tryd.ag69 : tyAgg Tryd.prog 69 = some false := by kernel_rfl
theorem Tryd.ze69 : tyZero Tryd.prog 69 = some [.nilFunc] := by kernel_rfl
theorem Tryd.ar69 : tyArr Tryd.prog 69 = none := by kernel_rfl
theorem Tryd.sz70 : tySize Tryd.prog 70 = some 1 := by kernel_rfl
theorem Tryd.by70 : tyBytes Tryd.prog 70 = some 8 := by kernel_rfl
theorem Tryd.ag70 : tyAgg Tryd.prog 70 = some false := by kernel_rfl
theorem Tryd.ze70 : tyZero Tryd.prog 70 = some [.nilFunc] := by kernel_rfl
theorem Tryd.ar70 : tyArr Tryd.prog 70 = none := by kernel_rfl
theorem Tryd.sz71 : tySize Tryd.prog 71 = some 1 := by kernel_rfl
theorem Tryd.by71 : tyBytes Tryd.prog 71 = some 8 := by kernel_rfl
theorem Tryd.ag71 : tyAgg Tryd.prog 71 = some false := by kernel_rfl
theorem Tryd.ze71 : tyZero Tryd.prog 71 = some [.nilFunc] := by kernel_rfl
theorem Tryd.ar71 : tyArr Tryd.prog 71 = none := by kernel_rfl
theorem Tryd.sz72 : tySize Tryd.prog 72 = some 1 := by kernel_rfl
theorem Tryd.by72 : tyBytes Tryd.prog 72 = some 0 := by kernel_rfl
theorem Tryd.ag72 : tyAgg Tryd.prog 72 = some false := by kernel_rfl
theorem Tryd.ar72 : tyArr Tryd.prog 72 = none := by kernel_rfl
theorem Tryd.sz73 : tySize Tryd.prog 73 = some 1 := by kernel_rfl
theorem Tryd.by73 : tyBytes Tryd.prog 73 = some 8 := by kernel_rfl
theorem Tryd.ag73 : tyAgg Tryd.prog 73 = some false := by kernel_rfl
theorem Tryd.ze73 : tyZero Tryd.prog 73 = some [.nilFunc] := by kernel_rfl
theorem Tryd.ar73 : tyArr Tryd.prog 73 = none := by kernel_rfl
theorem Tryd.sz74 : tySize Tryd.prog 74 = some 1 := by kernel_rfl
theorem Tryd.by74 : tyBytes Tryd.prog 74 = some 8 := by kernel_rfl
theorem Tryd.ag74 : tyAgg Tryd.prog 74 = some false := by kernel_rfl
theorem Tryd.ze74 : tyZero Tryd.prog 74 = some [.nilFunc] := by kernel_rfl
theorem Tryd.ar74 : tyArr Tryd.prog 74 = none := by kernel_rfl
theorem Tryd.sz75 : tySize Tryd.prog 75 = some 1 := by kernel_rfl
theorem Tryd.by75 : tyBytes Tryd.prog 75 = some 8 := by kernel_rfl
theorem Tryd.ag75 : tyAgg Tryd.prog 75 = some false := by kernel_rfl
theorem Tryd.ze75 : tyZero Tryd.prog 75 = some [.nilFunc] := by kernel_rfl
theorem Tryd.ar75 : tyArr Tryd.prog 75 = none := by kernel_rfl
theorem Tryd.sz76 : tySize Tryd.prog 76 = some 1 := by kernel_rfl
theorem Tryd.by76 : tyBytes Tryd.prog 76 = some 8 := by kernel_rfl
theorem Tryd.ag76 : tyAgg Tryd.prog 76 = some false := by kernel_rfl
theorem Tryd.ze76 : tyZero Tryd.prog 76 = some [.nilFunc] := by kernel_rfl
theorem Tryd.ar76 : tyArr Tryd.prog 76 = none := by kernel_rfl
theorem Tryd.sz77 : tySize Tryd.prog 77 = some 1 := by kernel_rfl
theorem Tryd.by77 : tyBytes Tryd.prog 77 = some 8 := by kernel_rfl
theorem Tryd.ag77 : tyAgg Tryd.prog 77 = some false := by kernel_rfl
theorem Tryd.ze77 : tyZero Tryd.prog 77 = some [.nilFunc] := by kernel_rfl
theorem Tryd.ar77 : tyArr Tryd.prog 77 = none := by kernel_rfl
theorem Tryd.sz78 : tySize Tryd.prog 78 = some 1 := by kernel_rfl
theorem Tryd.by78 : tyBytes Tryd.prog 78 = some 8 := by kernel_rfl
theorem Tryd.ag78 : tyAgg Tryd.prog 78 = some false := by kernel_rfl
theorem Tryd.ze78 : tyZero Tryd.prog 78 = some [.nilFunc] := by kernel_rfl
theorem Tryd.ar78 : tyArr Tryd.prog 78 = none := by kernel_rfl
theorem Tryd.sz79 : tySize Tryd.prog 79 = some 1 := by kernel_rfl
theorem Tryd.by79 : tyBytes Tryd.prog 79 = some 8 := by kernel_rfl
theorem Tryd.ag79 : tyAgg Tryd.prog 79 = some false := by kernel_rfl
theorem Tryd.ze79 : tyZero Tryd.prog 79 = some [.nilFunc] := by kernel_rfl
theorem Tryd.ar79 : tyArr Tryd.prog 79 = none := by kernel_rfl
theorem Tryd.sz80 : tySize Tryd.prog 80 = some 17 := by kernel_rfl
theorem Tryd.by80 : tyBytes Tryd.prog 80 = some 17 := by kernel_rfl
theorem Tryd.ag80 : tyAgg Tryd.prog 80 = some true := by kernel_rfl
theorem Tryd.ze80 : tyZero Tryd.prog 80 = some [.bool false, .bool false, .bool false, .bool false, .bool false, .bool false, .bool false, .bool false, .bool false, .bool false, .bool false, .bool false, .bool false, .bool false, .bool false, .bool false, .bool false] := by kernel_rfl
theorem Tryd.ea80 : tyEqArr Tryd.prog 80 = some 17 := by kernel_rfl
theorem Tryd.ar80 : tyArr Tryd.prog 80 = some (17, 1, [.bool false]) := by kernel_rfl
theorem Tryd.sz81 : tySize Tryd.prog 81 = some 1 := by kernel_rfl
theorem Tryd.by81 : tyBytes Tryd.prog 81 = some 8 := by kernel_rfl
theorem Tryd.ag81 : tyAgg Tryd.prog 81 = some false := by kernel_rfl
theorem Tryd.ze81 : tyZero Tryd.prog 81 = some [.nilFunc] := by kernel_rfl
theorem Tryd.ar81 : tyArr Tryd.prog 81 = none := by kernel_rfl
theorem Tryd.sz82 : tySize Tryd.prog 82 = some 1 := by kernel_rfl
theorem Tryd.by82 : tyBytes Tryd.prog 82 = some 8 := by kernel_rfl
theorem Tryd.ag82 : tyAgg Tryd.prog 82 = some false := by kernel_rfl
theorem Tryd.ze82 : tyZero Tryd.prog 82 = some [.nilFunc] := by kernel_rfl
theorem Tryd.ar82 : tyArr Tryd.prog 82 = none := by kernel_rfl
theorem Tryd.sz83 : tySize Tryd.prog 83 = some 1 := by kernel_rfl
theorem Tryd.by83 : tyBytes Tryd.prog 83 = some 8 := by kernel_rfl
theorem Tryd.ag83 : tyAgg Tryd.prog 83 = some false := by kernel_rfl
theorem Tryd.ze83 : tyZero Tryd.prog 83 = some [.nilFunc] := by kernel_rfl
theorem Tryd.ar83 : tyArr Tryd.prog 83 = none := by kernel_rfl
theorem Tryd.sz84 : tySize Tryd.prog 84 = some 1 := by kernel_rfl
theorem Tryd.by84 : tyBytes Tryd.prog 84 = some 0 := by kernel_rfl
theorem Tryd.ag84 : tyAgg Tryd.prog 84 = some false := by kernel_rfl
theorem Tryd.ar84 : tyArr Tryd.prog 84 = none := by kernel_rfl
theorem Tryd.sz85 : tySize Tryd.prog 85 = some 1 := by kernel_rfl
theorem Tryd.by85 : tyBytes Tryd.prog 85 = some 8 := by kernel_rfl
theorem Tryd.ag85 : tyAgg Tryd.prog 85 = some false := by kernel_rfl
theorem Tryd.ze85 : tyZero Tryd.prog 85 = some [.nilFunc] := by kernel_rfl
theorem Tryd.ar85 : tyArr Tryd.prog 85 = none := by kernel_rfl
theorem Tryd.sz86 : tySize Tryd.prog 86 = some 1 := by kernel_rfl
theorem Tryd.by86 : tyBytes Tryd.prog 86 = some 8 := by kernel_rfl
theorem Tryd.ag86 : tyAgg Tryd.prog 86 = some false := by kernel_rfl
theorem Tryd.ze86 : tyZero Tryd.prog 86 = some [.nilFunc] := by kernel_rfl
theorem Tryd.ar86 : tyArr Tryd.prog 86 = none := by kernel_rfl
theorem Tryd.sz87 : tySize Tryd.prog 87 = some 1 := by kernel_rfl
theorem Tryd.by87 : tyBytes Tryd.prog 87 = some 8 := by kernel_rfl
theorem Tryd.ag87 : tyAgg Tryd.prog 87 = some false := by kernel_rfl
theorem Tryd.ze87 : tyZero Tryd.prog 87 = some [.nilFunc] := by kernel_rfl
theorem Tryd.ar87 : tyArr Tryd.prog 87 = none := by kernel_rfl
theorem Tryd.sz88 : tySize Tryd.prog 88 = some 1 := by kernel_rfl
theorem Tryd.by88 : tyBytes Tryd.prog 88 = some 0 := by kernel_rfl
theorem Tryd.ag88 : tyAgg Tryd.prog 88 = some false := by kernel_rfl
theorem Tryd.ar88 : tyArr Tryd.prog 88 = none := by kernel_rfl
theorem Tryd.sz89 : tySize Tryd.prog 89 = some 1 := by kernel_rfl
theorem Tryd.by89 : tyBytes Tryd.prog 89 = some 8 := by kernel_rfl
theorem Tryd.ag89 : tyAgg Tryd.prog 89 = some false := by kernel_rfl
theorem Tryd.ze89 : tyZero Tryd.prog 89 = some [.nilFunc] := by kernel_rfl
theorem Tryd.ar89 : tyArr Tryd.prog 89 = none := by kernel_rfl
theorem Tryd.sz90 : tySize Tryd.prog 90 = some 1 := by kernel_rfl
theorem Tryd.by90 : tyBytes Tryd.prog 90 = some 8 := by kernel_rfl
theorem Tryd.ag90 : tyAgg Tryd.prog 90 = some false := by kernel_rfl
theorem Tryd.ze90 : tyZero Tryd.prog 90 = some [.nilFunc] := by kernel_rfl
theorem Tryd.ar90 : tyArr Tryd.prog 90 = none := by kernel_rfl
theorem Tryd.sz91 : tySize Tryd.prog 91 = some 1 := by kernel_rfl
theorem Tryd.by91 : tyBytes Tryd.prog 91 = some 8 := by kernel_rfl
theorem Tryd.ag91 : tyAgg Tryd.prog 91 = some false := by kernel_rfl
theorem Tryd.ze91 : tyZero Tryd.prog 91 = some [.map none] := by kernel_rfl
theorem Tryd.mp91 : tyMap Tryd.prog 91 = some (false, [.i64], .v (.bool false)) := by kernel_rfl
theorem Tryd.ar91 : tyArr Tryd.prog 91 = none := by kernel_rfl
theorem Tryd.sz92 : tySize Tryd.prog 92 = some 1 := by kernel_rfl
theorem Tryd.by92 : tyBytes Tryd.prog 92 = some 8 := by kernel_rfl
theorem Tryd.ag92 : tyAgg Tryd.prog 92 = some false := by kernel_rfl
theorem Tryd.ze92 : tyZero Tryd.prog 92 = some [.nilFunc] := by kernel_rfl
theorem Tryd.ar92 : tyArr Tryd.prog 92 = none := by kernel_rfl
theorem Tryd.sz93 : tySize Tryd.prog 93 = some 1 := by kernel_rfl
theorem Tryd.by93 : tyBytes Tryd.prog 93 = some 8 := by kernel_rfl
theorem Tryd.ag93 : tyAgg Tryd.prog 93 = some false := by kernel_rfl
theorem Tryd.ze93 : tyZero Tryd.prog 93 = some [.nilFunc] := by kernel_rfl
theorem Tryd.ar93 : tyArr Tryd.prog 93 = none := by kernel_rfl
theorem Tryd.sz94 : tySize Tryd.prog 94 = some 1 := by kernel_rfl
theorem Tryd.by94 : tyBytes Tryd.prog 94 = some 8 := by kernel_rfl
theorem Tryd.ag94 : tyAgg Tryd.prog 94 = some false := by kernel_rfl
theorem Tryd.ze94 : tyZero Tryd.prog 94 = some [.nilFunc] := by kernel_rfl
theorem Tryd.ar94 : tyArr Tryd.prog 94 = none := by kernel_rfl
theorem Tryd.sz95 : tySize Tryd.prog 95 = some 1 := by kernel_rfl
theorem Tryd.by95 : tyBytes Tryd.prog 95 = some 8 := by kernel_rfl
theorem Tryd.ag95 : tyAgg Tryd.prog 95 = some false := by kernel_rfl
theorem Tryd.ze95 : tyZero Tryd.prog 95 = some [.nilFunc] := by kernel_rfl
theorem Tryd.ar95 : tyArr Tryd.prog 95 = none := by kernel_rfl
theorem Tryd.sz96 : tySize Tryd.prog 96 = some 1 := by kernel_rfl
theorem Tryd.by96 : tyBytes Tryd.prog 96 = some 8 := by kernel_rfl
theorem Tryd.ag96 : tyAgg Tryd.prog 96 = some false := by kernel_rfl
theorem Tryd.ze96 : tyZero Tryd.prog 96 = some [.nilFunc] := by kernel_rfl
theorem Tryd.ar96 : tyArr Tryd.prog 96 = none := by kernel_rfl
theorem Tryd.sz97 : tySize Tryd.prog 97 = some 1 := by kernel_rfl
theorem Tryd.by97 : tyBytes Tryd.prog 97 = some 8 := by kernel_rfl
theorem Tryd.ag97 : tyAgg Tryd.prog 97 = some false := by kernel_rfl
theorem Tryd.ze97 : tyZero Tryd.prog 97 = some [.nilFunc] := by kernel_rfl
theorem Tryd.ar97 : tyArr Tryd.prog 97 = none := by kernel_rfl
theorem Tryd.sz98 : tySize Tryd.prog 98 = some 1 := by kernel_rfl
theorem Tryd.by98 : tyBytes Tryd.prog 98 = some 8 := by kernel_rfl
theorem Tryd.ag98 : tyAgg Tryd.prog 98 = some false := by kernel_rfl
theorem Tryd.ze98 : tyZero Tryd.prog 98 = some [.nilFunc] := by kernel_rfl
theorem Tryd.ar98 : tyArr Tryd.prog 98 = none := by kernel_rfl
theorem Tryd.sz99 : tySize Tryd.prog 99 = some 1 := by kernel_rfl
theorem Tryd.by99 : tyBytes Tryd.prog 99 = some 8 := by kernel_rfl
theorem Tryd.ag99 : tyAgg Tryd.prog 99 = some false := by kernel_rfl
theorem Tryd.ze99 : tyZero Tryd.prog 99 = some [.nilFunc] := by kernel_rfl
theorem Tryd.ar99 : tyArr Tryd.prog 99 = none := by kernel_rfl
theorem Tryd.sz100 : tySize Tryd.prog 100 = some 1 := by kernel_rfl
theorem Tryd.by100 : tyBytes Tryd.prog 100 = some 8 := by kernel_rfl
theorem Tryd.ag100 : tyAgg Tryd.prog 100 = some false := by kernel_rfl
theorem Tryd.ze100 : tyZero Tryd.prog 100 = some [.nilFunc] := by kernel_rfl
theorem Tryd.ar100 : tyArr Tryd.prog 100 = none := by kernel_rfl
theorem Tryd.sz101 : tySize Tryd.prog 101 = some 1 := by kernel_rfl
theorem Tryd.by101 : tyBytes Tryd.prog 101 = some 8 := by kernel_rfl
theorem Tryd.ag101 : tyAgg Tryd.prog 101 = some false := by kernel_rfl
theorem Tryd.ze101 : tyZero Tryd.prog 101 = some [.nilFunc] := by kernel_rfl
theorem Tryd.ar101 : tyArr Tryd.prog 101 = none := by kernel_rfl
theorem Tryd.sz102 : tySize Tryd.prog 102 = some 1 := by kernel_rfl
theorem Tryd.by102 : tyBytes Tryd.prog 102 = some 8 := by kernel_rfl
theorem Tryd.ag102 : tyAgg Tryd.prog 102 = some false := by kernel_rfl
theorem Tryd.ze102 : tyZero Tryd.prog 102 = some [.nilFunc] := by kernel_rfl
theorem Tryd.ar102 : tyArr Tryd.prog 102 = none := by kernel_rfl
theorem Tryd.sz103 : tySize Tryd.prog 103 = some 1 := by kernel_rfl
theorem Tryd.by103 : tyBytes Tryd.prog 103 = some 8 := by kernel_rfl
theorem Tryd.ag103 : tyAgg Tryd.prog 103 = some false := by kernel_rfl
theorem Tryd.ze103 : tyZero Tryd.prog 103 = some [.nilFunc] := by kernel_rfl
theorem Tryd.ar103 : tyArr Tryd.prog 103 = none := by kernel_rfl
theorem Tryd.sz104 : tySize Tryd.prog 104 = some 1 := by kernel_rfl
theorem Tryd.by104 : tyBytes Tryd.prog 104 = some 8 := by kernel_rfl
theorem Tryd.ag104 : tyAgg Tryd.prog 104 = some false := by kernel_rfl
theorem Tryd.ze104 : tyZero Tryd.prog 104 = some [.nilFunc] := by kernel_rfl
theorem Tryd.ar104 : tyArr Tryd.prog 104 = none := by kernel_rfl
theorem Tryd.sz105 : tySize Tryd.prog 105 = some 1 := by kernel_rfl
theorem Tryd.by105 : tyBytes Tryd.prog 105 = some 8 := by kernel_rfl
theorem Tryd.ag105 : tyAgg Tryd.prog 105 = some false := by kernel_rfl
theorem Tryd.ze105 : tyZero Tryd.prog 105 = some [.nilFunc] := by kernel_rfl
theorem Tryd.ar105 : tyArr Tryd.prog 105 = none := by kernel_rfl
theorem Tryd.sz106 : tySize Tryd.prog 106 = some 1 := by kernel_rfl
theorem Tryd.by106 : tyBytes Tryd.prog 106 = some 8 := by kernel_rfl
theorem Tryd.ag106 : tyAgg Tryd.prog 106 = some false := by kernel_rfl
theorem Tryd.ze106 : tyZero Tryd.prog 106 = some [.nilFunc] := by kernel_rfl
theorem Tryd.ar106 : tyArr Tryd.prog 106 = none := by kernel_rfl
theorem Tryd.sz107 : tySize Tryd.prog 107 = some 8 := by kernel_rfl
theorem Tryd.by107 : tyBytes Tryd.prog 107 = some 8 := by kernel_rfl
theorem Tryd.ag107 : tyAgg Tryd.prog 107 = some true := by kernel_rfl
theorem Tryd.ze107 : tyZero Tryd.prog 107 = some [.bool false, .bool false, .bool false, .bool false, .bool false, .bool false, .bool false, .bool false] := by kernel_rfl
theorem Tryd.pl107 : tyPlaces Tryd.prog 107 = some [(0, 1), (1, 1), (2, 1), (3, 1), (4, 1), (5, 1), (6, 1), (7, 1)] := by kernel_rfl
theorem Tryd.ea107 : tyEqArr Tryd.prog 107 = some 8 := by kernel_rfl
theorem Tryd.ar107 : tyArr Tryd.prog 107 = none := by kernel_rfl
theorem Tryd.sz108 : tySize Tryd.prog 108 = some 1 := by kernel_rfl
theorem Tryd.by108 : tyBytes Tryd.prog 108 = some 8 := by kernel_rfl
theorem Tryd.ag108 : tyAgg Tryd.prog 108 = some false := by kernel_rfl
theorem Tryd.ze108 : tyZero Tryd.prog 108 = some [.nilFunc] := by kernel_rfl
theorem Tryd.ar108 : tyArr Tryd.prog 108 = none := by kernel_rfl
theorem Tryd.sz109 : tySize Tryd.prog 109 = some 1 := by kernel_rfl
theorem Tryd.by109 : tyBytes Tryd.prog 109 = some 8 := by kernel_rfl
theorem Tryd.ag109 : tyAgg Tryd.prog 109 = some false := by kernel_rfl
theorem Tryd.ze109 : tyZero Tryd.prog 109 = some [.nilFunc] := by kernel_rfl
theorem Tryd.ar109 : tyArr Tryd.prog 109 = none := by kernel_rfl
theorem Tryd.sz110 : tySize Tryd.prog 110 = some 1 := by kernel_rfl
theorem Tryd.by110 : tyBytes Tryd.prog 110 = some 24 := by kernel_rfl
theorem Tryd.ag110 : tyAgg Tryd.prog 110 = some false := by kernel_rfl
theorem Tryd.ze110 : tyZero Tryd.prog 110 = some [.slice none 0 0] := by kernel_rfl
theorem Tryd.ar110 : tyArr Tryd.prog 110 = none := by kernel_rfl
theorem Tryd.sz111 : tySize Tryd.prog 111 = some 1 := by kernel_rfl
theorem Tryd.by111 : tyBytes Tryd.prog 111 = some 8 := by kernel_rfl
theorem Tryd.ag111 : tyAgg Tryd.prog 111 = some false := by kernel_rfl
theorem Tryd.ze111 : tyZero Tryd.prog 111 = some [.nilFunc] := by kernel_rfl
theorem Tryd.ar111 : tyArr Tryd.prog 111 = none := by kernel_rfl
theorem Tryd.sz112 : tySize Tryd.prog 112 = some 1 := by kernel_rfl
theorem Tryd.by112 : tyBytes Tryd.prog 112 = some 0 := by kernel_rfl
theorem Tryd.ag112 : tyAgg Tryd.prog 112 = some false := by kernel_rfl
theorem Tryd.ar112 : tyArr Tryd.prog 112 = none := by kernel_rfl
theorem Tryd.sz113 : tySize Tryd.prog 113 = some 1 := by kernel_rfl
theorem Tryd.by113 : tyBytes Tryd.prog 113 = some 8 := by kernel_rfl
theorem Tryd.ag113 : tyAgg Tryd.prog 113 = some false := by kernel_rfl
theorem Tryd.ze113 : tyZero Tryd.prog 113 = some [.nilFunc] := by kernel_rfl
theorem Tryd.ar113 : tyArr Tryd.prog 113 = none := by kernel_rfl
theorem Tryd.sz114 : tySize Tryd.prog 114 = some 1 := by kernel_rfl
theorem Tryd.by114 : tyBytes Tryd.prog 114 = some 8 := by kernel_rfl
theorem Tryd.ag114 : tyAgg Tryd.prog 114 = some false := by kernel_rfl
theorem Tryd.ze114 : tyZero Tryd.prog 114 = some [.nilFunc] := by kernel_rfl
theorem Tryd.ar114 : tyArr Tryd.prog 114 = none := by kernel_rfl
theorem Tryd.sz115 : tySize Tryd.prog 115 = some 1 := by kernel_rfl
theorem Tryd.by115 : tyBytes Tryd.prog 115 = some 8 := by kernel_rfl
theorem Tryd.ag115 : tyAgg Tryd.prog 115 = some false := by kernel_rfl
theorem Tryd.ze115 : tyZero Tryd.prog 115 = some [.nilFunc] := by kernel_rfl
theorem Tryd.ar115 : tyArr Tryd.prog 115 = none := by kernel_rfl
theorem Tryd.sz116 : tySize Tryd.prog 116 = some 1 := by kernel_rfl
theorem Tryd.by116 : tyBytes Tryd.prog 116 = some 8 := by kernel_rfl
theorem Tryd.ag116 : tyAgg Tryd.prog 116 = some false := by kernel_rfl
theorem Tryd.ze116 : tyZero Tryd.prog 116 = some [.nilFunc] := by kernel_rfl
theorem Tryd.ar116 : tyArr Tryd.prog 116 = none := by kernel_rfl
theorem Tryd.sz117 : tySize Tryd.prog 117 = some 1 := by kernel_rfl
theorem Tryd.by117 : tyBytes Tryd.prog 117 = some 8 := by kernel_rfl
theorem Tryd.ag117 : tyAgg Tryd.prog 117 = some false := by kernel_rfl
theorem Tryd.ze117 : tyZero Tryd.prog 117 = some [.nilFunc] := by kernel_rfl
theorem Tryd.ar117 : tyArr Tryd.prog 117 = none := by kernel_rfl
theorem Tryd.sz118 : tySize Tryd.prog 118 = some 1 := by kernel_rfl
theorem Tryd.by118 : tyBytes Tryd.prog 118 = some 8 := by kernel_rfl
theorem Tryd.ag118 : tyAgg Tryd.prog 118 = some false := by kernel_rfl
theorem Tryd.ze118 : tyZero Tryd.prog 118 = some [.nilFunc] := by kernel_rfl
theorem Tryd.ar118 : tyArr Tryd.prog 118 = none := by kernel_rfl
theorem Tryd.sz119 : tySize Tryd.prog 119 = some 1 := by kernel_rfl
theorem Tryd.by119 : tyBytes Tryd.prog 119 = some 8 := by kernel_rfl
theorem Tryd.ag119 : tyAgg Tryd.prog 119 = some false := by kernel_rfl
theorem Tryd.ze119 : tyZero Tryd.prog 119 = some [.nilFunc] := by kernel_rfl
theorem Tryd.ar119 : tyArr Tryd.prog 119 = none := by kernel_rfl
theorem Tryd.sz120 : tySize Tryd.prog 120 = some 1 := by kernel_rfl
theorem Tryd.by120 : tyBytes Tryd.prog 120 = some 24 := by kernel_rfl
theorem Tryd.ag120 : tyAgg Tryd.prog 120 = some false := by kernel_rfl
theorem Tryd.ze120 : tyZero Tryd.prog 120 = some [.slice none 0 0] := by kernel_rfl
theorem Tryd.ar120 : tyArr Tryd.prog 120 = none := by kernel_rfl
theorem Tryd.sz121 : tySize Tryd.prog 121 = some 1 := by kernel_rfl
theorem Tryd.by121 : tyBytes Tryd.prog 121 = some 8 := by kernel_rfl
theorem Tryd.ag121 : tyAgg Tryd.prog 121 = some false := by kernel_rfl
theorem Tryd.ze121 : tyZero Tryd.prog 121 = some [.nilFunc] := by kernel_rfl
theorem Tryd.ar121 : tyArr Tryd.prog 121 = none := by kernel_rfl
theorem Tryd.sz122 : tySize Tryd.prog 122 = some 1 := by kernel_rfl
theorem Tryd.by122 : tyBytes Tryd.prog 122 = some 8 := by kernel_rfl
theorem Tryd.ag122 : tyAgg Tryd.prog 122 = some false := by kernel_rfl
theorem Tryd.ze122 : tyZero Tryd.prog 122 = some [.nilFunc] := by kernel_rfl
theorem Tryd.ar122 : tyArr Tryd.prog 122 = none := by kernel_rfl
theorem Tryd.sz123 : tySize Tryd.prog 123 = some 1 := by kernel_rfl
theorem Tryd.by123 : tyBytes Tryd.prog 123 = some 24 := by kernel_rfl
theorem Tryd.ag123 : tyAgg Tryd.prog 123 = some false := by kernel_rfl
theorem Tryd.ze123 : tyZero Tryd.prog 123 = some [.slice none 0 0] := by kernel_rfl
theorem Tryd.ar123 : tyArr Tryd.prog 123 = none := by kernel_rfl
theorem Tryd.sz124 : tySize Tryd.prog 124 = some 1 := by kernel_rfl
theorem Tryd.by124 : tyBytes Tryd.prog 124 = some 8 := by kernel_rfl
theorem Tryd.ag124 : tyAgg Tryd.prog 124 = some false := by kernel_rfl
theorem Tryd.ze124 : tyZero Tryd.prog 124 = some [.nilFunc] := by kernel_rfl
theorem Tryd.ar124 : tyArr Tryd.prog 124 = none := by kernel_rfl
theorem Tryd.sz125 : tySize Tryd.prog 125 = some 1 := by kernel_rfl
theorem Tryd.by125 : tyBytes Tryd.prog 125 = some 8 := by kernel_rfl
theorem Tryd.ag125 : tyAgg Tryd.prog 125 = some false := by kernel_rfl
theorem Tryd.ze125 : tyZero Tryd.prog 125 = some [.nilFunc] := by kernel_rfl
theorem Tryd.ar125 : tyArr Tryd.prog 125 = none := by kernel_rfl
theorem Tryd.sz126 : tySize Tryd.prog 126 = some 1 := by kernel_rfl
theorem Tryd.by126 : tyBytes Tryd.prog 126 = some 8 := by kernel_rfl
theorem Tryd.ag126 : tyAgg Tryd.prog 126 = some false := by kernel_rfl
theorem Tryd.ze126 : tyZero Tryd.prog 126 = some [.nilFunc] := by kernel_rfl
theorem Tryd.ar126 : tyArr Tryd.prog 126 = none := by kernel_rfl
theorem Tryd.sz127 : tySize Tryd.prog 127 = some 1 := by kernel_rfl
theorem Tryd.by127 : tyBytes Tryd.prog 127 = some 8 := by kernel_rfl
theorem Tryd.ag127 : tyAgg Tryd.prog 127 = some false := by kernel_rfl
theorem Tryd.ze127 : tyZero Tryd.prog 127 = some [.int .u64 0] := by kernel_rfl
theorem Tryd.ar127 : tyArr Tryd.prog 127 = none := by kernel_rfl
theorem Tryd.sz128 : tySize Tryd.prog 128 = some 1 := by kernel_rfl
theorem Tryd.by128 : tyBytes Tryd.prog 128 = some 8 := by kernel_rfl
theorem Tryd.ag128 : tyAgg Tryd.prog 128 = some false := by kernel_rfl
theorem Tryd.ze128 : tyZero Tryd.prog 128 = some [.nilFunc] := by kernel_rfl
theorem Tryd.ar128 : tyArr Tryd.prog 128 = none := by kernel_rfl
theorem Tryd.sz129 : tySize Tryd.prog 129 = some 1 := by kernel_rfl
theorem Tryd.by129 : tyBytes Tryd.prog 129 = some 8 := by kernel_rfl
theorem Tryd.ag129 : tyAgg Tryd.prog 129 = some false := by kernel_rfl
theorem Tryd.ze129 : tyZero Tryd.prog 129 = some [.nilFunc] := by kernel_rfl
theorem Tryd.ar129 : tyArr Tryd.prog 129 = none := by kernel_rfl
theorem Tryd.sz130 : tySize Tryd.prog 130 = some 1 := by kernel_rfl
theorem Tryd.by130 : tyBytes Tryd.prog 130 = some 8 := by kernel_rfl
theorem Tryd.ag130 : tyAgg Tryd.prog 130 = some false := by kernel_rfl
theorem Tryd.ze130 : tyZero Tryd.prog 130 = some [.nilFunc] := by kernel_rfl
theorem Tryd.ar130 : tyArr Tryd.prog 130 = none := by kernel_rfl
theorem Tryd.sz131 : tySize Tryd.prog 131 = some 1 := by kernel_rfl
theorem Tryd.by131 : tyBytes Tryd.prog 131 = some 8 := by kernel_rfl
theorem Tryd.ag131 : tyAgg Tryd.prog 131 = some false := by kernel_rfl
theorem Tryd.ze131 : tyZero Tryd.prog 131 = some [.nilFunc] := by kernel_rfl
theorem Tryd.ar131 : tyArr Tryd.prog 131 = none := by kernel_rfl
theorem Tryd.sz132 : tySize Tryd.prog 132 = some 1 := by kernel_rfl
theorem Tryd.by132 : tyBytes Tryd.prog 132 = some 8 := by kernel_rfl
theorem Tryd.ag132 : tyAgg Tryd.prog 132 = some false := by kernel_rfl
theorem Tryd.ze132 : tyZero Tryd.prog 132 = some [.nilFunc] := by kernel_rfl
theorem Tryd.ar132 : tyArr Tryd.prog 132 = none := by kernel_rfl
theorem Tryd.sz133 : tySize Tryd.prog 133 = some 1 := by kernel_rfl
theorem Tryd.by133 : tyBytes Tryd.prog 133 = some 8 := by kernel_rfl
theorem Tryd.ag133 : tyAgg Tryd.prog 133 = some false := by kernel_rfl
theorem Tryd.ze133 : tyZero Tryd.prog 133 = some [.nilFunc] := by kernel_rfl
theorem Tryd.ar133 : tyArr Tryd.prog 133 = none := by kernel_rfl
theorem Tryd.sz134 : tySize Tryd.prog 134 = some 1 := by kernel_rfl
theorem Tryd.by134 : tyBytes Tryd.prog 134 = some 8 := by kernel_rfl
theorem Tryd.ag134 : tyAgg Tryd.prog 134 = some false := by kernel_rfl
theorem Tryd.ze134 : tyZero Tryd.prog 134 = some [.nilFunc] := by kernel_rfl
theorem Tryd.ar134 : tyArr Tryd.prog 134 = none := by kernel_rfl
theorem Tryd.sz135 : tySize Tryd.prog 135 = some 1 := by kernel_rfl
theorem Tryd.by135 : tyBytes Tryd.prog 135 = some 8 := by kernel_rfl
theorem Tryd.ag135 : tyAgg Tryd.prog 135 = some false := by kernel_rfl
theorem Tryd.ze135 : tyZero Tryd.prog 135 = some [.int .i64 0] := by kernel_rfl
theorem Tryd.ar135 : tyArr Tryd.prog 135 = none := by kernel_rfl
theorem Tryd.sz136 : tySize Tryd.prog 136 = some 1 := by kernel_rfl
theorem Tryd.by136 : tyBytes Tryd.prog 136 = some 0 := by kernel_rfl
theorem Tryd.ag136 : tyAgg Tryd.prog 136 = some false := by kernel_rfl
theorem Tryd.ar136 : tyArr Tryd.prog 136 = none := by kernel_rfl
theorem Tryd.sz137 : tySize Tryd.prog 137 = some 1 := by kernel_rfl
theorem Tryd.by137 : tyBytes Tryd.prog 137 = some 8 := by kernel_rfl
theorem Tryd.ag137 : tyAgg Tryd.prog 137 = some false := by kernel_rfl
theorem Tryd.ze137 : tyZero Tryd.prog 137 = some [.nilFunc] := by kernel_rfl
theorem Tryd.ar137 : tyArr Tryd.prog 137 = none := by kernel_rfl
theorem Tryd.sz138 : tySize Tryd.prog 138 = some 1 := by kernel_rfl
theorem Tryd.by138 : tyBytes Tryd.prog 138 = some 8 := by kernel_rfl
theorem Tryd.ag138 : tyAgg Tryd.prog 138 = some false := by kernel_rfl
theorem Tryd.ze138 : tyZero Tryd.prog 138 = some [.nilFunc] := by kernel_rfl
theorem Tryd.ar138 : tyArr Tryd.prog 138 = none := by kernel_rfl
theorem Tryd.sz139 : tySize Tryd.prog 139 = some 1 := by kernel_rfl
theorem Tryd.by139 : tyBytes Tryd.prog 139 = some 8 := by kernel_rfl
theorem Tryd.ag139 : tyAgg Tryd.prog 139 = some false := by kernel_rfl
theorem Tryd.ze139 : tyZero Tryd.prog 139 = some [.nilFunc] := by kernel_rfl
theorem Tryd.ar139 : tyArr Tryd.prog 139 = none := by kernel_rfl
theorem Tryd.sz140 : tySize Tryd.prog 140 = some 1 := by kernel_rfl
theorem Tryd.by140 : tyBytes Tryd.prog 140 = some 8 := by kernel_rfl
theorem Tryd.ag140 : tyAgg Tryd.prog 140 = some false := by kernel_rfl
theorem Tryd.ze140 : tyZero Tryd.prog 140 = some [.nilFunc] := by kernel_rfl
theorem Tryd.ar140 : tyArr Tryd.prog 140 = none := by kernel_rfl
theorem Tryd.sz141 : tySize Tryd.prog 141 = some 1 := by kernel_rfl
theorem Tryd.by141 : tyBytes Tryd.prog 141 = some 8 := by kernel_rfl
theorem Tryd.ag141 : tyAgg Tryd.prog 141 = some false := by kernel_rfl
theorem Tryd.ze141 : tyZero Tryd.prog 141 = some [.nilFunc] := by kernel_rfl
theorem Tryd.ar141 : tyArr Tryd.prog 141 = none := by kernel_rfl
theorem Tryd.sz142 : tySize Tryd.prog 142 = some 1 := by kernel_rfl
theorem Tryd.by142 : tyBytes Tryd.prog 142 = some 8 := by kernel_rfl
theorem Tryd.ag142 : tyAgg Tryd.prog 142 = some false := by kernel_rfl
theorem Tryd.ze142 : tyZero Tryd.prog 142 = some [.nilFunc] := by kernel_rfl
theorem Tryd.ar142 : tyArr Tryd.prog 142 = none := by kernel_rfl
theorem Tryd.sz143 : tySize Tryd.prog 143 = some 1 := by kernel_rfl
theorem Tryd.by143 : tyBytes Tryd.prog 143 = some 8 := by kernel_rfl
theorem Tryd.ag143 : tyAgg Tryd.prog 143 = some false := by kernel_rfl
theorem Tryd.ze143 : tyZero Tryd.prog 143 = some [.nilFunc] := by kernel_rfl
theorem Tryd.ar143 : tyArr Tryd.prog 143 = none := by kernel_rfl
theorem Tryd.sz144 : tySize Tryd.prog 144 = some 1 := by kernel_rfl
theorem Tryd.by144 : tyBytes Tryd.prog 144 = some 8 := by kernel_rfl
theorem Tryd.ag144 : tyAgg Tryd.prog 144 = some false := by kernel_rfl
theorem Tryd.ze144 : tyZero Tryd.prog 144 = some [.nilFunc] := by kernel_rfl
theorem Tryd.ar144 : tyArr Tryd.prog 144 = none := by kernel_rfl
theorem Tryd.sz145 : tySize Tryd.prog 145 = some 32 := by kernel_rfl
theorem Tryd.by145 : tyBytes Tryd.prog 145 = some 32 := by kernel_rfl
theorem Tryd.ag145 : tyAgg Tryd.prog 145 = some true := by kernel_rfl
theorem Tryd.ze145 : tyZero Tryd.prog 145 = some [.int .u8 0, .int .u8 0, .int .u8 0, .int .u8 0, .int .u8 0, .int .u8 0, .int .u8 0, .int .u8 0, .int .u8 0, .int .u8 0, .int .u8 0, .int .u8 0, .int .u8 0, .int .u8 0, .int .u8 0, .int .u8 0, .int .u8 0, .int .u8 0, .int .u8 0, .int .u8 0, .int .u8 0, .int .u8 0, .int .u8 0, .int .u8 0, .int .u8 0, .int .u8 0, .int .u8 0, .int .u8 0, .int .u8 0, .int .u8 0, .int .u8 0, .int .u8 0] := by kernel_rfl
theorem Tryd.ar145 : tyArr Tryd.prog 145 = some (32, 1, [.int .u8 0]) := by kernel_rfl
theorem Tryd.sz146 : tySize Tryd.prog 146 = some 1 := by kernel_rfl
theorem Tryd.by146 : tyBytes Tryd.prog 146 = some 8 := by kernel_rfl
theorem Tryd.ag146 : tyAgg Tryd.prog 146 = some false := by kernel_rfl
theorem Tryd.ze146 : tyZero Tryd.prog 146 = some [.int .u64 0] := by kernel_rfl
theorem Tryd.ar146 : tyArr Tryd.prog 146 = none := by kernel_rfl
theorem Tryd.sz147 : tySize Tryd.prog 147 = some 1 := by kernel_rfl
theorem Tryd.by147 : tyBytes Tryd.prog 147 = some 8 := by kernel_rfl
theorem Tryd.ag147 : tyAgg Tryd.prog 147 = some false := by kernel_rfl
theorem Tryd.ze147 : tyZero Tryd.prog 147 = some [.nilFunc] := by kernel_rfl
theorem Tryd.ar147 : tyArr Tryd.prog 147 = none := by kernel_rfl
theorem Tryd.sz148 : tySize Tryd.prog 148 = some 1 := by kernel_rfl
theorem Tryd.by148 : tyBytes Tryd.prog 148 = some 8 := by kernel_rfl
theorem Tryd.ag148 : tyAgg Tryd.prog 148 = some false := by kernel_rfl
theorem Tryd.ze148 : tyZero Tryd.prog 148 = some [.nilFunc] := by kernel_rfl
theorem Tryd.ar148 : tyArr Tryd.prog 148 = none := by kernel_rfl
theorem Tryd.sz149 : tySize Tryd.prog 149 = some 1 := by kernel_rfl
theorem Tryd.by149 : tyBytes Tryd.prog 149 = some 8 := by kernel_rfl
theorem Tryd.ag149 : tyAgg Tryd.prog 149 = some false := by kernel_rfl
theorem Tryd.ze149 : tyZero Tryd.prog 149 = some [.nilFunc] := by kernel_rfl
theorem Tryd.ar149 : tyArr Tryd.prog 149 = none := by kernel_rfl
theorem Tryd.sz150 : tySize Tryd.prog 150 = some 1 := by kernel_rfl
theorem Tryd.by150 : tyBytes Tryd.prog 150 = some 8 := by kernel_rfl
theorem Tryd.ag150 : tyAgg Tryd.prog 150 = some false := by kernel_rfl
theorem Tryd.ze150 : tyZero Tryd.prog 150 = some [.pointer none] := by kernel_rfl
theorem Tryd.ar150 : tyArr Tryd.prog 150 = none := by kernel_rfl
theorem Tryd.sz151 : tySize Tryd.prog 151 = some 1 := by kernel_rfl
theorem Tryd.by151 : tyBytes Tryd.prog 151 = some 8 := by kernel_rfl
theorem Tryd.ag151 : tyAgg Tryd.prog 151 = some false := by kernel_rfl
theorem Tryd.ze151 : tyZero Tryd.prog 151 = some [.nilFunc] := by kernel_rfl
theorem Tryd.ar151 : tyArr Tryd.prog 151 = none := by kernel_rfl
theorem Tryd.sz152 : tySize Tryd.prog 152 = some 1 := by kernel_rfl
theorem Tryd.by152 : tyBytes Tryd.prog 152 = some 0 := by kernel_rfl
theorem Tryd.ag152 : tyAgg Tryd.prog 152 = some false := by kernel_rfl
theorem Tryd.ar152 : tyArr Tryd.prog 152 = none := by kernel_rfl
theorem Tryd.sz153 : tySize Tryd.prog 153 = some 1 := by kernel_rfl
theorem Tryd.by153 : tyBytes Tryd.prog 153 = some 8 := by kernel_rfl
theorem Tryd.ag153 : tyAgg Tryd.prog 153 = some false := by kernel_rfl
theorem Tryd.ze153 : tyZero Tryd.prog 153 = some [.nilFunc] := by kernel_rfl
theorem Tryd.ar153 : tyArr Tryd.prog 153 = none := by kernel_rfl
theorem Tryd.sz154 : tySize Tryd.prog 154 = some 1 := by kernel_rfl
theorem Tryd.by154 : tyBytes Tryd.prog 154 = some 8 := by kernel_rfl
theorem Tryd.ag154 : tyAgg Tryd.prog 154 = some false := by kernel_rfl
theorem Tryd.ze154 : tyZero Tryd.prog 154 = some [.nilFunc] := by kernel_rfl
theorem Tryd.ar154 : tyArr Tryd.prog 154 = none := by kernel_rfl
theorem Tryd.sz155 : tySize Tryd.prog 155 = some 1 := by kernel_rfl
theorem Tryd.by155 : tyBytes Tryd.prog 155 = some 8 := by kernel_rfl
theorem Tryd.ag155 : tyAgg Tryd.prog 155 = some false := by kernel_rfl
theorem Tryd.ze155 : tyZero Tryd.prog 155 = some [.map none] := by kernel_rfl
theorem Tryd.mp155 : tyMap Tryd.prog 155 = some (false, [.i64], .v (.int .i64 0)) := by kernel_rfl
theorem Tryd.ar155 : tyArr Tryd.prog 155 = none := by kernel_rfl
theorem Tryd.sz156 : tySize Tryd.prog 156 = some 1 := by kernel_rfl
theorem Tryd.by156 : tyBytes Tryd.prog 156 = some 8 := by kernel_rfl
theorem Tryd.ag156 : tyAgg Tryd.prog 156 = some false := by kernel_rfl
theorem Tryd.ze156 : tyZero Tryd.prog 156 = some [.nilFunc] := by kernel_rfl
theorem Tryd.ar156 : tyArr Tryd.prog 156 = none := by kernel_rfl
theorem Tryd.sz157 : tySize Tryd.prog 157 = some 1 := by kernel_rfl
theorem Tryd.by157 : tyBytes Tryd.prog 157 = some 8 := by kernel_rfl
theorem Tryd.ag157 : tyAgg Tryd.prog 157 = some false := by kernel_rfl
theorem Tryd.ze157 : tyZero Tryd.prog 157 = some [.pointer none] := by kernel_rfl
theorem Tryd.ar157 : tyArr Tryd.prog 157 = none := by kernel_rfl
theorem Tryd.sz158 : tySize Tryd.prog 158 = some 1 := by kernel_rfl
theorem Tryd.by158 : tyBytes Tryd.prog 158 = some 0 := by kernel_rfl
theorem Tryd.ag158 : tyAgg Tryd.prog 158 = some false := by kernel_rfl
theorem Tryd.ar158 : tyArr Tryd.prog 158 = none := by kernel_rfl
theorem Tryd.sz159 : tySize Tryd.prog 159 = some 1 := by kernel_rfl
theorem Tryd.by159 : tyBytes Tryd.prog 159 = some 8 := by kernel_rfl
theorem Tryd.ag159 : tyAgg Tryd.prog 159 = some false := by kernel_rfl
theorem Tryd.ze159 : tyZero Tryd.prog 159 = some [.nilFunc] := by kernel_rfl
theorem Tryd.ar159 : tyArr Tryd.prog 159 = none := by kernel_rfl
theorem Tryd.sz160 : tySize Tryd.prog 160 = some 1 := by kernel_rfl
theorem Tryd.by160 : tyBytes Tryd.prog 160 = some 8 := by kernel_rfl
theorem Tryd.ag160 : tyAgg Tryd.prog 160 = some false := by kernel_rfl
theorem Tryd.ze160 : tyZero Tryd.prog 160 = some [.nilFunc] := by kernel_rfl
theorem Tryd.ar160 : tyArr Tryd.prog 160 = none := by kernel_rfl
theorem Tryd.sz161 : tySize Tryd.prog 161 = some 4 := by kernel_rfl
theorem Tryd.by161 : tyBytes Tryd.prog 161 = some 40 := by kernel_rfl
theorem Tryd.ag161 : tyAgg Tryd.prog 161 = some true := by kernel_rfl
theorem Tryd.ze161 : tyZero Tryd.prog 161 = some [.pointer none, .pointer none, .pointer none, .string ⟨#[]⟩] := by kernel_rfl
theorem Tryd.fd161f0 : tyField Tryd.prog 161 0 = some (0, 1, false) := by kernel_rfl
theorem Tryd.fd161f1 : tyField Tryd.prog 161 1 = some (1, 1, false) := by kernel_rfl
theorem Tryd.fd161f2 : tyField Tryd.prog 161 2 = some (2, 1, false) := by kernel_rfl
theorem Tryd.fd161f3 : tyField Tryd.prog 161 3 = some (3, 1, false) := by kernel_rfl
theorem Tryd.pl161 : tyPlaces Tryd.prog 161 = some [(0, 1), (1, 1), (2, 1), (3, 1)] := by kernel_rfl
theorem Tryd.ar161 : tyArr Tryd.prog 161 = none := by kernel_rfl
theorem Tryd.sz163 : tySize Tryd.prog 163 = some 0 := by kernel_rfl
theorem Tryd.by163 : tyBytes Tryd.prog 163 = some 0 := by kernel_rfl
theorem Tryd.ag163 : tyAgg Tryd.prog 163 = some true := by kernel_rfl
theorem Tryd.ze163 : tyZero Tryd.prog 163 = some [] := by kernel_rfl
theorem Tryd.pl163 : tyPlaces Tryd.prog 163 = some [] := by kernel_rfl
theorem Tryd.ar163 : tyArr Tryd.prog 163 = none := by kernel_rfl
theorem Tryd.sz164 : tySize Tryd.prog 164 = some 0 := by kernel_rfl
theorem Tryd.by164 : tyBytes Tryd.prog 164 = some 0 := by kernel_rfl
theorem Tryd.ag164 : tyAgg Tryd.prog 164 = some true := by kernel_rfl
theorem Tryd.ze164 : tyZero Tryd.prog 164 = some [] := by kernel_rfl
theorem Tryd.fd164f0 : tyField Tryd.prog 164 0 = some (0, 0, true) := by kernel_rfl
theorem Tryd.pl164 : tyPlaces Tryd.prog 164 = some [(0, 0)] := by kernel_rfl
theorem Tryd.ar164 : tyArr Tryd.prog 164 = none := by kernel_rfl
theorem Tryd.sz166 : tySize Tryd.prog 166 = some 1 := by kernel_rfl
theorem Tryd.by166 : tyBytes Tryd.prog 166 = some 8 := by kernel_rfl
theorem Tryd.ag166 : tyAgg Tryd.prog 166 = some false := by kernel_rfl
theorem Tryd.ze166 : tyZero Tryd.prog 166 = some [.nilFunc] := by kernel_rfl
theorem Tryd.ar166 : tyArr Tryd.prog 166 = none := by kernel_rfl
theorem Tryd.sz167 : tySize Tryd.prog 167 = some 1 := by kernel_rfl
theorem Tryd.by167 : tyBytes Tryd.prog 167 = some 1 := by kernel_rfl
theorem Tryd.ag167 : tyAgg Tryd.prog 167 = some false := by kernel_rfl
theorem Tryd.ze167 : tyZero Tryd.prog 167 = some [.int .u8 0] := by kernel_rfl
theorem Tryd.ar167 : tyArr Tryd.prog 167 = none := by kernel_rfl
theorem Tryd.sz168 : tySize Tryd.prog 168 = some 1 := by kernel_rfl
theorem Tryd.by168 : tyBytes Tryd.prog 168 = some 1 := by kernel_rfl
theorem Tryd.ag168 : tyAgg Tryd.prog 168 = some false := by kernel_rfl
theorem Tryd.ze168 : tyZero Tryd.prog 168 = some [.int .u8 0] := by kernel_rfl
theorem Tryd.ar168 : tyArr Tryd.prog 168 = none := by kernel_rfl
theorem Tryd.sz169 : tySize Tryd.prog 169 = some 1 := by kernel_rfl
theorem Tryd.by169 : tyBytes Tryd.prog 169 = some 8 := by kernel_rfl
theorem Tryd.ag169 : tyAgg Tryd.prog 169 = some false := by kernel_rfl
theorem Tryd.ze169 : tyZero Tryd.prog 169 = some [.nilFunc] := by kernel_rfl
theorem Tryd.ar169 : tyArr Tryd.prog 169 = none := by kernel_rfl
theorem Tryd.sz170 : tySize Tryd.prog 170 = some 1 := by kernel_rfl
theorem Tryd.by170 : tyBytes Tryd.prog 170 = some 8 := by kernel_rfl
theorem Tryd.ag170 : tyAgg Tryd.prog 170 = some false := by kernel_rfl
theorem Tryd.ze170 : tyZero Tryd.prog 170 = some [.pointer none] := by kernel_rfl
theorem Tryd.ar170 : tyArr Tryd.prog 170 = none := by kernel_rfl
theorem Tryd.sz171 : tySize Tryd.prog 171 = some 1 := by kernel_rfl
theorem Tryd.by171 : tyBytes Tryd.prog 171 = some 4 := by kernel_rfl
theorem Tryd.ag171 : tyAgg Tryd.prog 171 = some false := by kernel_rfl
theorem Tryd.ze171 : tyZero Tryd.prog 171 = some [.int .i32 0] := by kernel_rfl
theorem Tryd.ar171 : tyArr Tryd.prog 171 = none := by kernel_rfl
theorem Tryd.sz172 : tySize Tryd.prog 172 = some 1 := by kernel_rfl
theorem Tryd.by172 : tyBytes Tryd.prog 172 = some 4 := by kernel_rfl
theorem Tryd.ag172 : tyAgg Tryd.prog 172 = some false := by kernel_rfl
theorem Tryd.ze172 : tyZero Tryd.prog 172 = some [.int .i32 0] := by kernel_rfl
theorem Tryd.ar172 : tyArr Tryd.prog 172 = none := by kernel_rfl
theorem Tryd.sz173 : tySize Tryd.prog 173 = some 11 := by kernel_rfl
theorem Tryd.by173 : tyBytes Tryd.prog 173 = some 48 := by kernel_rfl
theorem Tryd.ag173 : tyAgg Tryd.prog 173 = some true := by kernel_rfl
theorem Tryd.ze173 : tyZero Tryd.prog 173 = some [.int .u64 0, .int .u64 0, .int .u32 0, .int .u8 0, .int .u8 0, .int .u8 0, .int .u8 0, .nilFunc, .pointer none, .int .i32 0, .int .i32 0] := by kernel_rfl
theorem Tryd.fd173f0 : tyField Tryd.prog 173 0 = some (0, 1, false) := by kernel_rfl
theorem Tryd.fd173f1 : tyField Tryd.prog 173 1 = some (1, 1, false) := by kernel_rfl
theorem Tryd.fd173f2 : tyField Tryd.prog 173 2 = some (2, 1, false) := by kernel_rfl
theorem Tryd.fd173f3 : tyField Tryd.prog 173 3 = some (3, 1, false) := by kernel_rfl
theorem Tryd.fd173f4 : tyField Tryd.prog 173 4 = some (4, 1, false) := by kernel_rfl
theorem Tryd.fd173f5 : tyField Tryd.prog 173 5 = some (5, 1, false) := by kernel_rfl
theorem Tryd.fd173f6 : tyField Tryd.prog 173 6 = some (6, 1, false) := by kernel_rfl
theorem Tryd.fd173f7 : tyField Tryd.prog 173 7 = some (7, 1, false) := by kernel_rfl
theorem Tryd.fd173f8 : tyField Tryd.prog 173 8 = some (8, 1, false) := by kernel_rfl
theorem Tryd.fd173f9 : tyField Tryd.prog 173 9 = some (9, 1, false) := by kernel_rfl
theorem Tryd.fd173f10 : tyField Tryd.prog 173 10 = some (10, 1, false) := by kernel_rfl
theorem Tryd.pl173 : tyPlaces Tryd.prog 173 = some [(0, 1), (1, 1), (2, 1), (3, 1), (4, 1), (5, 1), (6, 1), (7, 1), (8, 1), (9, 1), (10, 1)] := by kernel_rfl
theorem Tryd.ar173 : tyArr Tryd.prog 173 = none := by kernel_rfl
theorem Tryd.sz174 : tySize Tryd.prog 174 = some 11 := by kernel_rfl
theorem Tryd.by174 : tyBytes Tryd.prog 174 = some 48 := by kernel_rfl
theorem Tryd.ag174 : tyAgg Tryd.prog 174 = some true := by kernel_rfl
theorem Tryd.ze174 : tyZero Tryd.prog 174 = some [.int .u64 0, .int .u64 0, .int .u32 0, .int .u8 0, .int .u8 0, .int .u8 0, .int .u8 0, .nilFunc, .pointer none, .int .i32 0, .int .i32 0] := by kernel_rfl
theorem Tryd.fd174f0 : tyField Tryd.prog 174 0 = some (0, 1, false) := by kernel_rfl
theorem Tryd.fd174f1 : tyField Tryd.prog 174 1 = some (1, 1, false) := by kernel_rfl
theorem Tryd.fd174f2 : tyField Tryd.prog 174 2 = some (2, 1, false) := by kernel_rfl
theorem Tryd.fd174f3 : tyField Tryd.prog 174 3 = some (3, 1, false) := by kernel_rfl
theorem Tryd.fd174f4 : tyField Tryd.prog 174 4 = some (4, 1, false) := by kernel_rfl
theorem Tryd.fd174f5 : tyField Tryd.prog 174 5 = some (5, 1, false) := by kernel_rfl
theorem Tryd.fd174f6 : tyField Tryd.prog 174 6 = some (6, 1, false) := by kernel_rfl
theorem Tryd.fd174f7 : tyField Tryd.prog 174 7 = some (7, 1, false) := by kernel_rfl
theorem Tryd.fd174f8 : tyField Tryd.prog 174 8 = some (8, 1, false) := by kernel_rfl
theorem Tryd.fd174f9 : tyField Tryd.prog 174 9 = some (9, 1, false) := by kernel_rfl
theorem Tryd.fd174f10 : tyField Tryd.prog 174 10 = some (10, 1, false) := by kernel_rfl
theorem Tryd.pl174 : tyPlaces Tryd.prog 174 = some [(0, 1), (1, 1), (2, 1), (3, 1), (4, 1), (5, 1), (6, 1), (7, 1), (8, 1), (9, 1), (10, 1)] := by kernel_rfl
theorem Tryd.ar174 : tyArr Tryd.prog 174 = none := by kernel_rfl
theorem Tryd.sz175 : tySize Tryd.prog 175 = some 1 := by kernel_rfl
theorem Tryd.by175 : tyBytes Tryd.prog 175 = some 8 := by kernel_rfl
theorem Tryd.ag175 : tyAgg Tryd.prog 175 = some false := by kernel_rfl
theorem Tryd.ze175 : tyZero Tryd.prog 175 = some [.pointer none] := by kernel_rfl
theorem Tryd.ar175 : tyArr Tryd.prog 175 = none := by kernel_rfl
theorem Tryd.ok2 : FnOK Tryd.prog 2 := ⟨_, Tryd.func2, rfl, by kernel_rfl⟩
theorem Tryd.ok3 : FnOK Tryd.prog 3 := ⟨_, Tryd.func3, rfl, by kernel_rfl⟩
theorem Tryd.ok4 : FnOK Tryd.prog 4 := ⟨_, Tryd.func4, rfl, by kernel_rfl⟩
theorem Tryd.ok5 : FnOK Tryd.prog 5 := ⟨_, Tryd.func5, rfl, by kernel_rfl⟩
theorem Tryd.ok6 : FnOK Tryd.prog 6 := ⟨_, Tryd.func6, rfl, by kernel_rfl⟩
theorem Tryd.ok7 : FnOK Tryd.prog 7 := ⟨_, Tryd.func7, rfl, by kernel_rfl⟩
theorem Tryd.ok8 : FnOK Tryd.prog 8 := ⟨_, Tryd.func8, rfl, by kernel_rfl⟩
theorem Tryd.ok9 : FnOK Tryd.prog 9 := ⟨_, Tryd.func9, rfl, by kernel_rfl⟩
theorem Tryd.ok10 : FnOK Tryd.prog 10 := ⟨_, Tryd.func10, rfl, by kernel_rfl⟩
theorem Tryd.ok11 : FnOK Tryd.prog 11 := ⟨_, Tryd.func11, rfl, by kernel_rfl⟩
theorem Tryd.ok12 : FnOK Tryd.prog 12 := ⟨_, Tryd.func12, rfl, by kernel_rfl⟩
theorem Tryd.ok13 : FnOK Tryd.prog 13 := ⟨_, Tryd.func13, rfl, by kernel_rfl⟩
theorem Tryd.ok14 : FnOK Tryd.prog 14 := ⟨_, Tryd.func14, rfl, by kernel_rfl⟩
theorem Tryd.ok15 : FnOK Tryd.prog 15 := ⟨_, Tryd.func15, rfl, by kernel_rfl⟩
theorem Tryd.ok16 : FnOK Tryd.prog 16 := ⟨_, Tryd.func16, rfl, by kernel_rfl⟩
theorem Tryd.ok17 : FnOK Tryd.prog 17 := ⟨_, Tryd.func17, rfl, by kernel_rfl⟩
theorem Tryd.ok18 : FnOK Tryd.prog 18 := ⟨_, Tryd.func18, rfl, by kernel_rfl⟩
theorem Tryd.ok19 : FnOK Tryd.prog 19 := ⟨_, Tryd.func19, rfl, by kernel_rfl⟩
theorem Tryd.ok20 : FnOK Tryd.prog 20 := ⟨_, Tryd.func20, rfl, by kernel_rfl⟩
theorem Tryd.ok21 : FnOK Tryd.prog 21 := ⟨_, Tryd.func21, rfl, by kernel_rfl⟩
theorem Tryd.ok22 : FnOK Tryd.prog 22 := ⟨_, Tryd.func22, rfl, by kernel_rfl⟩
theorem Tryd.ok23 : FnOK Tryd.prog 23 := ⟨_, Tryd.func23, rfl, by kernel_rfl⟩
theorem Tryd.ok24 : FnOK Tryd.prog 24 := ⟨_, Tryd.func24, rfl, by kernel_rfl⟩
theorem Tryd.ok25 : FnOK Tryd.prog 25 := ⟨_, Tryd.func25, rfl, by kernel_rfl⟩
theorem Tryd.ok26 : FnOK Tryd.prog 26 := ⟨_, Tryd.func26, rfl, by kernel_rfl⟩
theorem Tryd.ok27 : FnOK Tryd.prog 27 := ⟨_, Tryd.func27, rfl, by kernel_rfl⟩
theorem Tryd.ok28 : FnOK Tryd.prog 28 := ⟨_, Tryd.func28, rfl, by kernel_rfl⟩
theorem Tryd.ok29 : FnOK Tryd.prog 29 := ⟨_, Tryd.func29, rfl, by kernel_rfl⟩
theorem Tryd.ok30 : FnOK Tryd.prog 30 := ⟨_, Tryd.func30, rfl, by kernel_rfl⟩
theorem Tryd.ok31 : FnOK Tryd.prog 31 := ⟨_, Tryd.func31, rfl, by kernel_rfl⟩
theorem Tryd.ok32 : FnOK Tryd.prog 32 := ⟨_, Tryd.func32, rfl, by kernel_rfl⟩
theorem Tryd.ok33 : FnOK Tryd.prog 33 := ⟨_, Tryd.func33, rfl, by kernel_rfl⟩
theorem Tryd.ok34 : FnOK Tryd.prog 34 := ⟨_, Tryd.func34, rfl, by kernel_rfl⟩
theorem Tryd.ok35 : FnOK Tryd.prog 35 := ⟨_, Tryd.func35, rfl, by kernel_rfl⟩
theorem Tryd.ok36 : FnOK Tryd.prog 36 := ⟨_, Tryd.func36, rfl, by kernel_rfl⟩
theorem Tryd.ok37 : FnOK Tryd.prog 37 := ⟨_, Tryd.func37, rfl, by kernel_rfl⟩
theorem Tryd.ok38 : FnOK Tryd.prog 38 := ⟨_, Tryd.func38, rfl, by kernel_rfl⟩
theorem Tryd.ok39 : FnOK Tryd.prog 39 := ⟨_, Tryd.func39, rfl, by kernel_rfl⟩
theorem Tryd.ok40 : FnOK Tryd.prog 40 := ⟨_, Tryd.func40, rfl, by kernel_rfl⟩
theorem Tryd.ok41 : FnOK Tryd.prog 41 := ⟨_, Tryd.func41, rfl, by kernel_rfl⟩
theorem Tryd.ok42 : FnOK Tryd.prog 42 := ⟨_, Tryd.func42, rfl, by kernel_rfl⟩
theorem Tryd.ok43 : FnOK Tryd.prog 43 := ⟨_, Tryd.func43, rfl, by kernel_rfl⟩
theorem Tryd.ok44 : FnOK Tryd.prog 44 := ⟨_, Tryd.func44, rfl, by kernel_rfl⟩
theorem Tryd.ok45 : FnOK Tryd.prog 45 := ⟨_, Tryd.func45, rfl, by kernel_rfl⟩
theorem Tryd.ok46 : FnOK Tryd.prog 46 := ⟨_, Tryd.func46, rfl, by kernel_rfl⟩
theorem Tryd.ok47 : FnOK Tryd.prog 47 := ⟨_, Tryd.func47, rfl, by kernel_rfl⟩
theorem Tryd.ok48 : FnOK Tryd.prog 48 := ⟨_, Tryd.func48, rfl, by kernel_rfl⟩
theorem Tryd.ok49 : FnOK Tryd.prog 49 := ⟨_, Tryd.func49, rfl, by kernel_rfl⟩
theorem Tryd.ok50 : FnOK Tryd.prog 50 := ⟨_, Tryd.func50, rfl, by kernel_rfl⟩
theorem Tryd.ok51 : FnOK Tryd.prog 51 := ⟨_, Tryd.func51, rfl, by kernel_rfl⟩
theorem Tryd.ok52 : FnOK Tryd.prog 52 := ⟨_, Tryd.func52, rfl, by kernel_rfl⟩
theorem Tryd.ok53 : FnOK Tryd.prog 53 := ⟨_, Tryd.func53, rfl, by kernel_rfl⟩
theorem Tryd.ok54 : FnOK Tryd.prog 54 := ⟨_, Tryd.func54, rfl, by kernel_rfl⟩
theorem Tryd.ok55 : FnOK Tryd.prog 55 := ⟨_, Tryd.func55, rfl, by kernel_rfl⟩
theorem Tryd.ok56 : FnOK Tryd.prog 56 := ⟨_, Tryd.func56, rfl, by kernel_rfl⟩
theorem Tryd.ok57 : FnOK Tryd.prog 57 := ⟨_, Tryd.func57, rfl, by kernel_rfl⟩
theorem Tryd.ok58 : FnOK Tryd.prog 58 := ⟨_, Tryd.func58, rfl, by kernel_rfl⟩
theorem Tryd.ok59 : FnOK Tryd.prog 59 := ⟨_, Tryd.func59, rfl, by kernel_rfl⟩
theorem Tryd.ok60 : FnOK Tryd.prog 60 := ⟨_, Tryd.func60, rfl, by kernel_rfl⟩
theorem Tryd.ok61 : FnOK Tryd.prog 61 := ⟨_, Tryd.func61, rfl, by kernel_rfl⟩
theorem Tryd.ok62 : FnOK Tryd.prog 62 := ⟨_, Tryd.func62, rfl, by kernel_rfl⟩
theorem Tryd.ok63 : FnOK Tryd.prog 63 := ⟨_, Tryd.func63, rfl, by kernel_rfl⟩
theorem Tryd.ok64 : FnOK Tryd.prog 64 := ⟨_, Tryd.func64, rfl, by kernel_rfl⟩
theorem Tryd.ok65 : FnOK Tryd.prog 65 := ⟨_, Tryd.func65, rfl, by kernel_rfl⟩
theorem Tryd.ok66 : FnOK Tryd.prog 66 := ⟨_, Tryd.func66, rfl, by kernel_rfl⟩
theorem Tryd.ok67 : FnOK Tryd.prog 67 := ⟨_, Tryd.func67, rfl, by kernel_rfl⟩
theorem Tryd.ok68 : FnOK Tryd.prog 68 := ⟨_, Tryd.func68, rfl, by kernel_rfl⟩
theorem Tryd.ok69 : FnOK Tryd.prog 69 := ⟨_, Tryd.func69, rfl, by kernel_rfl⟩
theorem Tryd.ok70 : FnOK Tryd.prog 70 := ⟨_, Tryd.func70, rfl, by kernel_rfl⟩
theorem Tryd.ok71 : FnOK Tryd.prog 71 := ⟨_, Tryd.func71, rfl, by kernel_rfl⟩
theorem Tryd.ok72 : FnOK Tryd.prog 72 := ⟨_, Tryd.func72, rfl, by kernel_rfl⟩
theorem Tryd.ok73 : FnOK Tryd.prog 73 := ⟨_, Tryd.func73, rfl, by kernel_rfl⟩
theorem Tryd.ok74 : FnOK Tryd.prog 74 := ⟨_, Tryd.func74, rfl, by kernel_rfl⟩
theorem Tryd.ok75 : FnOK Tryd.prog 75 := ⟨_, Tryd.func75, rfl, by kernel_rfl⟩
theorem Tryd.ok76 : FnOK Tryd.prog 76 := ⟨_, Tryd.func76, rfl, by kernel_rfl⟩
theorem Tryd.ok77 : FnOK Tryd.prog 77 := ⟨_, Tryd.func77, rfl, by kernel_rfl⟩
theorem Tryd.ok78 : FnOK Tryd.prog 78 := ⟨_, Tryd.func78, rfl, by kernel_rfl⟩
theorem Tryd.ok79 : FnOK Tryd.prog 79 := ⟨_, Tryd.func79, rfl, by kernel_rfl⟩
theorem Tryd.ok80 : FnOK Tryd.prog 80 := ⟨_, Tryd.func80, rfl, by kernel_rfl⟩
theorem Tryd.ok81 : FnOK Tryd.prog 81 := ⟨_, Tryd.func81, rfl, by kernel_rfl⟩
theorem Tryd.ok82 : FnOK Tryd.prog 82 := ⟨_, Tryd.func82, rfl, by kernel_rfl⟩
theorem Tryd.ok83 : FnOK Tryd.prog 83 := ⟨_, Tryd.func83, rfl, by kernel_rfl⟩
theorem Tryd.ok84 : FnOK Tryd.prog 84 := ⟨_, Tryd.func84, rfl, by kernel_rfl⟩
theorem Tryd.ok85 : FnOK Tryd.prog 85 := ⟨_, Tryd.func85, rfl, by kernel_rfl⟩
theorem Tryd.ok86 : FnOK Tryd.prog 86 := ⟨_, Tryd.func86, rfl, by kernel_rfl⟩
theorem Tryd.ok87 : FnOK Tryd.prog 87 := ⟨_, Tryd.func87, rfl, by kernel_rfl⟩
theorem Tryd.ok88 : FnOK Tryd.prog 88 := ⟨_, Tryd.func88, rfl, by kernel_rfl⟩
theorem Tryd.ok89 : FnOK Tryd.prog 89 := ⟨_, Tryd.func89, rfl, by kernel_rfl⟩
theorem Tryd.ok90 : FnOK Tryd.prog 90 := ⟨_, Tryd.func90, rfl, by kernel_rfl⟩
theorem Tryd.ok91 : FnOK Tryd.prog 91 := ⟨_, Tryd.func91, rfl, by kernel_rfl⟩
theorem Tryd.ok92 : FnOK Tryd.prog 92 := ⟨_, Tryd.func92, rfl, by kernel_rfl⟩
theorem Tryd.ok93 : FnOK Tryd.prog 93 := ⟨_, Tryd.func93, rfl, by kernel_rfl⟩
theorem Tryd.ok94 : FnOK Tryd.prog 94 := ⟨_, Tryd.func94, rfl, by kernel_rfl⟩
theorem Tryd.ok95 : FnOK Tryd.prog 95 := ⟨_, Tryd.func95, rfl, by kernel_rfl⟩
theorem Tryd.ok96 : FnOK Tryd.prog 96 := ⟨_, Tryd.func96, rfl, by kernel_rfl⟩
theorem Tryd.ok97 : FnOK Tryd.prog 97 := ⟨_, Tryd.func97, rfl, by kernel_rfl⟩
theorem Tryd.ok98 : FnOK Tryd.prog 98 := ⟨_, Tryd.func98, rfl, by kernel_rfl⟩
theorem Tryd.ok99 : FnOK Tryd.prog 99 := ⟨_, Tryd.func99, rfl, by kernel_rfl⟩
theorem Tryd.ok100 : FnOK Tryd.prog 100 := ⟨_, Tryd.func100, rfl, by kernel_rfl⟩
theorem Tryd.ok101 : FnOK Tryd.prog 101 := ⟨_, Tryd.func101, rfl, by kernel_rfl⟩
theorem Tryd.ok102 : FnOK Tryd.prog 102 := ⟨_, Tryd.func102, rfl, by kernel_rfl⟩
theorem Tryd.ok103 : FnOK Tryd.prog 103 := ⟨_, Tryd.func103, rfl, by kernel_rfl⟩
theorem Tryd.ok104 : FnOK Tryd.prog 104 := ⟨_, Tryd.func104, rfl, by kernel_rfl⟩
theorem Tryd.ok105 : FnOK Tryd.prog 105 := ⟨_, Tryd.func105, rfl, by kernel_rfl⟩
theorem Tryd.ok106 : FnOK Tryd.prog 106 := ⟨_, Tryd.func106, rfl, by kernel_rfl⟩
theorem Tryd.ok107 : FnOK Tryd.prog 107 := ⟨_, Tryd.func107, rfl, by kernel_rfl⟩
theorem Tryd.ok108 : FnOK Tryd.prog 108 := ⟨_, Tryd.func108, rfl, by kernel_rfl⟩
theorem Tryd.ok109 : FnOK Tryd.prog 109 := ⟨_, Tryd.func109, rfl, by kernel_rfl⟩
theorem Tryd.ok110 : FnOK Tryd.prog 110 := ⟨_, Tryd.func110, rfl, by kernel_rfl⟩
theorem Tryd.ok111 : FnOK Tryd.prog 111 := ⟨_, Tryd.func111, rfl, by kernel_rfl⟩
theorem Tryd.ok112 : FnOK Tryd.prog 112 := ⟨_, Tryd.func112, rfl, by kernel_rfl⟩
theorem Tryd.ok113 : FnOK Tryd.prog 113 := ⟨_, Tryd.func113, rfl, by kernel_rfl⟩
theorem Tryd.ok114 : FnOK Tryd.prog 114 := ⟨_, Tryd.func114, rfl, by kernel_rfl⟩
theorem Tryd.ok115 : FnOK Tryd.prog 115 := ⟨_, Tryd.func115, rfl, by kernel_rfl⟩
theorem Tryd.ok116 : FnOK Tryd.prog 116 := ⟨_, Tryd.func116, rfl, by kernel_rfl⟩
theorem Tryd.ok117 : FnOK Tryd.prog 117 := ⟨_, Tryd.func117, rfl, by kernel_rfl⟩
theorem Tryd.ok118 : FnOK Tryd.prog 118 := ⟨_, Tryd.func118, rfl, by kernel_rfl⟩
theorem Tryd.ok119 : FnOK Tryd.prog 119 := ⟨_, Tryd.func119, rfl, by kernel_rfl⟩
theorem Tryd.ok139 : FnOK Tryd.prog 139 := ⟨_, Tryd.func139, rfl, by kernel_rfl⟩
end Go.Proofs
