/- Closed facts on the program's types and functions, printed by a program of mine. No condition. -/
import Derived.Test.YtmieikflcolbaaaChecked
import Derived.Test.YtmieikflcolbaaaSyZ
namespace Go.Proofs
open Go Go.Sy
set_option maxRecDepth 100000
set_option linter.unusedSimpArgs false
set_option linter.unusedVariables false
theorem Try.mixed : Try.prog.follows .mixedOrders = true := Try.checked.mixed
theorem Try.sz0 : tySize Try.prog 0 = some 1 := by kernel_rfl
theorem Try.by0 : tyBytes Try.prog 0 = some 0 := by kernel_rfl
theorem Try.ag0 : tyAgg Try.prog 0 = some false := by kernel_rfl
theorem Try.ar0 : tyArr Try.prog 0 = none := by kernel_rfl
theorem Try.sz1 : tySize Try.prog 1 = some 1 := by kernel_rfl
theorem Try.by1 : tyBytes Try.prog 1 = some 8 := by kernel_rfl
theorem Try.ag1 : tyAgg Try.prog 1 = some false := by kernel_rfl
theorem Try.ze1 : tyZero Try.prog 1 = some [.nilFunc] := by kernel_rfl
theorem Try.ar1 : tyArr Try.prog 1 = none := by kernel_rfl
theorem Try.sz2 : tySize Try.prog 2 = some 1 := by kernel_rfl
theorem Try.by2 : tyBytes Try.prog 2 = some 8 := by kernel_rfl
theorem Try.ag2 : tyAgg Try.prog 2 = some false := by kernel_rfl
theorem Try.ze2 : tyZero Try.prog 2 = some [.int .i64 0] := by kernel_rfl
theorem Try.ar2 : tyArr Try.prog 2 = none := by kernel_rfl
theorem Try.sz3 : tySize Try.prog 3 = some 1 := by kernel_rfl
theorem Try.by3 : tyBytes Try.prog 3 = some 8 := by kernel_rfl
theorem Try.ag3 : tyAgg Try.prog 3 = some false := by kernel_rfl
theorem Try.ze3 : tyZero Try.prog 3 = some [.int .i64 0] := by kernel_rfl
theorem Try.ar3 : tyArr Try.prog 3 = none := by kernel_rfl
theorem Try.sz4 : tySize Try.prog 4 = some 1 := by kernel_rfl
theorem Try.by4 : tyBytes Try.prog 4 = some 1 := by kernel_rfl
theorem Try.ag4 : tyAgg Try.prog 4 = some false := by kernel_rfl
theorem Try.ze4 : tyZero Try.prog 4 = some [.bool false] := by kernel_rfl
theorem Try.ar4 : tyArr Try.prog 4 = none := by kernel_rfl
theorem Try.sz5 : tySize Try.prog 5 = some 1 := by kernel_rfl
theorem Try.by5 : tyBytes Try.prog 5 = some 1 := by kernel_rfl
theorem Try.ag5 : tyAgg Try.prog 5 = some false := by kernel_rfl
theorem Try.ze5 : tyZero Try.prog 5 = some [.int .u8 0] := by kernel_rfl
theorem Try.ar5 : tyArr Try.prog 5 = none := by kernel_rfl
theorem Try.sz6 : tySize Try.prog 6 = some 1 := by kernel_rfl
theorem Try.by6 : tyBytes Try.prog 6 = some 1 := by kernel_rfl
theorem Try.ag6 : tyAgg Try.prog 6 = some false := by kernel_rfl
theorem Try.ze6 : tyZero Try.prog 6 = some [.int .u8 0] := by kernel_rfl
theorem Try.ar6 : tyArr Try.prog 6 = none := by kernel_rfl
theorem Try.sz7 : tySize Try.prog 7 = some 4 := by kernel_rfl
theorem Try.by7 : tyBytes Try.prog 7 = some 24 := by kernel_rfl
theorem Try.ag7 : tyAgg Try.prog 7 = some true := by kernel_rfl
theorem Try.ze7 : tyZero Try.prog 7 = some [.int .i64 0, .int .i64 0, .bool false, .int .u8 0] := by kernel_rfl
theorem Try.fd7f0 : tyField Try.prog 7 0 = some (0, 1, false) := by kernel_rfl
theorem Try.fd7f1 : tyField Try.prog 7 1 = some (1, 1, false) := by kernel_rfl
theorem Try.fd7f2 : tyField Try.prog 7 2 = some (2, 1, false) := by kernel_rfl
theorem Try.fd7f3 : tyField Try.prog 7 3 = some (3, 1, false) := by kernel_rfl
theorem Try.pl7 : tyPlaces Try.prog 7 = some [(0, 1), (1, 1), (2, 1), (3, 1)] := by kernel_rfl
theorem Try.eq7 : tyEqA Try.prog 7 = some [true, true, false, true] := by kernel_rfl
theorem Try.ar7 : tyArr Try.prog 7 = none := by kernel_rfl
theorem Try.sz9 : tySize Try.prog 9 = some 1 := by kernel_rfl
theorem Try.by9 : tyBytes Try.prog 9 = some 16 := by kernel_rfl
theorem Try.ag9 : tyAgg Try.prog 9 = some false := by kernel_rfl
theorem Try.ze9 : tyZero Try.prog 9 = some [.string ⟨#[]⟩] := by kernel_rfl
theorem Try.ar9 : tyArr Try.prog 9 = none := by kernel_rfl
theorem Try.sz12 : tySize Try.prog 12 = some 1 := by kernel_rfl
theorem Try.by12 : tyBytes Try.prog 12 = some 8 := by kernel_rfl
theorem Try.ag12 : tyAgg Try.prog 12 = some false := by kernel_rfl
theorem Try.ze12 : tyZero Try.prog 12 = some [.int .u64 0] := by kernel_rfl
theorem Try.ar12 : tyArr Try.prog 12 = none := by kernel_rfl
theorem Try.sz13 : tySize Try.prog 13 = some 2 := by kernel_rfl
theorem Try.by13 : tyBytes Try.prog 13 = some 24 := by kernel_rfl
theorem Try.ag13 : tyAgg Try.prog 13 = some true := by kernel_rfl
theorem Try.ze13 : tyZero Try.prog 13 = some [.string ⟨#[]⟩, .int .u64 0] := by kernel_rfl
theorem Try.fd13f0 : tyField Try.prog 13 0 = some (0, 1, false) := by kernel_rfl
theorem Try.fd13f1 : tyField Try.prog 13 1 = some (1, 1, false) := by kernel_rfl
theorem Try.pl13 : tyPlaces Try.prog 13 = some [(0, 1), (1, 1)] := by kernel_rfl
theorem Try.ar13 : tyArr Try.prog 13 = none := by kernel_rfl
theorem Try.sz15 : tySize Try.prog 15 = some 1 := by kernel_rfl
theorem Try.by15 : tyBytes Try.prog 15 = some 8 := by kernel_rfl
theorem Try.ag15 : tyAgg Try.prog 15 = some false := by kernel_rfl
theorem Try.ze15 : tyZero Try.prog 15 = some [.pointer none] := by kernel_rfl
theorem Try.ar15 : tyArr Try.prog 15 = none := by kernel_rfl
theorem Try.sz16 : tySize Try.prog 16 = some 1 := by kernel_rfl
theorem Try.by16 : tyBytes Try.prog 16 = some 8 := by kernel_rfl
theorem Try.ag16 : tyAgg Try.prog 16 = some false := by kernel_rfl
theorem Try.ze16 : tyZero Try.prog 16 = some [.pointer none] := by kernel_rfl
theorem Try.ar16 : tyArr Try.prog 16 = none := by kernel_rfl
theorem Try.sz17 : tySize Try.prog 17 = some 1 := by kernel_rfl
theorem Try.by17 : tyBytes Try.prog 17 = some 8 := by kernel_rfl
theorem Try.ag17 : tyAgg Try.prog 17 = some false := by kernel_rfl
theorem Try.ze17 : tyZero Try.prog 17 = some [.pointer none] := by kernel_rfl
theorem Try.ar17 : tyArr Try.prog 17 = none := by kernel_rfl
theorem Try.sz18 : tySize Try.prog 18 = some 1 := by kernel_rfl
theorem Try.by18 : tyBytes Try.prog 18 = some 8 := by kernel_rfl
theorem Try.ag18 : tyAgg Try.prog 18 = some true := by kernel_rfl
theorem Try.ze18 : tyZero Try.prog 18 = some [.pointer none] := by kernel_rfl
theorem Try.fd18f0 : tyField Try.prog 18 0 = some (0, 1, false) := by kernel_rfl
theorem Try.pl18 : tyPlaces Try.prog 18 = some [(0, 1)] := by kernel_rfl
theorem Try.ar18 : tyArr Try.prog 18 = none := by kernel_rfl
theorem Try.sz20 : tySize Try.prog 20 = some 1 := by kernel_rfl
theorem Try.by20 : tyBytes Try.prog 20 = some 16 := by kernel_rfl
theorem Try.ag20 : tyAgg Try.prog 20 = some false := by kernel_rfl
theorem Try.ze20 : tyZero Try.prog 20 = some [.nilIface] := by kernel_rfl
theorem Try.ar20 : tyArr Try.prog 20 = none := by kernel_rfl
theorem Try.sz21 : tySize Try.prog 21 = some 1 := by kernel_rfl
theorem Try.by21 : tyBytes Try.prog 21 = some 4 := by kernel_rfl
theorem Try.ag21 : tyAgg Try.prog 21 = some false := by kernel_rfl
theorem Try.ze21 : tyZero Try.prog 21 = some [.int .i32 0] := by kernel_rfl
theorem Try.ar21 : tyArr Try.prog 21 = none := by kernel_rfl
theorem Try.sz22 : tySize Try.prog 22 = some 1 := by kernel_rfl
theorem Try.by22 : tyBytes Try.prog 22 = some 24 := by kernel_rfl
theorem Try.ag22 : tyAgg Try.prog 22 = some false := by kernel_rfl
theorem Try.ze22 : tyZero Try.prog 22 = some [.slice none 0 0] := by kernel_rfl
theorem Try.ar22 : tyArr Try.prog 22 = none := by kernel_rfl
theorem Try.sz23 : tySize Try.prog 23 = some 1 := by kernel_rfl
theorem Try.by23 : tyBytes Try.prog 23 = some 8 := by kernel_rfl
theorem Try.ag23 : tyAgg Try.prog 23 = some false := by kernel_rfl
theorem Try.ze23 : tyZero Try.prog 23 = some [.nilFunc] := by kernel_rfl
theorem Try.ar23 : tyArr Try.prog 23 = none := by kernel_rfl
theorem Try.sz24 : tySize Try.prog 24 = some 1 := by kernel_rfl
theorem Try.by24 : tyBytes Try.prog 24 = some 24 := by kernel_rfl
theorem Try.ag24 : tyAgg Try.prog 24 = some false := by kernel_rfl
theorem Try.ze24 : tyZero Try.prog 24 = some [.slice none 0 0] := by kernel_rfl
theorem Try.u824 : isU8 Try.prog 24 = true := by kernel_rfl
theorem Try.ar24 : tyArr Try.prog 24 = none := by kernel_rfl
theorem Try.sz25 : tySize Try.prog 25 = some 1 := by kernel_rfl
theorem Try.by25 : tyBytes Try.prog 25 = some 24 := by kernel_rfl
theorem Try.ag25 : tyAgg Try.prog 25 = some false := by kernel_rfl
theorem Try.ze25 : tyZero Try.prog 25 = some [.slice none 0 0] := by kernel_rfl
theorem Try.ar25 : tyArr Try.prog 25 = none := by kernel_rfl
theorem Try.sz26 : tySize Try.prog 26 = some 4 := by kernel_rfl
theorem Try.by26 : tyBytes Try.prog 26 = some 32 := by kernel_rfl
theorem Try.ag26 : tyAgg Try.prog 26 = some true := by kernel_rfl
theorem Try.ze26 : tyZero Try.prog 26 = some [.int .i64 0, .int .i64 0, .int .i64 0, .int .i64 0] := by kernel_rfl
theorem Try.fd26f0 : tyField Try.prog 26 0 = some (0, 1, false) := by kernel_rfl
theorem Try.fd26f1 : tyField Try.prog 26 1 = some (1, 1, false) := by kernel_rfl
theorem Try.fd26f2 : tyField Try.prog 26 2 = some (2, 1, false) := by kernel_rfl
theorem Try.fd26f3 : tyField Try.prog 26 3 = some (3, 1, false) := by kernel_rfl
theorem Try.pl26 : tyPlaces Try.prog 26 = some [(0, 1), (1, 1), (2, 1), (3, 1)] := by kernel_rfl
theorem Try.eq26 : tyEqA Try.prog 26 = some [true, true, true, true] := by kernel_rfl
theorem Try.ar26 : tyArr Try.prog 26 = none := by kernel_rfl
theorem Try.sz27 : tySize Try.prog 27 = some 4 := by kernel_rfl
theorem Try.by27 : tyBytes Try.prog 27 = some 32 := by kernel_rfl
theorem Try.ag27 : tyAgg Try.prog 27 = some true := by kernel_rfl
theorem Try.ze27 : tyZero Try.prog 27 = some [.int .i64 0, .int .i64 0, .int .i64 0, .int .i64 0] := by kernel_rfl
theorem Try.fd27f0 : tyField Try.prog 27 0 = some (0, 1, false) := by kernel_rfl
theorem Try.fd27f1 : tyField Try.prog 27 1 = some (1, 1, false) := by kernel_rfl
theorem Try.fd27f2 : tyField Try.prog 27 2 = some (2, 1, false) := by kernel_rfl
theorem Try.fd27f3 : tyField Try.prog 27 3 = some (3, 1, false) := by kernel_rfl
theorem Try.pl27 : tyPlaces Try.prog 27 = some [(0, 1), (1, 1), (2, 1), (3, 1)] := by kernel_rfl
theorem Try.eq27 : tyEqA Try.prog 27 = some [true, true, true, true] := by kernel_rfl
theorem Try.ar27 : tyArr Try.prog 27 = none := by kernel_rfl
theorem Try.sz28 : tySize Try.prog 28 = some 1 := by kernel_rfl
theorem Try.by28 : tyBytes Try.prog 28 = some 4 := by kernel_rfl
theorem Try.ag28 : tyAgg Try.prog 28 = some false := by kernel_rfl
theorem Try.ze28 : tyZero Try.prog 28 = some [.int .u32 0] := by kernel_rfl
theorem Try.ar28 : tyArr Try.prog 28 = none := by kernel_rfl
theorem Try.sz29 : tySize Try.prog 29 = some 1 := by kernel_rfl
theorem Try.by29 : tyBytes Try.prog 29 = some 4 := by kernel_rfl
theorem Try.ag29 : tyAgg Try.prog 29 = some false := by kernel_rfl
theorem Try.ze29 : tyZero Try.prog 29 = some [.int .u32 0] := by kernel_rfl
theorem Try.ar29 : tyArr Try.prog 29 = none := by kernel_rfl
theorem Try.sz30 : tySize Try.prog 30 = some 2 := by kernel_rfl
theorem Try.by30 : tyBytes Try.prog 30 = some 8 := by kernel_rfl
theorem Try.ag30 : tyAgg Try.prog 30 = some true := by kernel_rfl
theorem Try.ze30 : tyZero Try.prog 30 = some [.int .u32 0, .int .u32 0] := by kernel_rfl
theorem Try.fd30f0 : tyField Try.prog 30 0 = some (0, 1, false) := by kernel_rfl
theorem Try.fd30f1 : tyField Try.prog 30 1 = some (1, 1, false) := by kernel_rfl
theorem Try.pl30 : tyPlaces Try.prog 30 = some [(0, 1), (1, 1)] := by kernel_rfl
theorem Try.eq30 : tyEqA Try.prog 30 = some [true, true] := by kernel_rfl
theorem Try.ar30 : tyArr Try.prog 30 = none := by kernel_rfl
theorem Try.sz31 : tySize Try.prog 31 = some 2 := by kernel_rfl
theorem Try.by31 : tyBytes Try.prog 31 = some 8 := by kernel_rfl
theorem Try.ag31 : tyAgg Try.prog 31 = some true := by kernel_rfl
theorem Try.ze31 : tyZero Try.prog 31 = some [.int .u32 0, .int .u32 0] := by kernel_rfl
theorem Try.fd31f0 : tyField Try.prog 31 0 = some (0, 1, false) := by kernel_rfl
theorem Try.fd31f1 : tyField Try.prog 31 1 = some (1, 1, false) := by kernel_rfl
theorem Try.pl31 : tyPlaces Try.prog 31 = some [(0, 1), (1, 1)] := by kernel_rfl
theorem Try.eq31 : tyEqA Try.prog 31 = some [true, true] := by kernel_rfl
theorem Try.ar31 : tyArr Try.prog 31 = none := by kernel_rfl
theorem Try.sz32 : tySize Try.prog 32 = some 14 := by kernel_rfl
theorem Try.by32 : tyBytes Try.prog 32 = some 120 := by kernel_rfl
theorem Try.ag32 : tyAgg Try.prog 32 = some true := by kernel_rfl
theorem Try.ze32 : tyZero Try.prog 32 = some [.int .i64 0, .int .i64 0, .int .i64 0, .int .i64 0, .bool false, .slice none 0 0, .int .i64 0, .int .i64 0, .int .i64 0, .int .i64 0, .int .i64 0, .int .i64 0, .int .u32 0, .int .u32 0] := by kernel_rfl
theorem Try.fd32f0 : tyField Try.prog 32 0 = some (0, 1, false) := by kernel_rfl
theorem Try.fd32f1 : tyField Try.prog 32 1 = some (1, 1, false) := by kernel_rfl
theorem Try.fd32f2 : tyField Try.prog 32 2 = some (2, 1, false) := by kernel_rfl
theorem Try.fd32f3 : tyField Try.prog 32 3 = some (3, 1, false) := by kernel_rfl
theorem Try.fd32f4 : tyField Try.prog 32 4 = some (4, 1, false) := by kernel_rfl
theorem Try.fd32f5 : tyField Try.prog 32 5 = some (5, 1, false) := by kernel_rfl
theorem Try.fd32f6 : tyField Try.prog 32 6 = some (6, 1, false) := by kernel_rfl
theorem Try.fd32f7 : tyField Try.prog 32 7 = some (7, 1, false) := by kernel_rfl
theorem Try.fd32f8 : tyField Try.prog 32 8 = some (8, 4, true) := by kernel_rfl
theorem Try.fd32f9 : tyField Try.prog 32 9 = some (12, 2, true) := by kernel_rfl
theorem Try.pl32 : tyPlaces Try.prog 32 = some [(0, 1), (1, 1), (2, 1), (3, 1), (4, 1), (5, 1), (6, 1), (7, 1), (8, 4), (12, 2)] := by kernel_rfl
theorem Try.ar32 : tyArr Try.prog 32 = none := by kernel_rfl
theorem Try.sz33 : tySize Try.prog 33 = some 14 := by kernel_rfl
theorem Try.by33 : tyBytes Try.prog 33 = some 120 := by kernel_rfl
theorem Try.ag33 : tyAgg Try.prog 33 = some true := by kernel_rfl
theorem Try.ze33 : tyZero Try.prog 33 = some [.int .i64 0, .int .i64 0, .int .i64 0, .int .i64 0, .bool false, .slice none 0 0, .int .i64 0, .int .i64 0, .int .i64 0, .int .i64 0, .int .i64 0, .int .i64 0, .int .u32 0, .int .u32 0] := by kernel_rfl
theorem Try.fd33f0 : tyField Try.prog 33 0 = some (0, 1, false) := by kernel_rfl
theorem Try.fd33f1 : tyField Try.prog 33 1 = some (1, 1, false) := by kernel_rfl
theorem Try.fd33f2 : tyField Try.prog 33 2 = some (2, 1, false) := by kernel_rfl
theorem Try.fd33f3 : tyField Try.prog 33 3 = some (3, 1, false) := by kernel_rfl
theorem Try.fd33f4 : tyField Try.prog 33 4 = some (4, 1, false) := by kernel_rfl
theorem Try.fd33f5 : tyField Try.prog 33 5 = some (5, 1, false) := by kernel_rfl
theorem Try.fd33f6 : tyField Try.prog 33 6 = some (6, 1, false) := by kernel_rfl
theorem Try.fd33f7 : tyField Try.prog 33 7 = some (7, 1, false) := by kernel_rfl
theorem Try.fd33f8 : tyField Try.prog 33 8 = some (8, 4, true) := by kernel_rfl
theorem Try.fd33f9 : tyField Try.prog 33 9 = some (12, 2, true) := by kernel_rfl
theorem Try.pl33 : tyPlaces Try.prog 33 = some [(0, 1), (1, 1), (2, 1), (3, 1), (4, 1), (5, 1), (6, 1), (7, 1), (8, 4), (12, 2)] := by kernel_rfl
theorem Try.ar33 : tyArr Try.prog 33 = none := by kernel_rfl
theorem Try.sz34 : tySize Try.prog 34 = some 13 := by kernel_rfl
theorem Try.by34 : tyBytes Try.prog 34 = some 112 := by kernel_rfl
theorem Try.ag34 : tyAgg Try.prog 34 = some true := by kernel_rfl
theorem Try.ze34 : tyZero Try.prog 34 = some [.int .i64 0, .int .i64 0, .int .i64 0, .int .i64 0, .int .i64 0, .int .i64 0, .int .i64 0, .int .i64 0, .int .i64 0, .int .u32 0, .int .u32 0, .int .u32 0, .slice none 0 0] := by kernel_rfl
theorem Try.fd34f0 : tyField Try.prog 34 0 = some (0, 1, false) := by kernel_rfl
theorem Try.fd34f1 : tyField Try.prog 34 1 = some (1, 1, false) := by kernel_rfl
theorem Try.fd34f2 : tyField Try.prog 34 2 = some (2, 1, false) := by kernel_rfl
theorem Try.fd34f3 : tyField Try.prog 34 3 = some (3, 1, false) := by kernel_rfl
theorem Try.fd34f4 : tyField Try.prog 34 4 = some (4, 1, false) := by kernel_rfl
theorem Try.fd34f5 : tyField Try.prog 34 5 = some (5, 1, false) := by kernel_rfl
theorem Try.fd34f6 : tyField Try.prog 34 6 = some (6, 1, false) := by kernel_rfl
theorem Try.fd34f7 : tyField Try.prog 34 7 = some (7, 1, false) := by kernel_rfl
theorem Try.fd34f8 : tyField Try.prog 34 8 = some (8, 1, false) := by kernel_rfl
theorem Try.fd34f9 : tyField Try.prog 34 9 = some (9, 2, true) := by kernel_rfl
theorem Try.fd34f10 : tyField Try.prog 34 10 = some (11, 1, false) := by kernel_rfl
theorem Try.fd34f11 : tyField Try.prog 34 11 = some (12, 1, false) := by kernel_rfl
theorem Try.pl34 : tyPlaces Try.prog 34 = some [(0, 1), (1, 1), (2, 1), (3, 1), (4, 1), (5, 1), (6, 1), (7, 1), (8, 1), (9, 2), (11, 1), (12, 1)] := by kernel_rfl
theorem Try.ar34 : tyArr Try.prog 34 = none := by kernel_rfl
theorem Try.sz35 : tySize Try.prog 35 = some 13 := by kernel_rfl
theorem Try.by35 : tyBytes Try.prog 35 = some 112 := by kernel_rfl
theorem Try.ag35 : tyAgg Try.prog 35 = some true := by kernel_rfl
theorem Try.ze35 : tyZero Try.prog 35 = some [.int .i64 0, .int .i64 0, .int .i64 0, .int .i64 0, .int .i64 0, .int .i64 0, .int .i64 0, .int .i64 0, .int .i64 0, .int .u32 0, .int .u32 0, .int .u32 0, .slice none 0 0] := by kernel_rfl
theorem Try.fd35f0 : tyField Try.prog 35 0 = some (0, 1, false) := by kernel_rfl
theorem Try.fd35f1 : tyField Try.prog 35 1 = some (1, 1, false) := by kernel_rfl
theorem Try.fd35f2 : tyField Try.prog 35 2 = some (2, 1, false) := by kernel_rfl
theorem Try.fd35f3 : tyField Try.prog 35 3 = some (3, 1, false) := by kernel_rfl
theorem Try.fd35f4 : tyField Try.prog 35 4 = some (4, 1, false) := by kernel_rfl
theorem Try.fd35f5 : tyField Try.prog 35 5 = some (5, 1, false) := by kernel_rfl
theorem Try.fd35f6 : tyField Try.prog 35 6 = some (6, 1, false) := by kernel_rfl
theorem Try.fd35f7 : tyField Try.prog 35 7 = some (7, 1, false) := by kernel_rfl
theorem Try.fd35f8 : tyField Try.prog 35 8 = some (8, 1, false) := by kernel_rfl
theorem Try.fd35f9 : tyField Try.prog 35 9 = some (9, 2, true) := by kernel_rfl
theorem Try.fd35f10 : tyField Try.prog 35 10 = some (11, 1, false) := by kernel_rfl
theorem Try.fd35f11 : tyField Try.prog 35 11 = some (12, 1, false) := by kernel_rfl
theorem Try.pl35 : tyPlaces Try.prog 35 = some [(0, 1), (1, 1), (2, 1), (3, 1), (4, 1), (5, 1), (6, 1), (7, 1), (8, 1), (9, 2), (11, 1), (12, 1)] := by kernel_rfl
theorem Try.ar35 : tyArr Try.prog 35 = none := by kernel_rfl
theorem Try.sz36 : tySize Try.prog 36 = some 29 := by kernel_rfl
theorem Try.by36 : tyBytes Try.prog 36 = some 248 := by kernel_rfl
theorem Try.ag36 : tyAgg Try.prog 36 = some true := by kernel_rfl
theorem Try.ze36 : tyZero Try.prog 36 = some [.int .i64 0, .int .i64 0, .int .i64 0, .int .i64 0, .int .i64 0, .bool false, .slice none 0 0, .int .i64 0, .int .i64 0, .int .i64 0, .int .i64 0, .int .i64 0, .int .i64 0, .int .u32 0, .int .u32 0, .int .i64 0, .int .i64 0, .int .i64 0, .int .i64 0, .int .i64 0, .int .i64 0, .int .i64 0, .int .i64 0, .int .i64 0, .int .u32 0, .int .u32 0, .int .u32 0, .slice none 0 0, .int .i64 0] := by kernel_rfl
theorem Try.fd36f0 : tyField Try.prog 36 0 = some (0, 1, false) := by kernel_rfl
theorem Try.fd36f1 : tyField Try.prog 36 1 = some (1, 14, true) := by kernel_rfl
theorem Try.fd36f2 : tyField Try.prog 36 2 = some (15, 13, true) := by kernel_rfl
theorem Try.fd36f3 : tyField Try.prog 36 3 = some (28, 1, false) := by kernel_rfl
theorem Try.pl36 : tyPlaces Try.prog 36 = some [(0, 1), (1, 14), (15, 13), (28, 1)] := by kernel_rfl
theorem Try.ar36 : tyArr Try.prog 36 = none := by kernel_rfl
theorem Try.sz37 : tySize Try.prog 37 = some 29 := by kernel_rfl
theorem Try.by37 : tyBytes Try.prog 37 = some 248 := by kernel_rfl
theorem Try.ag37 : tyAgg Try.prog 37 = some true := by kernel_rfl
theorem Try.ze37 : tyZero Try.prog 37 = some [.int .i64 0, .int .i64 0, .int .i64 0, .int .i64 0, .int .i64 0, .bool false, .slice none 0 0, .int .i64 0, .int .i64 0, .int .i64 0, .int .i64 0, .int .i64 0, .int .i64 0, .int .u32 0, .int .u32 0, .int .i64 0, .int .i64 0, .int .i64 0, .int .i64 0, .int .i64 0, .int .i64 0, .int .i64 0, .int .i64 0, .int .i64 0, .int .u32 0, .int .u32 0, .int .u32 0, .slice none 0 0, .int .i64 0] := by kernel_rfl
theorem Try.fd37f0 : tyField Try.prog 37 0 = some (0, 1, false) := by kernel_rfl
theorem Try.fd37f1 : tyField Try.prog 37 1 = some (1, 14, true) := by kernel_rfl
theorem Try.fd37f2 : tyField Try.prog 37 2 = some (15, 13, true) := by kernel_rfl
theorem Try.fd37f3 : tyField Try.prog 37 3 = some (28, 1, false) := by kernel_rfl
theorem Try.pl37 : tyPlaces Try.prog 37 = some [(0, 1), (1, 14), (15, 13), (28, 1)] := by kernel_rfl
theorem Try.ar37 : tyArr Try.prog 37 = none := by kernel_rfl
theorem Try.sz38 : tySize Try.prog 38 = some 1 := by kernel_rfl
theorem Try.by38 : tyBytes Try.prog 38 = some 8 := by kernel_rfl
theorem Try.ag38 : tyAgg Try.prog 38 = some false := by kernel_rfl
theorem Try.ze38 : tyZero Try.prog 38 = some [.int .i64 0] := by kernel_rfl
theorem Try.ar38 : tyArr Try.prog 38 = none := by kernel_rfl
theorem Try.sz39 : tySize Try.prog 39 = some 1 := by kernel_rfl
theorem Try.by39 : tyBytes Try.prog 39 = some 0 := by kernel_rfl
theorem Try.ag39 : tyAgg Try.prog 39 = some false := by kernel_rfl
theorem Try.ar39 : tyArr Try.prog 39 = none := by kernel_rfl
theorem Try.sz40 : tySize Try.prog 40 = some 1 := by kernel_rfl
theorem Try.by40 : tyBytes Try.prog 40 = some 8 := by kernel_rfl
theorem Try.ag40 : tyAgg Try.prog 40 = some false := by kernel_rfl
theorem Try.ze40 : tyZero Try.prog 40 = some [.nilFunc] := by kernel_rfl
theorem Try.ar40 : tyArr Try.prog 40 = none := by kernel_rfl
theorem Try.sz41 : tySize Try.prog 41 = some 1 := by kernel_rfl
theorem Try.by41 : tyBytes Try.prog 41 = some 8 := by kernel_rfl
theorem Try.ag41 : tyAgg Try.prog 41 = some false := by kernel_rfl
theorem Try.ze41 : tyZero Try.prog 41 = some [.nilFunc] := by kernel_rfl
theorem Try.ar41 : tyArr Try.prog 41 = none := by kernel_rfl
theorem Try.sz42 : tySize Try.prog 42 = some 1 := by kernel_rfl
theorem Try.by42 : tyBytes Try.prog 42 = some 8 := by kernel_rfl
theorem Try.ag42 : tyAgg Try.prog 42 = some false := by kernel_rfl
theorem Try.ze42 : tyZero Try.prog 42 = some [.nilFunc] := by kernel_rfl
theorem Try.ar42 : tyArr Try.prog 42 = none := by kernel_rfl
theorem Try.sz43 : tySize Try.prog 43 = some 1 := by kernel_rfl
theorem Try.by43 : tyBytes Try.prog 43 = some 8 := by kernel_rfl
theorem Try.ag43 : tyAgg Try.prog 43 = some false := by kernel_rfl
theorem Try.ze43 : tyZero Try.prog 43 = some [.nilFunc] := by kernel_rfl
theorem Try.ar43 : tyArr Try.prog 43 = none := by kernel_rfl
theorem Try.sz44 : tySize Try.prog 44 = some 1 := by kernel_rfl
theorem Try.by44 : tyBytes Try.prog 44 = some 0 := by kernel_rfl
theorem Try.ag44 : tyAgg Try.prog 44 = some false := by kernel_rfl
theorem Try.ar44 : tyArr Try.prog 44 = none := by kernel_rfl
theorem Try.sz45 : tySize Try.prog 45 = some 1 := by kernel_rfl
theorem Try.by45 : tyBytes Try.prog 45 = some 8 := by kernel_rfl
theorem Try.ag45 : tyAgg Try.prog 45 = some false := by kernel_rfl
theorem Try.ze45 : tyZero Try.prog 45 = some [.nilFunc] := by kernel_rfl
theorem Try.ar45 : tyArr Try.prog 45 = none := by kernel_rfl
theorem Try.sz46 : tySize Try.prog 46 = some 1 := by kernel_rfl
theorem Try.by46 : tyBytes Try.prog 46 = some 8 := by kernel_rfl
theorem Try.ag46 : tyAgg Try.prog 46 = some false := by kernel_rfl
theorem Try.ze46 : tyZero Try.prog 46 = some [.nilFunc] := by kernel_rfl
theorem Try.ar46 : tyArr Try.prog 46 = none := by kernel_rfl
theorem Try.sz47 : tySize Try.prog 47 = some 1 := by kernel_rfl
theorem Try.by47 : tyBytes Try.prog 47 = some 24 := by kernel_rfl
theorem Try.ag47 : tyAgg Try.prog 47 = some false := by kernel_rfl
theorem Try.ze47 : tyZero Try.prog 47 = some [.slice none 0 0] := by kernel_rfl
theorem Try.ar47 : tyArr Try.prog 47 = none := by kernel_rfl
theorem Try.sz48 : tySize Try.prog 48 = some 1 := by kernel_rfl
theorem Try.by48 : tyBytes Try.prog 48 = some 8 := by kernel_rfl
theorem Try.ag48 : tyAgg Try.prog 48 = some false := by kernel_rfl
theorem Try.ze48 : tyZero Try.prog 48 = some [.nilFunc] := by kernel_rfl
theorem Try.ar48 : tyArr Try.prog 48 = none := by kernel_rfl
theorem Try.sz49 : tySize Try.prog 49 = some 1 := by kernel_rfl
theorem Try.by49 : tyBytes Try.prog 49 = some 8 := by kernel_rfl
theorem Try.ag49 : tyAgg Try.prog 49 = some false := by kernel_rfl
theorem Try.ze49 : tyZero Try.prog 49 = some [.nilFunc] := by kernel_rfl
theorem Try.ar49 : tyArr Try.prog 49 = none := by kernel_rfl
theorem Try.sz50 : tySize Try.prog 50 = some 1 := by kernel_rfl
theorem Try.by50 : tyBytes Try.prog 50 = some 8 := by kernel_rfl
theorem Try.ag50 : tyAgg Try.prog 50 = some false := by kernel_rfl
theorem Try.ze50 : tyZero Try.prog 50 = some [.nilFunc] := by kernel_rfl
theorem Try.ar50 : tyArr Try.prog 50 = none := by kernel_rfl
theorem Try.sz51 : tySize Try.prog 51 = some 1 := by kernel_rfl
theorem Try.by51 : tyBytes Try.prog 51 = some 8 := by kernel_rfl
theorem Try.ag51 : tyAgg Try.prog 51 = some false := by kernel_rfl
theorem Try.ze51 : tyZero Try.prog 51 = some [.nilFunc] := by kernel_rfl
theorem Try.ar51 : tyArr Try.prog 51 = none := by kernel_rfl
theorem Try.sz52 : tySize Try.prog 52 = some 1 := by kernel_rfl
theorem Try.by52 : tyBytes Try.prog 52 = some 8 := by kernel_rfl
theorem Try.ag52 : tyAgg Try.prog 52 = some false := by kernel_rfl
theorem Try.ze52 : tyZero Try.prog 52 = some [.nilFunc] := by kernel_rfl
theorem Try.ar52 : tyArr Try.prog 52 = none := by kernel_rfl
theorem Try.sz53 : tySize Try.prog 53 = some 1 := by kernel_rfl
theorem Try.by53 : tyBytes Try.prog 53 = some 0 := by kernel_rfl
theorem Try.ag53 : tyAgg Try.prog 53 = some false := by kernel_rfl
theorem Try.ar53 : tyArr Try.prog 53 = none := by kernel_rfl
theorem Try.sz54 : tySize Try.prog 54 = some 1 := by kernel_rfl
theorem Try.by54 : tyBytes Try.prog 54 = some 8 := by kernel_rfl
theorem Try.ag54 : tyAgg Try.prog 54 = some false := by kernel_rfl
theorem Try.ze54 : tyZero Try.prog 54 = some [.nilFunc] := by kernel_rfl
theorem Try.ar54 : tyArr Try.prog 54 = none := by kernel_rfl
theorem Try.sz55 : tySize Try.prog 55 = some 1 := by kernel_rfl
theorem Try.by55 : tyBytes Try.prog 55 = some 0 := by kernel_rfl
theorem Try.ag55 : tyAgg Try.prog 55 = some false := by kernel_rfl
theorem Try.ar55 : tyArr Try.prog 55 = none := by kernel_rfl
theorem Try.sz56 : tySize Try.prog 56 = some 1 := by kernel_rfl
theorem Try.by56 : tyBytes Try.prog 56 = some 8 := by kernel_rfl
theorem Try.ag56 : tyAgg Try.prog 56 = some false := by kernel_rfl
theorem Try.ze56 : tyZero Try.prog 56 = some [.nilFunc] := by kernel_rfl
theorem Try.ar56 : tyArr Try.prog 56 = none := by kernel_rfl
theorem Try.sz57 : tySize Try.prog 57 = some 1 := by kernel_rfl
theorem Try.by57 : tyBytes Try.prog 57 = some 8 := by kernel_rfl
theorem Try.ag57 : tyAgg Try.prog 57 = some false := by kernel_rfl
theorem Try.ze57 : tyZero Try.prog 57 = some [.nilFunc] := by kernel_rfl
theorem Try.ar57 : tyArr Try.prog 57 = none := by kernel_rfl
theorem Try.sz58 : tySize Try.prog 58 = some 1 := by kernel_rfl
theorem Try.by58 : tyBytes Try.prog 58 = some 8 := by kernel_rfl
theorem Try.ag58 : tyAgg Try.prog 58 = some false := by kernel_rfl
theorem Try.ze58 : tyZero Try.prog 58 = some [.nilFunc] := by kernel_rfl
theorem Try.ar58 : tyArr Try.prog 58 = none := by kernel_rfl
theorem Try.sz59 : tySize Try.prog 59 = some 1 := by kernel_rfl
theorem Try.by59 : tyBytes Try.prog 59 = some 8 := by kernel_rfl
theorem Try.ag59 : tyAgg Try.prog 59 = some false := by kernel_rfl
theorem Try.ze59 : tyZero Try.prog 59 = some [.int .u64 0] := by kernel_rfl
theorem Try.ar59 : tyArr Try.prog 59 = none := by kernel_rfl
theorem Try.sz60 : tySize Try.prog 60 = some 1 := by kernel_rfl
theorem Try.by60 : tyBytes Try.prog 60 = some 8 := by kernel_rfl
theorem Try.ag60 : tyAgg Try.prog 60 = some false := by kernel_rfl
theorem Try.ze60 : tyZero Try.prog 60 = some [.nilFunc] := by kernel_rfl
theorem Try.ar60 : tyArr Try.prog 60 = none := by kernel_rfl
theorem Try.sz61 : tySize Try.prog 61 = some 1 := by kernel_rfl
theorem Try.by61 : tyBytes Try.prog 61 = some 8 := by kernel_rfl
theorem Try.ag61 : tyAgg Try.prog 61 = some false := by kernel_rfl
theorem Try.ze61 : tyZero Try.prog 61 = some [.nilFunc] := by kernel_rfl
theorem Try.ar61 : tyArr Try.prog 61 = none := by kernel_rfl
theorem Try.sz62 : tySize Try.prog 62 = some 1 := by kernel_rfl
theorem Try.by62 : tyBytes Try.prog 62 = some 8 := by kernel_rfl
theorem Try.ag62 : tyAgg Try.prog 62 = some false := by kernel_rfl
theorem Try.ze62 : tyZero Try.prog 62 = some [.pointer none] := by kernel_rfl
theorem Try.ar62 : tyArr Try.prog 62 = none := by kernel_rfl
theorem Try.sz63 : tySize Try.prog 63 = some 1 := by kernel_rfl
theorem Try.by63 : tyBytes Try.prog 63 = some 8 := by kernel_rfl
theorem Try.ag63 : tyAgg Try.prog 63 = some false := by kernel_rfl
theorem Try.ze63 : tyZero Try.prog 63 = some [.nilFunc] := by kernel_rfl
theorem Try.ar63 : tyArr Try.prog 63 = none := by kernel_rfl
theorem Try.sz64 : tySize Try.prog 64 = some 3 := by kernel_rfl
theorem Try.by64 : tyBytes Try.prog 64 = some 40 := by kernel_rfl
theorem Try.ag64 : tyAgg Try.prog 64 = some true := by kernel_rfl
theorem Try.ze64 : tyZero Try.prog 64 = some [.pointer none, .slice none 0 0, .bool false] := by kernel_rfl
theorem Try.fd64f0 : tyField Try.prog 64 0 = some (0, 1, false) := by kernel_rfl
theorem Try.fd64f1 : tyField Try.prog 64 1 = some (1, 1, false) := by kernel_rfl
theorem Try.fd64f2 : tyField Try.prog 64 2 = some (2, 1, false) := by kernel_rfl
theorem Try.pl64 : tyPlaces Try.prog 64 = some [(0, 1), (1, 1), (2, 1)] := by kernel_rfl
theorem Try.ar64 : tyArr Try.prog 64 = none := by kernel_rfl
theorem Try.sz65 : tySize Try.prog 65 = some 3 := by kernel_rfl
theorem Try.by65 : tyBytes Try.prog 65 = some 40 := by kernel_rfl
theorem Try.ag65 : tyAgg Try.prog 65 = some true := by kernel_rfl
theorem Try.ze65 : tyZero Try.prog 65 = some [.pointer none, .slice none 0 0, .bool false] := by kernel_rfl
theorem Try.fd65f0 : tyField Try.prog 65 0 = some (0, 1, false) := by kernel_rfl
theorem Try.fd65f1 : tyField Try.prog 65 1 = some (1, 1, false) := by kernel_rfl
theorem Try.fd65f2 : tyField Try.prog 65 2 = some (2, 1, false) := by kernel_rfl
theorem Try.pl65 : tyPlaces Try.prog 65 = some [(0, 1), (1, 1), (2, 1)] := by kernel_rfl
theorem Try.ar65 : tyArr Try.prog 65 = none := by kernel_rfl
theorem Try.sz66 : tySize Try.prog 66 = some 1 := by kernel_rfl
theorem Try.by66 : tyBytes Try.prog 66 = some 8 := by kernel_rfl
theorem Try.ag66 : tyAgg Try.prog 66 = some false := by kernel_rfl
theorem Try.ze66 : tyZero Try.prog 66 = some [.nilFunc] := by kernel_rfl
theorem Try.ar66 : tyArr Try.prog 66 = none := by kernel_rfl
theorem Try.sz67 : tySize Try.prog 67 = some 1 := by kernel_rfl
theorem Try.by67 : tyBytes Try.prog 67 = some 8 := by kernel_rfl
theorem Try.ag67 : tyAgg Try.prog 67 = some false := by kernel_rfl
theorem Try.ze67 : tyZero Try.prog 67 = some [.pointer none] := by kernel_rfl
theorem Try.ar67 : tyArr Try.prog 67 = none := by kernel_rfl
theorem Try.sz68 : tySize Try.prog 68 = some 1 := by kernel_rfl
theorem Try.by68 : tyBytes Try.prog 68 = some 8 := by kernel_rfl
theorem Try.ag68 : tyAgg Try.prog 68 = some false := by kernel_rfl
theorem Try.ze68 : tyZero Try.prog 68 = some [.nilFunc] := by kernel_rfl
theorem Try.ar68 : tyArr Try.prog 68 = none := by kernel_rfl
theorem Try.sz69 : tySize Try.prog 69 = some 1 := by kernel_rfl
theorem Try.by69 : tyBytes Try.prog 69 = some 8 := by kernel_rfl
theorem Try.ag69 : tyAgg Try.prog 69 = some false := by kernel_rfl
theorem Try.ze69 : tyZero Try.prog 69 = some [.nilFunc] := by kernel_rfl
theorem Try.ar69 : tyArr Try.prog 69 = none := by kernel_rfl
theorem Try.sz70 : tySize Try.prog 70 = some 1 := by kernel_rfl
theorem Try.by70 : tyBytes Try.prog 70 = some 8 := by kernel_rfl
theorem Try.ag70 : tyAgg Try.prog 70 = some false := by kernel_rfl
theorem Try.ze70 : tyZero Try.prog 70 = some [.pointer none] := by kernel_rfl
theorem Try.ar70 : tyArr Try.prog 70 = none := by kernel_rfl
theorem Try.sz71 : tySize Try.prog 71 = some 2 := by kernel_rfl
theorem Try.by71 : tyBytes Try.prog 71 = some 32 := by kernel_rfl
theorem Try.ag71 : tyAgg Try.prog 71 = some true := by kernel_rfl
theorem Try.ze71 : tyZero Try.prog 71 = some [.slice none 0 0, .int .i64 0] := by kernel_rfl
theorem Try.fd71f0 : tyField Try.prog 71 0 = some (0, 1, false) := by kernel_rfl
theorem Try.fd71f1 : tyField Try.prog 71 1 = some (1, 1, false) := by kernel_rfl
theorem Try.pl71 : tyPlaces Try.prog 71 = some [(0, 1), (1, 1)] := by kernel_rfl
theorem Try.ar71 : tyArr Try.prog 71 = none := by kernel_rfl
theorem Try.sz72 : tySize Try.prog 72 = some 2 := by kernel_rfl
theorem Try.by72 : tyBytes Try.prog 72 = some 32 := by kernel_rfl
theorem Try.ag72 : tyAgg Try.prog 72 = some true := by kernel_rfl
theorem Try.ze72 : tyZero Try.prog 72 = some [.slice none 0 0, .int .i64 0] := by kernel_rfl
theorem Try.fd72f0 : tyField Try.prog 72 0 = some (0, 1, false) := by kernel_rfl
theorem Try.fd72f1 : tyField Try.prog 72 1 = some (1, 1, false) := by kernel_rfl
theorem Try.pl72 : tyPlaces Try.prog 72 = some [(0, 1), (1, 1)] := by kernel_rfl
theorem Try.ar72 : tyArr Try.prog 72 = none := by kernel_rfl
theorem Try.sz73 : tySize Try.prog 73 = some 1 := by kernel_rfl
theorem Try.by73 : tyBytes Try.prog 73 = some 8 := by kernel_rfl
theorem Try.ag73 : tyAgg Try.prog 73 = some false := by kernel_rfl
theorem Try.ze73 : tyZero Try.prog 73 = some [.nilFunc] := by kernel_rfl
theorem Try.ar73 : tyArr Try.prog 73 = none := by kernel_rfl
theorem Try.sz74 : tySize Try.prog 74 = some 1 := by kernel_rfl
theorem Try.by74 : tyBytes Try.prog 74 = some 8 := by kernel_rfl
theorem Try.ag74 : tyAgg Try.prog 74 = some false := by kernel_rfl
theorem Try.ze74 : tyZero Try.prog 74 = some [.nilFunc] := by kernel_rfl
theorem Try.ar74 : tyArr Try.prog 74 = none := by kernel_rfl
theorem Try.sz75 : tySize Try.prog 75 = some 1 := by kernel_rfl
theorem Try.by75 : tyBytes Try.prog 75 = some 8 := by kernel_rfl
theorem Try.ag75 : tyAgg Try.prog 75 = some false := by kernel_rfl
theorem Try.ze75 : tyZero Try.prog 75 = some [.nilFunc] := by kernel_rfl
theorem Try.ar75 : tyArr Try.prog 75 = none := by kernel_rfl
theorem Try.sz76 : tySize Try.prog 76 = some 1 := by kernel_rfl
theorem Try.by76 : tyBytes Try.prog 76 = some 8 := by kernel_rfl
theorem Try.ag76 : tyAgg Try.prog 76 = some false := by kernel_rfl
theorem Try.ze76 : tyZero Try.prog 76 = some [.nilFunc] := by kernel_rfl
theorem Try.ar76 : tyArr Try.prog 76 = none := by kernel_rfl
theorem Try.sz77 : tySize Try.prog 77 = some 1 := by kernel_rfl
theorem Try.by77 : tyBytes Try.prog 77 = some 0 := by kernel_rfl
theorem Try.ag77 : tyAgg Try.prog 77 = some false := by kernel_rfl
theorem Try.ar77 : tyArr Try.prog 77 = none := by kernel_rfl
theorem Try.sz78 : tySize Try.prog 78 = some 1 := by kernel_rfl
theorem Try.by78 : tyBytes Try.prog 78 = some 8 := by kernel_rfl
theorem Try.ag78 : tyAgg Try.prog 78 = some false := by kernel_rfl
theorem Try.ze78 : tyZero Try.prog 78 = some [.nilFunc] := by kernel_rfl
theorem Try.ar78 : tyArr Try.prog 78 = none := by kernel_rfl
theorem Try.sz79 : tySize Try.prog 79 = some 1 := by kernel_rfl
theorem Try.by79 : tyBytes Try.prog 79 = some 8 := by kernel_rfl
theorem Try.ag79 : tyAgg Try.prog 79 = some false := by kernel_rfl
theorem Try.ze79 : tyZero Try.prog 79 = some [.nilFunc] := by kernel_rfl
theorem Try.ar79 : tyArr Try.prog 79 = none := by kernel_rfl
theorem Try.sz80 : tySize Try.prog 80 = some 1 := by kernel_rfl
theorem Try.by80 : tyBytes Try.prog 80 = some 8 := by kernel_rfl
theorem Try.ag80 : tyAgg Try.prog 80 = some false := by kernel_rfl
theorem Try.ze80 : tyZero Try.prog 80 = some [.nilFunc] := by kernel_rfl
theorem Try.ar80 : tyArr Try.prog 80 = none := by kernel_rfl
theorem Try.sz81 : tySize Try.prog 81 = some 1 := by kernel_rfl
theorem Try.by81 : tyBytes Try.prog 81 = some 8 := by kernel_rfl
theorem Try.ag81 : tyAgg Try.prog 81 = some false := by kernel_rfl
theorem Try.ze81 : tyZero Try.prog 81 = some [.nilFunc] := by kernel_rfl
theorem Try.ar81 : tyArr Try.prog 81 = none := by kernel_rfl
theorem Try.sz82 : tySize Try.prog 82 = some 1 := by kernel_rfl
theorem Try.by82 : tyBytes Try.prog 82 = some 8 := by kernel_rfl
theorem Try.ag82 : tyAgg Try.prog 82 = some false := by kernel_rfl
theorem Try.ze82 : tyZero Try.prog 82 = some [.nilFunc] := by kernel_rfl
theorem Try.ar82 : tyArr Try.prog 82 = none := by kernel_rfl
theorem Try.sz83 : tySize Try.prog 83 = some 1 := by kernel_rfl
theorem Try.by83 : tyBytes Try.prog 83 = some 8 := by kernel_rfl
theorem Try.ag83 : tyAgg Try.prog 83 = some false := by kernel_rfl
theorem Try.ze83 : tyZero Try.prog 83 = some [.nilFunc] := by kernel_rfl
theorem Try.ar83 : tyArr Try.prog 83 = none := by kernel_rfl
theorem Try.sz84 : tySize Try.prog 84 = some 1 := by kernel_rfl
theorem Try.by84 : tyBytes Try.prog 84 = some 8 := by kernel_rfl
theorem Try.ag84 : tyAgg Try.prog 84 = some false := by kernel_rfl
theorem Try.ze84 : tyZero Try.prog 84 = some [.nilFunc] := by kernel_rfl
theorem Try.ar84 : tyArr Try.prog 84 = none := by kernel_rfl
theorem Try.sz85 : tySize Try.prog 85 = some 1 := by kernel_rfl
theorem Try.by85 : tyBytes Try.prog 85 = some 8 := by kernel_rfl
theorem Try.ag85 : tyAgg Try.prog 85 = some false := by kernel_rfl
theorem Try.ze85 : tyZero Try.prog 85 = some [.nilFunc] := by kernel_rfl
theorem Try.ar85 : tyArr Try.prog 85 = none := by kernel_rfl
theorem Try.sz86 : tySize Try.prog 86 = some 1 := by kernel_rfl
theorem Try.by86 : tyBytes Try.prog 86 = some 8 := by kernel_rfl
theorem Try.ag86 : tyAgg Try.prog 86 = some false := by kernel_rfl
theorem Try.ze86 : tyZero Try.prog 86 = some [.nilFunc] := by kernel_rfl
theorem Try.ar86 : tyArr Try.prog 86 = none := by kernel_rfl
theorem Try.sz87 : tySize Try.prog 87 = some 1 := by kernel_rfl
theorem Try.by87 : tyBytes Try.prog 87 = some 8 := by kernel_rfl
theorem Try.ag87 : tyAgg Try.prog 87 = some false := by kernel_rfl
theorem Try.ze87 : tyZero Try.prog 87 = some [.int .u64 0] := by kernel_rfl
theorem Try.ar87 : tyArr Try.prog 87 = none := by kernel_rfl
theorem Try.sz88 : tySize Try.prog 88 = some 1 := by kernel_rfl
theorem Try.by88 : tyBytes Try.prog 88 = some 8 := by kernel_rfl
theorem Try.ag88 : tyAgg Try.prog 88 = some false := by kernel_rfl
theorem Try.ze88 : tyZero Try.prog 88 = some [.nilFunc] := by kernel_rfl
theorem Try.ar88 : tyArr Try.prog 88 = none := by kernel_rfl
theorem Try.sz89 : tySize Try.prog 89 = some 1 := by kernel_rfl
theorem Try.by89 : tyBytes Try.prog 89 = some 2 := by kernel_rfl
theorem Try.ag89 : tyAgg Try.prog 89 = some false := by kernel_rfl
theorem Try.ze89 : tyZero Try.prog 89 = some [.int .u16 0] := by kernel_rfl
theorem Try.ar89 : tyArr Try.prog 89 = none := by kernel_rfl
theorem Try.sz90 : tySize Try.prog 90 = some 1 := by kernel_rfl
theorem Try.by90 : tyBytes Try.prog 90 = some 8 := by kernel_rfl
theorem Try.ag90 : tyAgg Try.prog 90 = some false := by kernel_rfl
theorem Try.ze90 : tyZero Try.prog 90 = some [.nilFunc] := by kernel_rfl
theorem Try.ar90 : tyArr Try.prog 90 = none := by kernel_rfl
theorem Try.sz91 : tySize Try.prog 91 = some 1 := by kernel_rfl
theorem Try.by91 : tyBytes Try.prog 91 = some 8 := by kernel_rfl
theorem Try.ag91 : tyAgg Try.prog 91 = some false := by kernel_rfl
theorem Try.ze91 : tyZero Try.prog 91 = some [.nilFunc] := by kernel_rfl
theorem Try.ar91 : tyArr Try.prog 91 = none := by kernel_rfl
theorem Try.sz92 : tySize Try.prog 92 = some 2 := by kernel_rfl
theorem Try.by92 : tyBytes Try.prog 92 = some 32 := by kernel_rfl
theorem Try.ag92 : tyAgg Try.prog 92 = some true := by kernel_rfl
theorem Try.ze92 : tyZero Try.prog 92 = some [.slice none 0 0, .int .i64 0] := by kernel_rfl
theorem Try.fd92f0 : tyField Try.prog 92 0 = some (0, 1, false) := by kernel_rfl
theorem Try.fd92f1 : tyField Try.prog 92 1 = some (1, 1, false) := by kernel_rfl
theorem Try.pl92 : tyPlaces Try.prog 92 = some [(0, 1), (1, 1)] := by kernel_rfl
theorem Try.ar92 : tyArr Try.prog 92 = none := by kernel_rfl
theorem Try.sz93 : tySize Try.prog 93 = some 2 := by kernel_rfl
theorem Try.by93 : tyBytes Try.prog 93 = some 32 := by kernel_rfl
theorem Try.ag93 : tyAgg Try.prog 93 = some true := by kernel_rfl
theorem Try.ze93 : tyZero Try.prog 93 = some [.slice none 0 0, .int .i64 0] := by kernel_rfl
theorem Try.fd93f0 : tyField Try.prog 93 0 = some (0, 1, false) := by kernel_rfl
theorem Try.fd93f1 : tyField Try.prog 93 1 = some (1, 1, false) := by kernel_rfl
theorem Try.pl93 : tyPlaces Try.prog 93 = some [(0, 1), (1, 1)] := by kernel_rfl
theorem Try.ar93 : tyArr Try.prog 93 = none := by kernel_rfl
theorem Try.sz94 : tySize Try.prog 94 = some 3 := by kernel_rfl
theorem Try.by94 : tyBytes Try.prog 94 = some 40 := by kernel_rfl
theorem Try.ag94 : tyAgg Try.prog 94 = some true := by kernel_rfl
theorem Try.ze94 : tyZero Try.prog 94 = some [.slice none 0 0, .int .i64 0, .int .i64 0] := by kernel_rfl
theorem Try.fd94f0 : tyField Try.prog 94 0 = some (0, 2, true) := by kernel_rfl
theorem Try.fd94f1 : tyField Try.prog 94 1 = some (2, 1, false) := by kernel_rfl
theorem Try.pl94 : tyPlaces Try.prog 94 = some [(0, 2), (2, 1)] := by kernel_rfl
theorem Try.ar94 : tyArr Try.prog 94 = none := by kernel_rfl
theorem Try.sz95 : tySize Try.prog 95 = some 3 := by kernel_rfl
theorem Try.by95 : tyBytes Try.prog 95 = some 40 := by kernel_rfl
theorem Try.ag95 : tyAgg Try.prog 95 = some true := by kernel_rfl
theorem Try.ze95 : tyZero Try.prog 95 = some [.slice none 0 0, .int .i64 0, .int .i64 0] := by kernel_rfl
theorem Try.fd95f0 : tyField Try.prog 95 0 = some (0, 2, true) := by kernel_rfl
theorem Try.fd95f1 : tyField Try.prog 95 1 = some (2, 1, false) := by kernel_rfl
theorem Try.pl95 : tyPlaces Try.prog 95 = some [(0, 2), (2, 1)] := by kernel_rfl
theorem Try.ar95 : tyArr Try.prog 95 = none := by kernel_rfl
theorem Try.sz96 : tySize Try.prog 96 = some 1 := by kernel_rfl
theorem Try.by96 : tyBytes Try.prog 96 = some 8 := by kernel_rfl
theorem Try.ag96 : tyAgg Try.prog 96 = some false := by kernel_rfl
theorem Try.ze96 : tyZero Try.prog 96 = some [.pointer none] := by kernel_rfl
theorem Try.ar96 : tyArr Try.prog 96 = none := by kernel_rfl
theorem Try.sz97 : tySize Try.prog 97 = some 1 := by kernel_rfl
theorem Try.by97 : tyBytes Try.prog 97 = some 8 := by kernel_rfl
theorem Try.ag97 : tyAgg Try.prog 97 = some false := by kernel_rfl
theorem Try.ze97 : tyZero Try.prog 97 = some [.nilFunc] := by kernel_rfl
theorem Try.ar97 : tyArr Try.prog 97 = none := by kernel_rfl
theorem Try.sz98 : tySize Try.prog 98 = some 1 := by kernel_rfl
theorem Try.by98 : tyBytes Try.prog 98 = some 8 := by kernel_rfl
theorem Try.ag98 : tyAgg Try.prog 98 = some false := by kernel_rfl
theorem Try.ze98 : tyZero Try.prog 98 = some [.pointer none] := by kernel_rfl
theorem Try.ar98 : tyArr Try.prog 98 = none := by kernel_rfl
theorem Try.sz99 : tySize Try.prog 99 = some 1 := by kernel_rfl
theorem Try.by99 : tyBytes Try.prog 99 = some 8 := by kernel_rfl
theorem Try.ag99 : tyAgg Try.prog 99 = some false := by kernel_rfl
theorem Try.ze99 : tyZero Try.prog 99 = some [.nilFunc] := by kernel_rfl
theorem Try.ar99 : tyArr Try.prog 99 = none := by kernel_rfl
theorem Try.sz100 : tySize Try.prog 100 = some 1 := by kernel_rfl
theorem Try.by100 : tyBytes Try.prog 100 = some 8 := by kernel_rfl
theorem Try.ag100 : tyAgg Try.prog 100 = some false := by kernel_rfl
theorem Try.ze100 : tyZero Try.prog 100 = some [.map none] := by kernel_rfl
theorem Try.mp100 : tyMap Try.prog 100 = some (false, [.i64], .v (.nilFunc)) := by kernel_rfl
theorem Try.ar100 : tyArr Try.prog 100 = none := by kernel_rfl
theorem Try.sz101 : tySize Try.prog 101 = some 1 := by kernel_rfl
theorem Try.by101 : tyBytes Try.prog 101 = some 8 := by kernel_rfl
theorem Try.ag101 : tyAgg Try.prog 101 = some false := by kernel_rfl
theorem Try.ze101 : tyZero Try.prog 101 = some [.nilFunc] := by kernel_rfl
theorem Try.ar101 : tyArr Try.prog 101 = none := by kernel_rfl
theorem Try.sz102 : tySize Try.prog 102 = some 1 := by kernel_rfl
theorem Try.by102 : tyBytes Try.prog 102 = some 8 := by kernel_rfl
theorem Try.ag102 : tyAgg Try.prog 102 = some false := by kernel_rfl
theorem Try.ze102 : tyZero Try.prog 102 = some [.pointer none] := by kernel_rfl
theorem Try.ar102 : tyArr Try.prog 102 = none := by kernel_rfl
theorem Try.sz103 : tySize Try.prog 103 = some 1 := by kernel_rfl
theorem Try.by103 : tyBytes Try.prog 103 = some 8 := by kernel_rfl
theorem Try.ag103 : tyAgg Try.prog 103 = some false := by kernel_rfl
theorem Try.ze103 : tyZero Try.prog 103 = some [.nilFunc] := by kernel_rfl
theorem Try.ar103 : tyArr Try.prog 103 = none := by kernel_rfl
theorem Try.sz104 : tySize Try.prog 104 = some 1 := by kernel_rfl
theorem Try.by104 : tyBytes Try.prog 104 = some 8 := by kernel_rfl
theorem Try.ag104 : tyAgg Try.prog 104 = some false := by kernel_rfl
theorem Try.ze104 : tyZero Try.prog 104 = some [.pointer none] := by kernel_rfl
theorem Try.ar104 : tyArr Try.prog 104 = none := by kernel_rfl
theorem Try.sz105 : tySize Try.prog 105 = some 1 := by kernel_rfl
theorem Try.by105 : tyBytes Try.prog 105 = some 8 := by kernel_rfl
theorem Try.ag105 : tyAgg Try.prog 105 = some false := by kernel_rfl
theorem Try.ze105 : tyZero Try.prog 105 = some [.nilFunc] := by kernel_rfl
theorem Try.ar105 : tyArr Try.prog 105 = none := by kernel_rfl
theorem Try.sz106 : tySize Try.prog 106 = some 1 := by kernel_rfl
theorem Try.by106 : tyBytes Try.prog 106 = some 8 := by kernel_rfl
theorem Try.ag106 : tyAgg Try.prog 106 = some false := by kernel_rfl
theorem Try.ze106 : tyZero Try.prog 106 = some [.pointer none] := by kernel_rfl
theorem Try.ar106 : tyArr Try.prog 106 = none := by kernel_rfl
theorem Try.sz107 : tySize Try.prog 107 = some 1 := by kernel_rfl
theorem Try.by107 : tyBytes Try.prog 107 = some 8 := by kernel_rfl
theorem Try.ag107 : tyAgg Try.prog 107 = some false := by kernel_rfl
theorem Try.ze107 : tyZero Try.prog 107 = some [.nilFunc] := by kernel_rfl
theorem Try.ar107 : tyArr Try.prog 107 = none := by kernel_rfl
theorem Try.sz108 : tySize Try.prog 108 = some 1 := by kernel_rfl
theorem Try.by108 : tyBytes Try.prog 108 = some 8 := by kernel_rfl
theorem Try.ag108 : tyAgg Try.prog 108 = some false := by kernel_rfl
theorem Try.ze108 : tyZero Try.prog 108 = some [.nilFunc] := by kernel_rfl
theorem Try.ar108 : tyArr Try.prog 108 = none := by kernel_rfl
theorem Try.sz109 : tySize Try.prog 109 = some 1 := by kernel_rfl
theorem Try.by109 : tyBytes Try.prog 109 = some 8 := by kernel_rfl
theorem Try.ag109 : tyAgg Try.prog 109 = some false := by kernel_rfl
theorem Try.ze109 : tyZero Try.prog 109 = some [.nilFunc] := by kernel_rfl
theorem Try.ar109 : tyArr Try.prog 109 = none := by kernel_rfl
theorem Try.sz110 : tySize Try.prog 110 = some 21 := by kernel_rfl
theorem Try.by110 : tyBytes Try.prog 110 = some 336 := by kernel_rfl
theorem Try.ag110 : tyAgg Try.prog 110 = some true := by kernel_rfl
theorem Try.ze110 : tyZero Try.prog 110 = some [.string ⟨#[]⟩, .string ⟨#[]⟩, .string ⟨#[]⟩, .string ⟨#[]⟩, .string ⟨#[]⟩, .string ⟨#[]⟩, .string ⟨#[]⟩, .string ⟨#[]⟩, .string ⟨#[]⟩, .string ⟨#[]⟩, .string ⟨#[]⟩, .string ⟨#[]⟩, .string ⟨#[]⟩, .string ⟨#[]⟩, .string ⟨#[]⟩, .string ⟨#[]⟩, .string ⟨#[]⟩, .string ⟨#[]⟩, .string ⟨#[]⟩, .string ⟨#[]⟩, .string ⟨#[]⟩] := by kernel_rfl
theorem Try.ar110 : tyArr Try.prog 110 = some (21, 1, [.string ⟨#[]⟩]) := by kernel_rfl
theorem Try.sz111 : tySize Try.prog 111 = some 11 := by kernel_rfl
theorem Try.by111 : tyBytes Try.prog 111 = some 176 := by kernel_rfl
theorem Try.ag111 : tyAgg Try.prog 111 = some true := by kernel_rfl
theorem Try.ze111 : tyZero Try.prog 111 = some [.string ⟨#[]⟩, .string ⟨#[]⟩, .string ⟨#[]⟩, .string ⟨#[]⟩, .string ⟨#[]⟩, .string ⟨#[]⟩, .string ⟨#[]⟩, .string ⟨#[]⟩, .string ⟨#[]⟩, .string ⟨#[]⟩, .string ⟨#[]⟩] := by kernel_rfl
theorem Try.pl111 : tyPlaces Try.prog 111 = some [(0, 1), (1, 1), (2, 1), (3, 1), (4, 1), (5, 1), (6, 1), (7, 1), (8, 1), (9, 1), (10, 1)] := by kernel_rfl
theorem Try.ar111 : tyArr Try.prog 111 = some (11, 1, [.string ⟨#[]⟩]) := by kernel_rfl
theorem Try.sz112 : tySize Try.prog 112 = some 1 := by kernel_rfl
theorem Try.by112 : tyBytes Try.prog 112 = some 8 := by kernel_rfl
theorem Try.ag112 : tyAgg Try.prog 112 = some false := by kernel_rfl
theorem Try.ze112 : tyZero Try.prog 112 = some [.nilFunc] := by kernel_rfl
theorem Try.ar112 : tyArr Try.prog 112 = none := by kernel_rfl
theorem Try.sz113 : tySize Try.prog 113 = some 1 := by kernel_rfl
theorem Try.by113 : tyBytes Try.prog 113 = some 24 := by kernel_rfl
theorem Try.ag113 : tyAgg Try.prog 113 = some false := by kernel_rfl
theorem Try.ze113 : tyZero Try.prog 113 = some [.slice none 0 0] := by kernel_rfl
theorem Try.ar113 : tyArr Try.prog 113 = none := by kernel_rfl
theorem Try.sz114 : tySize Try.prog 114 = some 1 := by kernel_rfl
theorem Try.by114 : tyBytes Try.prog 114 = some 8 := by kernel_rfl
theorem Try.ag114 : tyAgg Try.prog 114 = some false := by kernel_rfl
theorem Try.ze114 : tyZero Try.prog 114 = some [.nilFunc] := by kernel_rfl
theorem Try.ar114 : tyArr Try.prog 114 = none := by kernel_rfl
theorem Try.sz115 : tySize Try.prog 115 = some 1 := by kernel_rfl
theorem Try.by115 : tyBytes Try.prog 115 = some 8 := by kernel_rfl
theorem Try.ag115 : tyAgg Try.prog 115 = some false := by kernel_rfl
theorem Try.ze115 : tyZero Try.prog 115 = some [.nilFunc] := by kernel_rfl
theorem Try.ar115 : tyArr Try.prog 115 = none := by kernel_rfl
theorem Try.sz116 : tySize Try.prog 116 = some 1 := by kernel_rfl
theorem Try.by116 : tyBytes Try.prog 116 = some 8 := by kernel_rfl
theorem Try.ag116 : tyAgg Try.prog 116 = some false := by kernel_rfl
theorem Try.ze116 : tyZero Try.prog 116 = some [.nilFunc] := by kernel_rfl
theorem Try.ar116 : tyArr Try.prog 116 = none := by kernel_rfl
theorem Try.sz117 : tySize Try.prog 117 = some 1 := by kernel_rfl
theorem Try.by117 : tyBytes Try.prog 117 = some 8 := by kernel_rfl
theorem Try.ag117 : tyAgg Try.prog 117 = some false := by kernel_rfl
theorem Try.ze117 : tyZero Try.prog 117 = some [.pointer none] := by kernel_rfl
theorem Try.ar117 : tyArr Try.prog 117 = none := by kernel_rfl
theorem Try.sz118 : tySize Try.prog 118 = some 1 := by kernel_rfl
theorem Try.by118 : tyBytes Try.prog 118 = some 8 := by kernel_rfl
theorem Try.ag118 : tyAgg Try.prog 118 = some false := by kernel_rfl
theorem Try.ze118 : tyZero Try.prog 118 = some [.nilFunc] := by kernel_rfl
theorem Try.ar118 : tyArr Try.prog 118 = none := by kernel_rfl
theorem Try.sz119 : tySize Try.prog 119 = some 1 := by kernel_rfl
theorem Try.by119 : tyBytes Try.prog 119 = some 8 := by kernel_rfl
theorem Try.ag119 : tyAgg Try.prog 119 = some false := by kernel_rfl
theorem Try.ze119 : tyZero Try.prog 119 = some [.pointer none] := by kernel_rfl
theorem Try.ar119 : tyArr Try.prog 119 = none := by kernel_rfl
theorem Try.sz120 : tySize Try.prog 120 = some 1 := by kernel_rfl
theorem Try.by120 : tyBytes Try.prog 120 = some 8 := by kernel_rfl
theorem Try.ag120 : tyAgg Try.prog 120 = some false := by kernel_rfl
theorem Try.ze120 : tyZero Try.prog 120 = some [.nilFunc] := by kernel_rfl
theorem Try.ar120 : tyArr Try.prog 120 = none := by kernel_rfl
theorem Try.sz121 : tySize Try.prog 121 = some 1 := by kernel_rfl
theorem Try.by121 : tyBytes Try.prog 121 = some 8 := by kernel_rfl
theorem Try.ag121 : tyAgg Try.prog 121 = some false := by kernel_rfl
theorem Try.ze121 : tyZero Try.prog 121 = some [.pointer none] := by kernel_rfl
theorem Try.ar121 : tyArr Try.prog 121 = none := by kernel_rfl
theorem Try.sz122 : tySize Try.prog 122 = some 1 := by kernel_rfl
theorem Try.by122 : tyBytes Try.prog 122 = some 8 := by kernel_rfl
theorem Try.ag122 : tyAgg Try.prog 122 = some false := by kernel_rfl
theorem Try.ze122 : tyZero Try.prog 122 = some [.nilFunc] := by kernel_rfl
theorem Try.ar122 : tyArr Try.prog 122 = none := by kernel_rfl
theorem Try.sz123 : tySize Try.prog 123 = some 1 := by kernel_rfl
theorem Try.by123 : tyBytes Try.prog 123 = some 8 := by kernel_rfl
theorem Try.ag123 : tyAgg Try.prog 123 = some false := by kernel_rfl
theorem Try.ze123 : tyZero Try.prog 123 = some [.nilFunc] := by kernel_rfl
theorem Try.ar123 : tyArr Try.prog 123 = none := by kernel_rfl
theorem Try.sz124 : tySize Try.prog 124 = some 1 := by kernel_rfl
theorem Try.by124 : tyBytes Try.prog 124 = some 8 := by kernel_rfl
theorem Try.ag124 : tyAgg Try.prog 124 = some false := by kernel_rfl
theorem Try.ze124 : tyZero Try.prog 124 = some [.nilFunc] := by kernel_rfl
theorem Try.ar124 : tyArr Try.prog 124 = none := by kernel_rfl
theorem Try.sz125 : tySize Try.prog 125 = some 1 := by kernel_rfl
theorem Try.by125 : tyBytes Try.prog 125 = some 8 := by kernel_rfl
theorem Try.ag125 : tyAgg Try.prog 125 = some false := by kernel_rfl
theorem Try.ze125 : tyZero Try.prog 125 = some [.pointer none] := by kernel_rfl
theorem Try.ar125 : tyArr Try.prog 125 = none := by kernel_rfl
theorem Try.sz126 : tySize Try.prog 126 = some 1 := by kernel_rfl
theorem Try.by126 : tyBytes Try.prog 126 = some 8 := by kernel_rfl
theorem Try.ag126 : tyAgg Try.prog 126 = some false := by kernel_rfl
theorem Try.ze126 : tyZero Try.prog 126 = some [.nilFunc] := by kernel_rfl
theorem Try.ar126 : tyArr Try.prog 126 = none := by kernel_rfl
theorem Try.sz127 : tySize Try.prog 127 = some 1 := by kernel_rfl
theorem Try.by127 : tyBytes Try.prog 127 = some 8 := by kernel_rfl
theorem Try.ag127 : tyAgg Try.prog 127 = some false := by kernel_rfl
theorem Try.ze127 : tyZero Try.prog 127 = some [.nilFunc] := by kernel_rfl
theorem Try.ar127 : tyArr Try.prog 127 = none := by kernel_rfl
theorem Try.sz128 : tySize Try.prog 128 = some 1 := by kernel_rfl
theorem Try.by128 : tyBytes Try.prog 128 = some 8 := by kernel_rfl
theorem Try.ag128 : tyAgg Try.prog 128 = some false := by kernel_rfl
theorem Try.ze128 : tyZero Try.prog 128 = some [.nilFunc] := by kernel_rfl
theorem Try.ar128 : tyArr Try.prog 128 = none := by kernel_rfl
theorem Try.sz129 : tySize Try.prog 129 = some 1 := by kernel_rfl
theorem Try.by129 : tyBytes Try.prog 129 = some 8 := by kernel_rfl
theorem Try.ag129 : tyAgg Try.prog 129 = some false := by kernel_rfl
theorem Try.ze129 : tyZero Try.prog 129 = some [.nilFunc] := by kernel_rfl
theorem Try.ar129 : tyArr Try.prog 129 = none := by kernel_rfl
theorem Try.sz130 : tySize Try.prog 130 = some 1 := by kernel_rfl
theorem Try.by130 : tyBytes Try.prog 130 = some 8 := by kernel_rfl
theorem Try.ag130 : tyAgg Try.prog 130 = some false := by kernel_rfl
theorem Try.ze130 : tyZero Try.prog 130 = some [.pointer none] := by kernel_rfl
theorem Try.ar130 : tyArr Try.prog 130 = none := by kernel_rfl
theorem Try.sz131 : tySize Try.prog 131 = some 1 := by kernel_rfl
theorem Try.by131 : tyBytes Try.prog 131 = some 8 := by kernel_rfl
theorem Try.ag131 : tyAgg Try.prog 131 = some false := by kernel_rfl
theorem Try.ze131 : tyZero Try.prog 131 = some [.nilFunc] := by kernel_rfl
theorem Try.ar131 : tyArr Try.prog 131 = none := by kernel_rfl
theorem Try.sz132 : tySize Try.prog 132 = some 4 := by kernel_rfl
theorem Try.by132 : tyBytes Try.prog 132 = some 40 := by kernel_rfl
theorem Try.ag132 : tyAgg Try.prog 132 = some true := by kernel_rfl
theorem Try.ze132 : tyZero Try.prog 132 = some [.pointer none, .pointer none, .pointer none, .string ⟨#[]⟩] := by kernel_rfl
theorem Try.fd132f0 : tyField Try.prog 132 0 = some (0, 1, false) := by kernel_rfl
theorem Try.fd132f1 : tyField Try.prog 132 1 = some (1, 1, false) := by kernel_rfl
theorem Try.fd132f2 : tyField Try.prog 132 2 = some (2, 1, false) := by kernel_rfl
theorem Try.fd132f3 : tyField Try.prog 132 3 = some (3, 1, false) := by kernel_rfl
theorem Try.pl132 : tyPlaces Try.prog 132 = some [(0, 1), (1, 1), (2, 1), (3, 1)] := by kernel_rfl
theorem Try.ar132 : tyArr Try.prog 132 = none := by kernel_rfl
theorem Try.sz134 : tySize Try.prog 134 = some 0 := by kernel_rfl
theorem Try.by134 : tyBytes Try.prog 134 = some 0 := by kernel_rfl
theorem Try.ag134 : tyAgg Try.prog 134 = some true := by kernel_rfl
theorem Try.ze134 : tyZero Try.prog 134 = some [] := by kernel_rfl
theorem Try.pl134 : tyPlaces Try.prog 134 = some [] := by kernel_rfl
theorem Try.ar134 : tyArr Try.prog 134 = none := by kernel_rfl
theorem Try.sz135 : tySize Try.prog 135 = some 0 := by kernel_rfl
theorem Try.by135 : tyBytes Try.prog 135 = some 0 := by kernel_rfl
theorem Try.ag135 : tyAgg Try.prog 135 = some true := by kernel_rfl
theorem Try.ze135 : tyZero Try.prog 135 = some [] := by kernel_rfl
theorem Try.fd135f0 : tyField Try.prog 135 0 = some (0, 0, true) := by kernel_rfl
theorem Try.pl135 : tyPlaces Try.prog 135 = some [(0, 0)] := by kernel_rfl
theorem Try.ar135 : tyArr Try.prog 135 = none := by kernel_rfl
theorem Try.sz137 : tySize Try.prog 137 = some 1 := by kernel_rfl
theorem Try.by137 : tyBytes Try.prog 137 = some 1 := by kernel_rfl
theorem Try.ag137 : tyAgg Try.prog 137 = some false := by kernel_rfl
theorem Try.ze137 : tyZero Try.prog 137 = some [.int .u8 0] := by kernel_rfl
theorem Try.ar137 : tyArr Try.prog 137 = none := by kernel_rfl
theorem Try.sz138 : tySize Try.prog 138 = some 1 := by kernel_rfl
theorem Try.by138 : tyBytes Try.prog 138 = some 1 := by kernel_rfl
theorem Try.ag138 : tyAgg Try.prog 138 = some false := by kernel_rfl
theorem Try.ze138 : tyZero Try.prog 138 = some [.int .u8 0] := by kernel_rfl
theorem Try.ar138 : tyArr Try.prog 138 = none := by kernel_rfl
theorem Try.sz139 : tySize Try.prog 139 = some 1 := by kernel_rfl
theorem Try.by139 : tyBytes Try.prog 139 = some 8 := by kernel_rfl
theorem Try.ag139 : tyAgg Try.prog 139 = some false := by kernel_rfl
theorem Try.ze139 : tyZero Try.prog 139 = some [.nilFunc] := by kernel_rfl
theorem Try.ar139 : tyArr Try.prog 139 = none := by kernel_rfl
theorem Try.sz140 : tySize Try.prog 140 = some 1 := by kernel_rfl
theorem Try.by140 : tyBytes Try.prog 140 = some 8 := by kernel_rfl
theorem Try.ag140 : tyAgg Try.prog 140 = some false := by kernel_rfl
theorem Try.ze140 : tyZero Try.prog 140 = some [.pointer none] := by kernel_rfl
theorem Try.ar140 : tyArr Try.prog 140 = none := by kernel_rfl
theorem Try.sz141 : tySize Try.prog 141 = some 1 := by kernel_rfl
theorem Try.by141 : tyBytes Try.prog 141 = some 4 := by kernel_rfl
theorem Try.ag141 : tyAgg Try.prog 141 = some false := by kernel_rfl
theorem Try.ze141 : tyZero Try.prog 141 = some [.int .i32 0] := by kernel_rfl
theorem Try.ar141 : tyArr Try.prog 141 = none := by kernel_rfl
theorem Try.sz142 : tySize Try.prog 142 = some 1 := by kernel_rfl
theorem Try.by142 : tyBytes Try.prog 142 = some 4 := by kernel_rfl
theorem Try.ag142 : tyAgg Try.prog 142 = some false := by kernel_rfl
theorem Try.ze142 : tyZero Try.prog 142 = some [.int .i32 0] := by kernel_rfl
theorem Try.ar142 : tyArr Try.prog 142 = none := by kernel_rfl
theorem Try.sz143 : tySize Try.prog 143 = some 11 := by kernel_rfl
theorem Try.by143 : tyBytes Try.prog 143 = some 48 := by kernel_rfl
theorem Try.ag143 : tyAgg Try.prog 143 = some true := by kernel_rfl
theorem Try.ze143 : tyZero Try.prog 143 = some [.int .u64 0, .int .u64 0, .int .u32 0, .int .u8 0, .int .u8 0, .int .u8 0, .int .u8 0, .nilFunc, .pointer none, .int .i32 0, .int .i32 0] := by kernel_rfl
theorem Try.fd143f0 : tyField Try.prog 143 0 = some (0, 1, false) := by kernel_rfl
theorem Try.fd143f1 : tyField Try.prog 143 1 = some (1, 1, false) := by kernel_rfl
theorem Try.fd143f2 : tyField Try.prog 143 2 = some (2, 1, false) := by kernel_rfl
theorem Try.fd143f3 : tyField Try.prog 143 3 = some (3, 1, false) := by kernel_rfl
theorem Try.fd143f4 : tyField Try.prog 143 4 = some (4, 1, false) := by kernel_rfl
theorem Try.fd143f5 : tyField Try.prog 143 5 = some (5, 1, false) := by kernel_rfl
theorem Try.fd143f6 : tyField Try.prog 143 6 = some (6, 1, false) := by kernel_rfl
theorem Try.fd143f7 : tyField Try.prog 143 7 = some (7, 1, false) := by kernel_rfl
theorem Try.fd143f8 : tyField Try.prog 143 8 = some (8, 1, false) := by kernel_rfl
theorem Try.fd143f9 : tyField Try.prog 143 9 = some (9, 1, false) := by kernel_rfl
theorem Try.fd143f10 : tyField Try.prog 143 10 = some (10, 1, false) := by kernel_rfl
theorem Try.pl143 : tyPlaces Try.prog 143 = some [(0, 1), (1, 1), (2, 1), (3, 1), (4, 1), (5, 1), (6, 1), (7, 1), (8, 1), (9, 1), (10, 1)] := by kernel_rfl
theorem Try.ar143 : tyArr Try.prog 143 = none := by kernel_rfl
theorem Try.sz144 : tySize Try.prog 144 = some 11 := by kernel_rfl
theorem Try.by144 : tyBytes Try.prog 144 = some 48 := by kernel_rfl
theorem Try.ag144 : tyAgg Try.prog 144 = some true := by kernel_rfl
theorem Try.ze144 : tyZero Try.prog 144 = some [.int .u64 0, .int .u64 0, .int .u32 0, .int .u8 0, .int .u8 0, .int .u8 0, .int .u8 0, .nilFunc, .pointer none, .int .i32 0, .int .i32 0] := by kernel_rfl
theorem Try.fd144f0 : tyField Try.prog 144 0 = some (0, 1, false) := by kernel_rfl
theorem Try.fd144f1 : tyField Try.prog 144 1 = some (1, 1, false) := by kernel_rfl
theorem Try.fd144f2 : tyField Try.prog 144 2 = some (2, 1, false) := by kernel_rfl
theorem Try.fd144f3 : tyField Try.prog 144 3 = some (3, 1, false) := by kernel_rfl
theorem Try.fd144f4 : tyField Try.prog 144 4 = some (4, 1, false) := by kernel_rfl
theorem Try.fd144f5 : tyField Try.prog 144 5 = some (5, 1, false) := by kernel_rfl
theorem Try.fd144f6 : tyField Try.prog 144 6 = some (6, 1, false) := by kernel_rfl
theorem Try.fd144f7 : tyField Try.prog 144 7 = some (7, 1, false) := by kernel_rfl
theorem Try.fd144f8 : tyField Try.prog 144 8 = some (8, 1, false) := by kernel_rfl
theorem Try.fd144f9 : tyField Try.prog 144 9 = some (9, 1, false) := by kernel_rfl
theorem Try.fd144f10 : tyField Try.prog 144 10 = some (10, 1, false) := by kernel_rfl
theorem Try.pl144 : tyPlaces Try.prog 144 = some [(0, 1), (1, 1), (2, 1), (3, 1), (4, 1), (5, 1), (6, 1), (7, 1), (8, 1), (9, 1), (10, 1)] := by kernel_rfl
theorem Try.ar144 : tyArr Try.prog 144 = none := by kernel_rfl
theorem Try.sz145 : tySize Try.prog 145 = some 1 := by kernel_rfl
theorem Try.by145 : tyBytes Try.prog 145 = some 8 := by kernel_rfl
theorem Try.ag145 : tyAgg Try.prog 145 = some false := by kernel_rfl
theorem Try.ze145 : tyZero Try.prog 145 = some [.pointer none] := by kernel_rfl
theorem Try.ar145 : tyArr Try.prog 145 = none := by kernel_rfl
theorem Try.ok9 : FnOK Try.prog 9 := ⟨_, Try.func9, rfl, by kernel_rfl⟩
theorem Try.ok10 : FnOK Try.prog 10 := ⟨_, Try.func10, rfl, by kernel_rfl⟩
theorem Try.ok12 : FnOK Try.prog 12 := ⟨_, Try.func12, rfl, by kernel_rfl⟩
theorem Try.ok13 : FnOK Try.prog 13 := ⟨_, Try.func13, rfl, by kernel_rfl⟩
theorem Try.ok14 : FnOK Try.prog 14 := ⟨_, Try.func14, rfl, by kernel_rfl⟩
theorem Try.ok15 : FnOK Try.prog 15 := ⟨_, Try.func15, rfl, by kernel_rfl⟩
theorem Try.ok16 : FnOK Try.prog 16 := ⟨_, Try.func16, rfl, by kernel_rfl⟩
theorem Try.ok18 : FnOK Try.prog 18 := ⟨_, Try.func18, rfl, by kernel_rfl⟩
theorem Try.ok20 : FnOK Try.prog 20 := ⟨_, Try.func20, rfl, by kernel_rfl⟩
theorem Try.ok21 : FnOK Try.prog 21 := ⟨_, Try.func21, rfl, by kernel_rfl⟩
theorem Try.ok22 : FnOK Try.prog 22 := ⟨_, Try.func22, rfl, by kernel_rfl⟩
theorem Try.ok23 : FnOK Try.prog 23 := ⟨_, Try.func23, rfl, by kernel_rfl⟩
theorem Try.ok24 : FnOK Try.prog 24 := ⟨_, Try.func24, rfl, by kernel_rfl⟩
theorem Try.ok25 : FnOK Try.prog 25 := ⟨_, Try.func25, rfl, by kernel_rfl⟩
theorem Try.ok26 : FnOK Try.prog 26 := ⟨_, Try.func26, rfl, by kernel_rfl⟩
theorem Try.ok27 : FnOK Try.prog 27 := ⟨_, Try.func27, rfl, by kernel_rfl⟩
theorem Try.ok28 : FnOK Try.prog 28 := ⟨_, Try.func28, rfl, by kernel_rfl⟩
theorem Try.ok29 : FnOK Try.prog 29 := ⟨_, Try.func29, rfl, by kernel_rfl⟩
theorem Try.ok30 : FnOK Try.prog 30 := ⟨_, Try.func30, rfl, by kernel_rfl⟩
theorem Try.ok31 : FnOK Try.prog 31 := ⟨_, Try.func31, rfl, by kernel_rfl⟩
theorem Try.ok32 : FnOK Try.prog 32 := ⟨_, Try.func32, rfl, by kernel_rfl⟩
theorem Try.ok33 : FnOK Try.prog 33 := ⟨_, Try.func33, rfl, by kernel_rfl⟩
theorem Try.ok34 : FnOK Try.prog 34 := ⟨_, Try.func34, rfl, by kernel_rfl⟩
theorem Try.ok35 : FnOK Try.prog 35 := ⟨_, Try.func35, rfl, by kernel_rfl⟩
theorem Try.ok36 : FnOK Try.prog 36 := ⟨_, Try.func36, rfl, by kernel_rfl⟩
theorem Try.ok37 : FnOK Try.prog 37 := ⟨_, Try.func37, rfl, by kernel_rfl⟩
theorem Try.ok38 : FnOK Try.prog 38 := ⟨_, Try.func38, rfl, by kernel_rfl⟩
theorem Try.ok39 : FnOK Try.prog 39 := ⟨_, Try.func39, rfl, by kernel_rfl⟩
theorem Try.ok40 : FnOK Try.prog 40 := ⟨_, Try.func40, rfl, by kernel_rfl⟩
theorem Try.ok41 : FnOK Try.prog 41 := ⟨_, Try.func41, rfl, by kernel_rfl⟩
theorem Try.ok42 : FnOK Try.prog 42 := ⟨_, Try.func42, rfl, by kernel_rfl⟩
theorem Try.ok43 : FnOK Try.prog 43 := ⟨_, Try.func43, rfl, by kernel_rfl⟩
theorem Try.ok44 : FnOK Try.prog 44 := ⟨_, Try.func44, rfl, by kernel_rfl⟩
theorem Try.ok45 : FnOK Try.prog 45 := ⟨_, Try.func45, rfl, by kernel_rfl⟩
theorem Try.ok46 : FnOK Try.prog 46 := ⟨_, Try.func46, rfl, by kernel_rfl⟩
theorem Try.ok47 : FnOK Try.prog 47 := ⟨_, Try.func47, rfl, by kernel_rfl⟩
theorem Try.ok48 : FnOK Try.prog 48 := ⟨_, Try.func48, rfl, by kernel_rfl⟩
theorem Try.ok49 : FnOK Try.prog 49 := ⟨_, Try.func49, rfl, by kernel_rfl⟩
theorem Try.ok50 : FnOK Try.prog 50 := ⟨_, Try.func50, rfl, by kernel_rfl⟩
theorem Try.ok51 : FnOK Try.prog 51 := ⟨_, Try.func51, rfl, by kernel_rfl⟩
theorem Try.ok52 : FnOK Try.prog 52 := ⟨_, Try.func52, rfl, by kernel_rfl⟩
theorem Try.ok53 : FnOK Try.prog 53 := ⟨_, Try.func53, rfl, by kernel_rfl⟩
theorem Try.ok54 : FnOK Try.prog 54 := ⟨_, Try.func54, rfl, by kernel_rfl⟩
theorem Try.ok55 : FnOK Try.prog 55 := ⟨_, Try.func55, rfl, by kernel_rfl⟩
theorem Try.ok56 : FnOK Try.prog 56 := ⟨_, Try.func56, rfl, by kernel_rfl⟩
theorem Try.ok57 : FnOK Try.prog 57 := ⟨_, Try.func57, rfl, by kernel_rfl⟩
theorem Try.ok58 : FnOK Try.prog 58 := ⟨_, Try.func58, rfl, by kernel_rfl⟩
theorem Try.ok59 : FnOK Try.prog 59 := ⟨_, Try.func59, rfl, by kernel_rfl⟩
theorem Try.ok60 : FnOK Try.prog 60 := ⟨_, Try.func60, rfl, by kernel_rfl⟩
theorem Try.ok61 : FnOK Try.prog 61 := ⟨_, Try.func61, rfl, by kernel_rfl⟩
theorem Try.ok62 : FnOK Try.prog 62 := ⟨_, Try.func62, rfl, by kernel_rfl⟩
theorem Try.ok63 : FnOK Try.prog 63 := ⟨_, Try.func63, rfl, by kernel_rfl⟩
theorem Try.ok64 : FnOK Try.prog 64 := ⟨_, Try.func64, rfl, by kernel_rfl⟩
theorem Try.ok65 : FnOK Try.prog 65 := ⟨_, Try.func65, rfl, by kernel_rfl⟩
theorem Try.ok66 : FnOK Try.prog 66 := ⟨_, Try.func66, rfl, by kernel_rfl⟩
theorem Try.ok67 : FnOK Try.prog 67 := ⟨_, Try.func67, rfl, by kernel_rfl⟩
theorem Try.ok68 : FnOK Try.prog 68 := ⟨_, Try.func68, rfl, by kernel_rfl⟩
theorem Try.ok69 : FnOK Try.prog 69 := ⟨_, Try.func69, rfl, by kernel_rfl⟩
theorem Try.ok70 : FnOK Try.prog 70 := ⟨_, Try.func70, rfl, by kernel_rfl⟩
theorem Try.ok71 : FnOK Try.prog 71 := ⟨_, Try.func71, rfl, by kernel_rfl⟩
theorem Try.ok72 : FnOK Try.prog 72 := ⟨_, Try.func72, rfl, by kernel_rfl⟩
theorem Try.ok73 : FnOK Try.prog 73 := ⟨_, Try.func73, rfl, by kernel_rfl⟩
theorem Try.ok74 : FnOK Try.prog 74 := ⟨_, Try.func74, rfl, by kernel_rfl⟩
theorem Try.ok75 : FnOK Try.prog 75 := ⟨_, Try.func75, rfl, by kernel_rfl⟩
theorem Try.ok76 : FnOK Try.prog 76 := ⟨_, Try.func76, rfl, by kernel_rfl⟩
theorem Try.ok77 : FnOK Try.prog 77 := ⟨_, Try.func77, rfl, by kernel_rfl⟩
theorem Try.ok78 : FnOK Try.prog 78 := ⟨_, Try.func78, rfl, by kernel_rfl⟩
theorem Try.ok79 : FnOK Try.prog 79 := ⟨_, Try.func79, rfl, by kernel_rfl⟩
theorem Try.ok80 : FnOK Try.prog 80 := ⟨_, Try.func80, rfl, by kernel_rfl⟩
end Go.Proofs
