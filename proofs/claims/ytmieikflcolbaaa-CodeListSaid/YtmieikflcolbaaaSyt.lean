/- Closed facts on the program's types and functions, printed by a program of mine. No condition. -/
import Derived.Test.YtmieikflcolbaaaChecked
import Derived.Test.YtmieikflcolbaaaSyZ
namespace Go.Proofs
open Go Go.Sy
set_option maxRecDepth 100000
set_option linter.unusedSimpArgs false
set_option linter.unusedVariables false
theorem Try.mixed : Try.prog.follows .mixedOrders = true := Try.checked.mixed
theorem Try.sz2 : tySize Try.prog 2 = some 1 := by kernel_rfl
theorem Try.ag2 : tyAgg Try.prog 2 = some false := by kernel_rfl
theorem Try.sz3 : tySize Try.prog 3 = some 1 := by kernel_rfl
theorem Try.by3 : tyBytes Try.prog 3 = some 8 := by kernel_rfl
theorem Try.ag3 : tyAgg Try.prog 3 = some false := by kernel_rfl
theorem Try.ze3 : tyZero Try.prog 3 = some [.int .i64 0] := by kernel_rfl
theorem Try.ar3 : tyArr Try.prog 3 = none := by kernel_rfl
theorem Try.sz4 : tySize Try.prog 4 = some 1 := by kernel_rfl
theorem Try.ag4 : tyAgg Try.prog 4 = some false := by kernel_rfl
theorem Try.sz5 : tySize Try.prog 5 = some 1 := by kernel_rfl
theorem Try.by5 : tyBytes Try.prog 5 = some 1 := by kernel_rfl
theorem Try.ag5 : tyAgg Try.prog 5 = some false := by kernel_rfl
theorem Try.ze5 : tyZero Try.prog 5 = some [.int .u8 0] := by kernel_rfl
theorem Try.sz24 : tySize Try.prog 24 = some 1 := by kernel_rfl
theorem Try.ag24 : tyAgg Try.prog 24 = some false := by kernel_rfl
theorem Try.ze24 : tyZero Try.prog 24 = some [.slice none 0 0] := by kernel_rfl
theorem Try.u824 : isU8 Try.prog 24 = true := by kernel_rfl
theorem Try.ar24 : tyArr Try.prog 24 = none := by kernel_rfl
theorem Try.sz25 : tySize Try.prog 25 = some 1 := by kernel_rfl
theorem Try.ag25 : tyAgg Try.prog 25 = some false := by kernel_rfl
theorem Try.sz27 : tySize Try.prog 27 = some 4 := by kernel_rfl
theorem Try.ag27 : tyAgg Try.prog 27 = some true := by kernel_rfl
theorem Try.fd27f0 : tyField Try.prog 27 0 = some (0, 1, false) := by kernel_rfl
theorem Try.fd27f1 : tyField Try.prog 27 1 = some (1, 1, false) := by kernel_rfl
theorem Try.fd27f2 : tyField Try.prog 27 2 = some (2, 1, false) := by kernel_rfl
theorem Try.fd27f3 : tyField Try.prog 27 3 = some (3, 1, false) := by kernel_rfl
theorem Try.eq27 : tyEqA Try.prog 27 = some [true, true, true, true] := by kernel_rfl
theorem Try.sz29 : tySize Try.prog 29 = some 1 := by kernel_rfl
theorem Try.ag29 : tyAgg Try.prog 29 = some false := by kernel_rfl
theorem Try.sz31 : tySize Try.prog 31 = some 2 := by kernel_rfl
theorem Try.ag31 : tyAgg Try.prog 31 = some true := by kernel_rfl
theorem Try.fd31f0 : tyField Try.prog 31 0 = some (0, 1, false) := by kernel_rfl
theorem Try.fd31f1 : tyField Try.prog 31 1 = some (1, 1, false) := by kernel_rfl
theorem Try.eq31 : tyEqA Try.prog 31 = some [true, true] := by kernel_rfl
theorem Try.sz33 : tySize Try.prog 33 = some 14 := by kernel_rfl
theorem Try.ag33 : tyAgg Try.prog 33 = some true := by kernel_rfl
theorem Try.ze33 : tyZero Try.prog 33 = some [.int .i64 0, .int .i64 0, .int .i64 0, .int .i64 0, .bool false, .slice none 0 0, .int .i64 0, .int .i64 0, .int .i64 0, .int .i64 0, .int .i64 0, .int .i64 0, .int .u32 0, .int .u32 0] := by kernel_rfl
theorem Try.fd33f0 : tyField Try.prog 33 0 = some (0, 1, false) := by kernel_rfl
theorem Try.fd33f1 : tyField Try.prog 33 1 = some (1, 1, false) := by kernel_rfl
theorem Try.fd33f2 : tyField Try.prog 33 2 = some (2, 1, false) := by kernel_rfl
theorem Try.fd33f3 : tyField Try.prog 33 3 = some (3, 1, false) := by kernel_rfl
theorem Try.fd33f4 : tyField Try.prog 33 4 = some (4, 1, false) := by kernel_rfl
theorem Try.fd33f5 : tyField Try.prog 33 5 = some (5, 1, false) := by kernel_rfl
theorem Try.fd33f6 : tyField Try.prog 33 6 = some (6, 1, false) := by kernel_rfl
theorem Try.fd33f7 : tyField Try.prog 33 7 = some (7, 1, false) := by kernel_rfl
theorem Try.fd33f8 : tyField Try.prog 33 8 = some (8, 4, true) := by kernel_rfl
theorem Try.fd33f9 : tyField Try.prog 33 9 = some (12, 2, true) := by kernel_rfl
theorem Try.pl33 : tyPlaces Try.prog 33 = some [(0, 1), (1, 1), (2, 1), (3, 1), (4, 1), (5, 1), (6, 1), (7, 1), (8, 4), (12, 2)] := by kernel_rfl
theorem Try.ar33 : tyArr Try.prog 33 = none := by kernel_rfl
theorem Try.sz35 : tySize Try.prog 35 = some 13 := by kernel_rfl
theorem Try.ag35 : tyAgg Try.prog 35 = some true := by kernel_rfl
theorem Try.ze35 : tyZero Try.prog 35 = some [.int .i64 0, .int .i64 0, .int .i64 0, .int .i64 0, .int .i64 0, .int .i64 0, .int .i64 0, .int .i64 0, .int .i64 0, .int .u32 0, .int .u32 0, .int .u32 0, .slice none 0 0] := by kernel_rfl
theorem Try.fd35f0 : tyField Try.prog 35 0 = some (0, 1, false) := by kernel_rfl
theorem Try.fd35f1 : tyField Try.prog 35 1 = some (1, 1, false) := by kernel_rfl
theorem Try.fd35f2 : tyField Try.prog 35 2 = some (2, 1, false) := by kernel_rfl
theorem Try.fd35f3 : tyField Try.prog 35 3 = some (3, 1, false) := by kernel_rfl
theorem Try.fd35f4 : tyField Try.prog 35 4 = some (4, 1, false) := by kernel_rfl
theorem Try.fd35f5 : tyField Try.prog 35 5 = some (5, 1, false) := by kernel_rfl
theorem Try.fd35f6 : tyField Try.prog 35 6 = some (6, 1, false) := by kernel_rfl
theorem Try.fd35f7 : tyField Try.prog 35 7 = some (7, 1, false) := by kernel_rfl
theorem Try.fd35f8 : tyField Try.prog 35 8 = some (8, 1, false) := by kernel_rfl
theorem Try.fd35f9 : tyField Try.prog 35 9 = some (9, 2, true) := by kernel_rfl
theorem Try.fd35f10 : tyField Try.prog 35 10 = some (11, 1, false) := by kernel_rfl
theorem Try.fd35f11 : tyField Try.prog 35 11 = some (12, 1, false) := by kernel_rfl
theorem Try.ar35 : tyArr Try.prog 35 = none := by kernel_rfl
theorem Try.sz37 : tySize Try.prog 37 = some 29 := by kernel_rfl
theorem Try.by37 : tyBytes Try.prog 37 = some 248 := by kernel_rfl
theorem Try.ag37 : tyAgg Try.prog 37 = some true := by kernel_rfl
theorem Try.ze37 : tyZero Try.prog 37 = some [.int .i64 0, .int .i64 0, .int .i64 0, .int .i64 0, .int .i64 0, .bool false, .slice none 0 0, .int .i64 0, .int .i64 0, .int .i64 0, .int .i64 0, .int .i64 0, .int .i64 0, .int .u32 0, .int .u32 0, .int .i64 0, .int .i64 0, .int .i64 0, .int .i64 0, .int .i64 0, .int .i64 0, .int .i64 0, .int .i64 0, .int .i64 0, .int .u32 0, .int .u32 0, .int .u32 0, .slice none 0 0, .int .i64 0] := by kernel_rfl
theorem Try.fd37f0 : tyField Try.prog 37 0 = some (0, 1, false) := by kernel_rfl
theorem Try.fd37f1 : tyField Try.prog 37 1 = some (1, 14, true) := by kernel_rfl
theorem Try.fd37f2 : tyField Try.prog 37 2 = some (15, 13, true) := by kernel_rfl
theorem Try.fd37f3 : tyField Try.prog 37 3 = some (28, 1, false) := by kernel_rfl
theorem Try.pl37 : tyPlaces Try.prog 37 = some [(0, 1), (1, 14), (15, 13), (28, 1)] := by kernel_rfl
theorem Try.ar37 : tyArr Try.prog 37 = none := by kernel_rfl
theorem Try.sz38 : tySize Try.prog 38 = some 1 := by kernel_rfl
theorem Try.ag38 : tyAgg Try.prog 38 = some false := by kernel_rfl
theorem Try.sz62 : tySize Try.prog 62 = some 1 := by kernel_rfl
theorem Try.ag62 : tyAgg Try.prog 62 = some false := by kernel_rfl
theorem Try.sz65 : tySize Try.prog 65 = some 3 := by kernel_rfl
theorem Try.ze65 : tyZero Try.prog 65 = some [.pointer none, .slice none 0 0, .bool false] := by kernel_rfl
theorem Try.fd65f0 : tyField Try.prog 65 0 = some (0, 1, false) := by kernel_rfl
theorem Try.fd65f1 : tyField Try.prog 65 1 = some (1, 1, false) := by kernel_rfl
theorem Try.fd65f2 : tyField Try.prog 65 2 = some (2, 1, false) := by kernel_rfl
theorem Try.pl65 : tyPlaces Try.prog 65 = some [(0, 1), (1, 1), (2, 1)] := by kernel_rfl
theorem Try.ar65 : tyArr Try.prog 65 = none := by kernel_rfl
theorem Try.sz87 : tySize Try.prog 87 = some 1 := by kernel_rfl
theorem Try.ag87 : tyAgg Try.prog 87 = some false := by kernel_rfl
theorem Try.ze87 : tyZero Try.prog 87 = some [.int .u64 0] := by kernel_rfl
theorem Try.ar87 : tyArr Try.prog 87 = none := by kernel_rfl
theorem Try.ze93 : tyZero Try.prog 93 = some [.slice none 0 0, .int .i64 0] := by kernel_rfl
theorem Try.fd93f0 : tyField Try.prog 93 0 = some (0, 1, false) := by kernel_rfl
theorem Try.fd93f1 : tyField Try.prog 93 1 = some (1, 1, false) := by kernel_rfl
theorem Try.pl93 : tyPlaces Try.prog 93 = some [(0, 1), (1, 1)] := by kernel_rfl
theorem Try.ar93 : tyArr Try.prog 93 = none := by kernel_rfl
theorem Try.ze95 : tyZero Try.prog 95 = some [.slice none 0 0, .int .i64 0, .int .i64 0] := by kernel_rfl
theorem Try.fd95f0 : tyField Try.prog 95 0 = some (0, 2, true) := by kernel_rfl
theorem Try.fd95f1 : tyField Try.prog 95 1 = some (2, 1, false) := by kernel_rfl
theorem Try.pl95 : tyPlaces Try.prog 95 = some [(0, 2), (2, 1)] := by kernel_rfl
theorem Try.ar95 : tyArr Try.prog 95 = none := by kernel_rfl
theorem Try.sz98 : tySize Try.prog 98 = some 1 := by kernel_rfl
theorem Try.ag98 : tyAgg Try.prog 98 = some false := by kernel_rfl
theorem Try.ze98 : tyZero Try.prog 98 = some [.pointer none] := by kernel_rfl
theorem Try.mp100 : tyMap Try.prog 100 = some (false, [.i64], .v (.nilFunc)) := by kernel_rfl
theorem Try.ok9 : FnOK Try.prog 9 := ⟨_, Try.func9, rfl, by kernel_rfl⟩
theorem Try.ok10 : FnOK Try.prog 10 := ⟨_, Try.func10, rfl, by kernel_rfl⟩
theorem Try.ok13 : FnOK Try.prog 13 := ⟨_, Try.func13, rfl, by kernel_rfl⟩
theorem Try.ok14 : FnOK Try.prog 14 := ⟨_, Try.func14, rfl, by kernel_rfl⟩
theorem Try.ok15 : FnOK Try.prog 15 := ⟨_, Try.func15, rfl, by kernel_rfl⟩
theorem Try.ok16 : FnOK Try.prog 16 := ⟨_, Try.func16, rfl, by kernel_rfl⟩
theorem Try.ok21 : FnOK Try.prog 21 := ⟨_, Try.func21, rfl, by kernel_rfl⟩
theorem Try.ok23 : FnOK Try.prog 23 := ⟨_, Try.func23, rfl, by kernel_rfl⟩
theorem Try.ok26 : FnOK Try.prog 26 := ⟨_, Try.func26, rfl, by kernel_rfl⟩
theorem Try.ok27 : FnOK Try.prog 27 := ⟨_, Try.func27, rfl, by kernel_rfl⟩
theorem Try.ok28 : FnOK Try.prog 28 := ⟨_, Try.func28, rfl, by kernel_rfl⟩
theorem Try.ok29 : FnOK Try.prog 29 := ⟨_, Try.func29, rfl, by kernel_rfl⟩
theorem Try.ok30 : FnOK Try.prog 30 := ⟨_, Try.func30, rfl, by kernel_rfl⟩
theorem Try.ok34 : FnOK Try.prog 34 := ⟨_, Try.func34, rfl, by kernel_rfl⟩
theorem Try.ok35 : FnOK Try.prog 35 := ⟨_, Try.func35, rfl, by kernel_rfl⟩
theorem Try.ok45 : FnOK Try.prog 45 := ⟨_, Try.func45, rfl, by kernel_rfl⟩
theorem Try.ok46 : FnOK Try.prog 46 := ⟨_, Try.func46, rfl, by kernel_rfl⟩
theorem Try.ok47 : FnOK Try.prog 47 := ⟨_, Try.func47, rfl, by kernel_rfl⟩
theorem Try.ok49 : FnOK Try.prog 49 := ⟨_, Try.func49, rfl, by kernel_rfl⟩
theorem Try.ok50 : FnOK Try.prog 50 := ⟨_, Try.func50, rfl, by kernel_rfl⟩
theorem Try.ok51 : FnOK Try.prog 51 := ⟨_, Try.func51, rfl, by kernel_rfl⟩
theorem Try.ok52 : FnOK Try.prog 52 := ⟨_, Try.func52, rfl, by kernel_rfl⟩
theorem Try.ok53 : FnOK Try.prog 53 := ⟨_, Try.func53, rfl, by kernel_rfl⟩
theorem Try.ok54 : FnOK Try.prog 54 := ⟨_, Try.func54, rfl, by kernel_rfl⟩
theorem Try.ok57 : FnOK Try.prog 57 := ⟨_, Try.func57, rfl, by kernel_rfl⟩
theorem Try.ok58 : FnOK Try.prog 58 := ⟨_, Try.func58, rfl, by kernel_rfl⟩
theorem Try.ok59 : FnOK Try.prog 59 := ⟨_, Try.func59, rfl, by kernel_rfl⟩
theorem Try.ok60 : FnOK Try.prog 60 := ⟨_, Try.func60, rfl, by kernel_rfl⟩
theorem Try.ok61 : FnOK Try.prog 61 := ⟨_, Try.func61, rfl, by kernel_rfl⟩
theorem Try.ok62 : FnOK Try.prog 62 := ⟨_, Try.func62, rfl, by kernel_rfl⟩
theorem Try.ok63 : FnOK Try.prog 63 := ⟨_, Try.func63, rfl, by kernel_rfl⟩
theorem Try.ok64 : FnOK Try.prog 64 := ⟨_, Try.func64, rfl, by kernel_rfl⟩
theorem Try.ok65 : FnOK Try.prog 65 := ⟨_, Try.func65, rfl, by kernel_rfl⟩
theorem Try.ok66 : FnOK Try.prog 66 := ⟨_, Try.func66, rfl, by kernel_rfl⟩
theorem Try.ok67 : FnOK Try.prog 67 := ⟨_, Try.func67, rfl, by kernel_rfl⟩
theorem Try.ok68 : FnOK Try.prog 68 := ⟨_, Try.func68, rfl, by kernel_rfl⟩
theorem Try.ok69 : FnOK Try.prog 69 := ⟨_, Try.func69, rfl, by kernel_rfl⟩
theorem Try.ok70 : FnOK Try.prog 70 := ⟨_, Try.func70, rfl, by kernel_rfl⟩
theorem Try.ok71 : FnOK Try.prog 71 := ⟨_, Try.func71, rfl, by kernel_rfl⟩
theorem Try.ok72 : FnOK Try.prog 72 := ⟨_, Try.func72, rfl, by kernel_rfl⟩
theorem Try.ok73 : FnOK Try.prog 73 := ⟨_, Try.func73, rfl, by kernel_rfl⟩
theorem Try.ok74 : FnOK Try.prog 74 := ⟨_, Try.func74, rfl, by kernel_rfl⟩
theorem Try.ok75 : FnOK Try.prog 75 := ⟨_, Try.func75, rfl, by kernel_rfl⟩
theorem Try.ok76 : FnOK Try.prog 76 := ⟨_, Try.func76, rfl, by kernel_rfl⟩
theorem Try.ok77 : FnOK Try.prog 77 := ⟨_, Try.func77, rfl, by kernel_rfl⟩
theorem Try.ok78 : FnOK Try.prog 78 := ⟨_, Try.func78, rfl, by kernel_rfl⟩
theorem Try.ok79 : FnOK Try.prog 79 := ⟨_, Try.func79, rfl, by kernel_rfl⟩
theorem Try.ok80 : FnOK Try.prog 80 := ⟨_, Try.func80, rfl, by kernel_rfl⟩
end Go.Proofs
