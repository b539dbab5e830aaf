/- Facts on the types of the translation, each read off its table. No condition. -/
import Derived.Test.YtahpcfdhlgcinaaTa
import Derived.Test.YtahpcfdhlgcinaaChecked
import Derived.KernelRfl
namespace Go.Proofs.Ytahpcfdhlgcinaa
open Go Go.Abs
theorem tSize2 : tSize Try.prog 2 = some 1 := by kernel_rfl
theorem tBytes2 : tBytes Try.prog 2 = some 8 := by kernel_rfl
theorem tAgg2 : tAgg Try.prog 2 = some false := by kernel_rfl
theorem tZero2 : tZero Try.prog 2 = some (Value.int IntKind.i64 0) := by kernel_rfl
theorem tInt2 : tInt Try.prog 2 = some IntKind.i64 := by kernel_rfl
theorem tIs2 : (Try.prog.underlying 2).isSome = true := by kernel_rfl
theorem tSize3 : tSize Try.prog 3 = some 1 := by kernel_rfl
theorem tBytes3 : tBytes Try.prog 3 = some 8 := by kernel_rfl
theorem tAgg3 : tAgg Try.prog 3 = some false := by kernel_rfl
theorem tZero3 : tZero Try.prog 3 = some (Value.int IntKind.i64 0) := by kernel_rfl
theorem tInt3 : tInt Try.prog 3 = some IntKind.i64 := by kernel_rfl
theorem tIs3 : (Try.prog.underlying 3).isSome = true := by kernel_rfl
theorem tSize4 : tSize Try.prog 4 = some 1 := by kernel_rfl
theorem tBytes4 : tBytes Try.prog 4 = some 1 := by kernel_rfl
theorem tAgg4 : tAgg Try.prog 4 = some false := by kernel_rfl
theorem tZero4 : tZero Try.prog 4 = some (Value.bool false) := by kernel_rfl
theorem tIs4 : (Try.prog.underlying 4).isSome = true := by kernel_rfl
theorem tSize5 : tSize Try.prog 5 = some 1 := by kernel_rfl
theorem tBytes5 : tBytes Try.prog 5 = some 1 := by kernel_rfl
theorem tAgg5 : tAgg Try.prog 5 = some false := by kernel_rfl
theorem tZero5 : tZero Try.prog 5 = some (Value.int IntKind.u8 0) := by kernel_rfl
theorem tInt5 : tInt Try.prog 5 = some IntKind.u8 := by kernel_rfl
theorem tIs5 : (Try.prog.underlying 5).isSome = true := by kernel_rfl
theorem tSize6 : tSize Try.prog 6 = some 1 := by kernel_rfl
theorem tBytes6 : tBytes Try.prog 6 = some 1 := by kernel_rfl
theorem tAgg6 : tAgg Try.prog 6 = some false := by kernel_rfl
theorem tZero6 : tZero Try.prog 6 = some (Value.int IntKind.u8 0) := by kernel_rfl
theorem tInt6 : tInt Try.prog 6 = some IntKind.u8 := by kernel_rfl
theorem tIs6 : (Try.prog.underlying 6).isSome = true := by kernel_rfl
theorem tSize7 : tSize Try.prog 7 = some 4 := by kernel_rfl
theorem tBytes7 : tBytes Try.prog 7 = some 24 := by kernel_rfl
theorem tAgg7 : tAgg Try.prog 7 = some true := by kernel_rfl
theorem tZero7 : tZero Try.prog 7 = some (Value.agg #[(Value.int IntKind.i64 0), (Value.int IntKind.i64 0), (Value.bool false), (Value.int IntKind.u8 0)]) := by kernel_rfl
theorem tPlaces7 : tPlaces Try.prog 7 = some [(0, 1), (1, 1), (2, 1), (3, 1)] := by kernel_rfl
theorem tField7_0 : tField Try.prog 7 0 = some (0, 2) := by kernel_rfl
theorem tField7_1 : tField Try.prog 7 1 = some (1, 3) := by kernel_rfl
theorem tField7_2 : tField Try.prog 7 2 = some (2, 4) := by kernel_rfl
theorem tField7_3 : tField Try.prog 7 3 = some (3, 6) := by kernel_rfl
theorem tIs7 : (Try.prog.underlying 7).isSome = true := by kernel_rfl
theorem tSize8 : tSize Try.prog 8 = some 4 := by kernel_rfl
theorem tBytes8 : tBytes Try.prog 8 = some 24 := by kernel_rfl
theorem tAgg8 : tAgg Try.prog 8 = some true := by kernel_rfl
theorem tZero8 : tZero Try.prog 8 = some (Value.agg #[(Value.int IntKind.i64 0), (Value.int IntKind.i64 0), (Value.bool false), (Value.int IntKind.u8 0)]) := by kernel_rfl
theorem tPlaces8 : tPlaces Try.prog 8 = some [(0, 1), (1, 1), (2, 1), (3, 1)] := by kernel_rfl
theorem tField8_0 : tField Try.prog 8 0 = some (0, 2) := by kernel_rfl
theorem tField8_1 : tField Try.prog 8 1 = some (1, 3) := by kernel_rfl
theorem tField8_2 : tField Try.prog 8 2 = some (2, 4) := by kernel_rfl
theorem tField8_3 : tField Try.prog 8 3 = some (3, 6) := by kernel_rfl
theorem tIs8 : (Try.prog.underlying 8).isSome = true := by kernel_rfl
theorem tSize9 : tSize Try.prog 9 = some 1 := by kernel_rfl
theorem tBytes9 : tBytes Try.prog 9 = some 16 := by kernel_rfl
theorem tAgg9 : tAgg Try.prog 9 = some false := by kernel_rfl
theorem tZero9 : tZero Try.prog 9 = some (Value.string ⟨#[]⟩) := by kernel_rfl
theorem tStr9 : tStr Try.prog 9 = true := by kernel_rfl
theorem tIs9 : (Try.prog.underlying 9).isSome = true := by kernel_rfl
theorem tSize10 : tSize Try.prog 10 = some 1 := by kernel_rfl
theorem tBytes10 : tBytes Try.prog 10 = some 16 := by kernel_rfl
theorem tAgg10 : tAgg Try.prog 10 = some false := by kernel_rfl
theorem tZero10 : tZero Try.prog 10 = some (Value.string ⟨#[]⟩) := by kernel_rfl
theorem tStr10 : tStr Try.prog 10 = true := by kernel_rfl
theorem tIs10 : (Try.prog.underlying 10).isSome = true := by kernel_rfl
theorem tSize11 : tSize Try.prog 11 = some 1 := by kernel_rfl
theorem tBytes11 : tBytes Try.prog 11 = some 16 := by kernel_rfl
theorem tAgg11 : tAgg Try.prog 11 = some false := by kernel_rfl
theorem tZero11 : tZero Try.prog 11 = some (Value.string ⟨#[]⟩) := by kernel_rfl
theorem tStr11 : tStr Try.prog 11 = true := by kernel_rfl
theorem tIs11 : (Try.prog.underlying 11).isSome = true := by kernel_rfl
theorem tSize12 : tSize Try.prog 12 = some 1 := by kernel_rfl
theorem tBytes12 : tBytes Try.prog 12 = some 8 := by kernel_rfl
theorem tAgg12 : tAgg Try.prog 12 = some false := by kernel_rfl
theorem tZero12 : tZero Try.prog 12 = some (Value.int IntKind.u64 0) := by kernel_rfl
theorem tInt12 : tInt Try.prog 12 = some IntKind.u64 := by kernel_rfl
theorem tIs12 : (Try.prog.underlying 12).isSome = true := by kernel_rfl
theorem tSize13 : tSize Try.prog 13 = some 2 := by kernel_rfl
theorem tBytes13 : tBytes Try.prog 13 = some 24 := by kernel_rfl
theorem tAgg13 : tAgg Try.prog 13 = some true := by kernel_rfl
theorem tZero13 : tZero Try.prog 13 = some (Value.agg #[(Value.string ⟨#[]⟩), (Value.int IntKind.u64 0)]) := by kernel_rfl
theorem tPlaces13 : tPlaces Try.prog 13 = some [(0, 1), (1, 1)] := by kernel_rfl
theorem tField13_0 : tField Try.prog 13 0 = some (0, 9) := by kernel_rfl
theorem tField13_1 : tField Try.prog 13 1 = some (1, 12) := by kernel_rfl
theorem tIs13 : (Try.prog.underlying 13).isSome = true := by kernel_rfl
theorem tSize14 : tSize Try.prog 14 = some 2 := by kernel_rfl
theorem tBytes14 : tBytes Try.prog 14 = some 24 := by kernel_rfl
theorem tAgg14 : tAgg Try.prog 14 = some true := by kernel_rfl
theorem tZero14 : tZero Try.prog 14 = some (Value.agg #[(Value.string ⟨#[]⟩), (Value.int IntKind.u64 0)]) := by kernel_rfl
theorem tPlaces14 : tPlaces Try.prog 14 = some [(0, 1), (1, 1)] := by kernel_rfl
theorem tField14_0 : tField Try.prog 14 0 = some (0, 9) := by kernel_rfl
theorem tField14_1 : tField Try.prog 14 1 = some (1, 12) := by kernel_rfl
theorem tIs14 : (Try.prog.underlying 14).isSome = true := by kernel_rfl
theorem tSize15 : tSize Try.prog 15 = some 1 := by kernel_rfl
theorem tBytes15 : tBytes Try.prog 15 = some 8 := by kernel_rfl
theorem tAgg15 : tAgg Try.prog 15 = some false := by kernel_rfl
theorem tZero15 : tZero Try.prog 15 = some (Value.pointer none) := by kernel_rfl
theorem tIs15 : (Try.prog.underlying 15).isSome = true := by kernel_rfl
theorem tSize16 : tSize Try.prog 16 = some 1 := by kernel_rfl
theorem tBytes16 : tBytes Try.prog 16 = some 8 := by kernel_rfl
theorem tAgg16 : tAgg Try.prog 16 = some false := by kernel_rfl
theorem tZero16 : tZero Try.prog 16 = some (Value.pointer none) := by kernel_rfl
theorem tIs16 : (Try.prog.underlying 16).isSome = true := by kernel_rfl
theorem tSize17 : tSize Try.prog 17 = some 1 := by kernel_rfl
theorem tBytes17 : tBytes Try.prog 17 = some 8 := by kernel_rfl
theorem tAgg17 : tAgg Try.prog 17 = some false := by kernel_rfl
theorem tZero17 : tZero Try.prog 17 = some (Value.pointer none) := by kernel_rfl
theorem tIs17 : (Try.prog.underlying 17).isSome = true := by kernel_rfl
theorem tSize18 : tSize Try.prog 18 = some 1 := by kernel_rfl
theorem tBytes18 : tBytes Try.prog 18 = some 8 := by kernel_rfl
theorem tAgg18 : tAgg Try.prog 18 = some true := by kernel_rfl
theorem tZero18 : tZero Try.prog 18 = some (Value.agg #[(Value.pointer none)]) := by kernel_rfl
theorem tPlaces18 : tPlaces Try.prog 18 = some [(0, 1)] := by kernel_rfl
theorem tField18_0 : tField Try.prog 18 0 = some (0, 17) := by kernel_rfl
theorem tIs18 : (Try.prog.underlying 18).isSome = true := by kernel_rfl
theorem tSize19 : tSize Try.prog 19 = some 1 := by kernel_rfl
theorem tBytes19 : tBytes Try.prog 19 = some 8 := by kernel_rfl
theorem tAgg19 : tAgg Try.prog 19 = some true := by kernel_rfl
theorem tZero19 : tZero Try.prog 19 = some (Value.agg #[(Value.pointer none)]) := by kernel_rfl
theorem tPlaces19 : tPlaces Try.prog 19 = some [(0, 1)] := by kernel_rfl
theorem tField19_0 : tField Try.prog 19 0 = some (0, 17) := by kernel_rfl
theorem tIs19 : (Try.prog.underlying 19).isSome = true := by kernel_rfl
theorem tSize21 : tSize Try.prog 21 = some 1 := by kernel_rfl
theorem tBytes21 : tBytes Try.prog 21 = some 4 := by kernel_rfl
theorem tAgg21 : tAgg Try.prog 21 = some false := by kernel_rfl
theorem tZero21 : tZero Try.prog 21 = some (Value.int IntKind.i32 0) := by kernel_rfl
theorem tInt21 : tInt Try.prog 21 = some IntKind.i32 := by kernel_rfl
theorem tIs21 : (Try.prog.underlying 21).isSome = true := by kernel_rfl
theorem tSize31 : tSize Try.prog 31 = some 1 := by kernel_rfl
theorem tBytes31 : tBytes Try.prog 31 = some 24 := by kernel_rfl
theorem tAgg31 : tAgg Try.prog 31 = some false := by kernel_rfl
theorem tZero31 : tZero Try.prog 31 = some (Value.slice none 0 0) := by kernel_rfl
theorem tElem31 : tElem Try.prog 31 = some 3 := by kernel_rfl
theorem tIs31 : (Try.prog.underlying 31).isSome = true := by kernel_rfl
theorem tSize39 : tSize Try.prog 39 = some 1 := by kernel_rfl
theorem tBytes39 : tBytes Try.prog 39 = some 8 := by kernel_rfl
theorem tAgg39 : tAgg Try.prog 39 = some false := by kernel_rfl
theorem tZero39 : tZero Try.prog 39 = some (Value.int IntKind.u64 0) := by kernel_rfl
theorem tInt39 : tInt Try.prog 39 = some IntKind.u64 := by kernel_rfl
theorem tIs39 : (Try.prog.underlying 39).isSome = true := by kernel_rfl
theorem tSize40 : tSize Try.prog 40 = some 20 := by kernel_rfl
theorem tBytes40 : tBytes Try.prog 40 = some 20 := by kernel_rfl
theorem tAgg40 : tAgg Try.prog 40 = some true := by kernel_rfl
theorem tZero40 : tZero Try.prog 40 = some (Value.agg #[(Value.int IntKind.u8 0), (Value.int IntKind.u8 0), (Value.int IntKind.u8 0), (Value.int IntKind.u8 0), (Value.int IntKind.u8 0), (Value.int IntKind.u8 0), (Value.int IntKind.u8 0), (Value.int IntKind.u8 0), (Value.int IntKind.u8 0), (Value.int IntKind.u8 0), (Value.int IntKind.u8 0), (Value.int IntKind.u8 0), (Value.int IntKind.u8 0), (Value.int IntKind.u8 0), (Value.int IntKind.u8 0), (Value.int IntKind.u8 0), (Value.int IntKind.u8 0), (Value.int IntKind.u8 0), (Value.int IntKind.u8 0), (Value.int IntKind.u8 0)]) := by kernel_rfl
theorem tPlaces40 : tPlaces Try.prog 40 = none := by kernel_rfl
theorem tArr40 : tArr Try.prog 40 = some (20, 1) := by kernel_rfl
theorem tIs40 : (Try.prog.underlying 40).isSome = true := by kernel_rfl
theorem tSize41 : tSize Try.prog 41 = some 1 := by kernel_rfl
theorem tBytes41 : tBytes Try.prog 41 = some 24 := by kernel_rfl
theorem tAgg41 : tAgg Try.prog 41 = some false := by kernel_rfl
theorem tZero41 : tZero Try.prog 41 = some (Value.slice none 0 0) := by kernel_rfl
theorem tElem41 : tElem Try.prog 41 = some 5 := by kernel_rfl
theorem tIs41 : (Try.prog.underlying 41).isSome = true := by kernel_rfl
theorem tSize48 : tSize Try.prog 48 = some 1 := by kernel_rfl
theorem tBytes48 : tBytes Try.prog 48 = some 8 := by kernel_rfl
theorem tAgg48 : tAgg Try.prog 48 = some false := by kernel_rfl
theorem tZero48 : tZero Try.prog 48 = some (Value.int IntKind.u64 0) := by kernel_rfl
theorem tInt48 : tInt Try.prog 48 = some IntKind.u64 := by kernel_rfl
theorem tIs48 : (Try.prog.underlying 48).isSome = true := by kernel_rfl
theorem tSize52 : tSize Try.prog 52 = some 1 := by kernel_rfl
theorem tBytes52 : tBytes Try.prog 52 = some 8 := by kernel_rfl
theorem tAgg52 : tAgg Try.prog 52 = some false := by kernel_rfl
theorem tZero52 : tZero Try.prog 52 = some (Value.int IntKind.i64 0) := by kernel_rfl
theorem tInt52 : tInt Try.prog 52 = some IntKind.i64 := by kernel_rfl
theorem tIs52 : (Try.prog.underlying 52).isSome = true := by kernel_rfl
theorem tSize59 : tSize Try.prog 59 = some 1 := by kernel_rfl
theorem tBytes59 : tBytes Try.prog 59 = some 4 := by kernel_rfl
theorem tAgg59 : tAgg Try.prog 59 = some false := by kernel_rfl
theorem tZero59 : tZero Try.prog 59 = some (Value.int IntKind.u32 0) := by kernel_rfl
theorem tInt59 : tInt Try.prog 59 = some IntKind.u32 := by kernel_rfl
theorem tIs59 : (Try.prog.underlying 59).isSome = true := by kernel_rfl
theorem tSize61 : tSize Try.prog 61 = some 1 := by kernel_rfl
theorem tBytes61 : tBytes Try.prog 61 = some 8 := by kernel_rfl
theorem tAgg61 : tAgg Try.prog 61 = some false := by kernel_rfl
theorem tZero61 : tZero Try.prog 61 = some (Value.int IntKind.u64 0) := by kernel_rfl
theorem tInt61 : tInt Try.prog 61 = some IntKind.u64 := by kernel_rfl
theorem tIs61 : (Try.prog.underlying 61).isSome = true := by kernel_rfl
theorem tSize65 : tSize Try.prog 65 = some 1 := by kernel_rfl
theorem tBytes65 : tBytes Try.prog 65 = some 8 := by kernel_rfl
theorem tAgg65 : tAgg Try.prog 65 = some false := by kernel_rfl
theorem tZero65 : tZero Try.prog 65 = some (Value.pointer none) := by kernel_rfl
theorem tIs65 : (Try.prog.underlying 65).isSome = true := by kernel_rfl
theorem tSize67 : tSize Try.prog 67 = some 1 := by kernel_rfl
theorem tBytes67 : tBytes Try.prog 67 = some 8 := by kernel_rfl
theorem tAgg67 : tAgg Try.prog 67 = some false := by kernel_rfl
theorem tZero67 : tZero Try.prog 67 = some (Value.pointer none) := by kernel_rfl
theorem tIs67 : (Try.prog.underlying 67).isSome = true := by kernel_rfl
theorem tSize71 : tSize Try.prog 71 = some 4 := by kernel_rfl
theorem tBytes71 : tBytes Try.prog 71 = some 40 := by kernel_rfl
theorem tAgg71 : tAgg Try.prog 71 = some true := by kernel_rfl
theorem tZero71 : tZero Try.prog 71 = some (Value.agg #[(Value.pointer none), (Value.pointer none), (Value.pointer none), (Value.string ⟨#[]⟩)]) := by kernel_rfl
theorem tPlaces71 : tPlaces Try.prog 71 = some [(0, 1), (1, 1), (2, 1), (3, 1)] := by kernel_rfl
theorem tField71_0 : tField Try.prog 71 0 = some (0, 17) := by kernel_rfl
theorem tField71_1 : tField Try.prog 71 1 = some (1, 17) := by kernel_rfl
theorem tField71_2 : tField Try.prog 71 2 = some (2, 17) := by kernel_rfl
theorem tField71_3 : tField Try.prog 71 3 = some (3, 9) := by kernel_rfl
theorem tIs71 : (Try.prog.underlying 71).isSome = true := by kernel_rfl
theorem tSize72 : tSize Try.prog 72 = some 4 := by kernel_rfl
theorem tBytes72 : tBytes Try.prog 72 = some 40 := by kernel_rfl
theorem tAgg72 : tAgg Try.prog 72 = some true := by kernel_rfl
theorem tZero72 : tZero Try.prog 72 = some (Value.agg #[(Value.pointer none), (Value.pointer none), (Value.pointer none), (Value.string ⟨#[]⟩)]) := by kernel_rfl
theorem tPlaces72 : tPlaces Try.prog 72 = some [(0, 1), (1, 1), (2, 1), (3, 1)] := by kernel_rfl
theorem tField72_0 : tField Try.prog 72 0 = some (0, 17) := by kernel_rfl
theorem tField72_1 : tField Try.prog 72 1 = some (1, 17) := by kernel_rfl
theorem tField72_2 : tField Try.prog 72 2 = some (2, 17) := by kernel_rfl
theorem tField72_3 : tField Try.prog 72 3 = some (3, 9) := by kernel_rfl
theorem tIs72 : (Try.prog.underlying 72).isSome = true := by kernel_rfl
theorem tSize73 : tSize Try.prog 73 = some 0 := by kernel_rfl
theorem tBytes73 : tBytes Try.prog 73 = some 0 := by kernel_rfl
theorem tAgg73 : tAgg Try.prog 73 = some true := by kernel_rfl
theorem tZero73 : tZero Try.prog 73 = some (Value.agg #[]) := by kernel_rfl
theorem tPlaces73 : tPlaces Try.prog 73 = none := by kernel_rfl
theorem tArr73 : tArr Try.prog 73 = some (0, 1) := by kernel_rfl
theorem tIs73 : (Try.prog.underlying 73).isSome = true := by kernel_rfl
theorem tSize74 : tSize Try.prog 74 = some 0 := by kernel_rfl
theorem tBytes74 : tBytes Try.prog 74 = some 0 := by kernel_rfl
theorem tAgg74 : tAgg Try.prog 74 = some true := by kernel_rfl
theorem tZero74 : tZero Try.prog 74 = some (Value.agg #[]) := by kernel_rfl
theorem tPlaces74 : tPlaces Try.prog 74 = some [(0, 0)] := by kernel_rfl
theorem tIs74 : (Try.prog.underlying 74).isSome = true := by kernel_rfl
theorem tSize75 : tSize Try.prog 75 = some 0 := by kernel_rfl
theorem tBytes75 : tBytes Try.prog 75 = some 0 := by kernel_rfl
theorem tAgg75 : tAgg Try.prog 75 = some true := by kernel_rfl
theorem tZero75 : tZero Try.prog 75 = some (Value.agg #[]) := by kernel_rfl
theorem tPlaces75 : tPlaces Try.prog 75 = some [(0, 0)] := by kernel_rfl
theorem tIs75 : (Try.prog.underlying 75).isSome = true := by kernel_rfl
theorem tSize77 : tSize Try.prog 77 = some 1 := by kernel_rfl
theorem tBytes77 : tBytes Try.prog 77 = some 1 := by kernel_rfl
theorem tAgg77 : tAgg Try.prog 77 = some false := by kernel_rfl
theorem tZero77 : tZero Try.prog 77 = some (Value.int IntKind.u8 0) := by kernel_rfl
theorem tInt77 : tInt Try.prog 77 = some IntKind.u8 := by kernel_rfl
theorem tIs77 : (Try.prog.underlying 77).isSome = true := by kernel_rfl
theorem tSize78 : tSize Try.prog 78 = some 1 := by kernel_rfl
theorem tBytes78 : tBytes Try.prog 78 = some 1 := by kernel_rfl
theorem tAgg78 : tAgg Try.prog 78 = some false := by kernel_rfl
theorem tZero78 : tZero Try.prog 78 = some (Value.int IntKind.u8 0) := by kernel_rfl
theorem tInt78 : tInt Try.prog 78 = some IntKind.u8 := by kernel_rfl
theorem tIs78 : (Try.prog.underlying 78).isSome = true := by kernel_rfl
theorem tSize80 : tSize Try.prog 80 = some 1 := by kernel_rfl
theorem tBytes80 : tBytes Try.prog 80 = some 8 := by kernel_rfl
theorem tAgg80 : tAgg Try.prog 80 = some false := by kernel_rfl
theorem tZero80 : tZero Try.prog 80 = some (Value.pointer none) := by kernel_rfl
theorem tIs80 : (Try.prog.underlying 80).isSome = true := by kernel_rfl
theorem tSize81 : tSize Try.prog 81 = some 1 := by kernel_rfl
theorem tBytes81 : tBytes Try.prog 81 = some 4 := by kernel_rfl
theorem tAgg81 : tAgg Try.prog 81 = some false := by kernel_rfl
theorem tZero81 : tZero Try.prog 81 = some (Value.int IntKind.i32 0) := by kernel_rfl
theorem tInt81 : tInt Try.prog 81 = some IntKind.i32 := by kernel_rfl
theorem tIs81 : (Try.prog.underlying 81).isSome = true := by kernel_rfl
theorem tSize82 : tSize Try.prog 82 = some 1 := by kernel_rfl
theorem tBytes82 : tBytes Try.prog 82 = some 4 := by kernel_rfl
theorem tAgg82 : tAgg Try.prog 82 = some false := by kernel_rfl
theorem tZero82 : tZero Try.prog 82 = some (Value.int IntKind.i32 0) := by kernel_rfl
theorem tInt82 : tInt Try.prog 82 = some IntKind.i32 := by kernel_rfl
theorem tIs82 : (Try.prog.underlying 82).isSome = true := by kernel_rfl
theorem tSize83 : tSize Try.prog 83 = some 11 := by kernel_rfl
theorem tBytes83 : tBytes Try.prog 83 = some 48 := by kernel_rfl
theorem tAgg83 : tAgg Try.prog 83 = some true := by kernel_rfl
theorem tZero83 : tZero Try.prog 83 = some (Value.agg #[(Value.int IntKind.u64 0), (Value.int IntKind.u64 0), (Value.int IntKind.u32 0), (Value.int IntKind.u8 0), (Value.int IntKind.u8 0), (Value.int IntKind.u8 0), (Value.int IntKind.u8 0), Value.nilFunc, (Value.pointer none), (Value.int IntKind.i32 0), (Value.int IntKind.i32 0)]) := by kernel_rfl
theorem tPlaces83 : tPlaces Try.prog 83 = some [(0, 1), (1, 1), (2, 1), (3, 1), (4, 1), (5, 1), (6, 1), (7, 1), (8, 1), (9, 1), (10, 1)] := by kernel_rfl
theorem tField83_0 : tField Try.prog 83 0 = some (0, 12) := by kernel_rfl
theorem tField83_1 : tField Try.prog 83 1 = some (1, 12) := by kernel_rfl
theorem tField83_2 : tField Try.prog 83 2 = some (2, 59) := by kernel_rfl
theorem tField83_3 : tField Try.prog 83 3 = some (3, 77) := by kernel_rfl
theorem tField83_4 : tField Try.prog 83 4 = some (4, 5) := by kernel_rfl
theorem tField83_5 : tField Try.prog 83 5 = some (5, 5) := by kernel_rfl
theorem tField83_6 : tField Try.prog 83 6 = some (6, 78) := by kernel_rfl
theorem tField83_8 : tField Try.prog 83 8 = some (8, 80) := by kernel_rfl
theorem tField83_9 : tField Try.prog 83 9 = some (9, 81) := by kernel_rfl
theorem tField83_10 : tField Try.prog 83 10 = some (10, 82) := by kernel_rfl
theorem tIs83 : (Try.prog.underlying 83).isSome = true := by kernel_rfl
theorem tSize84 : tSize Try.prog 84 = some 11 := by kernel_rfl
theorem tBytes84 : tBytes Try.prog 84 = some 48 := by kernel_rfl
theorem tAgg84 : tAgg Try.prog 84 = some true := by kernel_rfl
theorem tZero84 : tZero Try.prog 84 = some (Value.agg #[(Value.int IntKind.u64 0), (Value.int IntKind.u64 0), (Value.int IntKind.u32 0), (Value.int IntKind.u8 0), (Value.int IntKind.u8 0), (Value.int IntKind.u8 0), (Value.int IntKind.u8 0), Value.nilFunc, (Value.pointer none), (Value.int IntKind.i32 0), (Value.int IntKind.i32 0)]) := by kernel_rfl
theorem tPlaces84 : tPlaces Try.prog 84 = some [(0, 1), (1, 1), (2, 1), (3, 1), (4, 1), (5, 1), (6, 1), (7, 1), (8, 1), (9, 1), (10, 1)] := by kernel_rfl
theorem tField84_0 : tField Try.prog 84 0 = some (0, 12) := by kernel_rfl
theorem tField84_1 : tField Try.prog 84 1 = some (1, 12) := by kernel_rfl
theorem tField84_2 : tField Try.prog 84 2 = some (2, 59) := by kernel_rfl
theorem tField84_3 : tField Try.prog 84 3 = some (3, 77) := by kernel_rfl
theorem tField84_4 : tField Try.prog 84 4 = some (4, 5) := by kernel_rfl
theorem tField84_5 : tField Try.prog 84 5 = some (5, 5) := by kernel_rfl
theorem tField84_6 : tField Try.prog 84 6 = some (6, 78) := by kernel_rfl
theorem tField84_8 : tField Try.prog 84 8 = some (8, 80) := by kernel_rfl
theorem tField84_9 : tField Try.prog 84 9 = some (9, 81) := by kernel_rfl
theorem tField84_10 : tField Try.prog 84 10 = some (10, 82) := by kernel_rfl
theorem tIs84 : (Try.prog.underlying 84).isSome = true := by kernel_rfl
attribute [go_sem] tSize2 tBytes2 tAgg2 tZero2 tInt2 tIs2 tSize3 tBytes3 tAgg3 tZero3 tInt3 tIs3 tSize4 tBytes4 tAgg4 tZero4 tIs4 tSize5 tBytes5 tAgg5 tZero5 tInt5 tIs5 tSize6 tBytes6 tAgg6 tZero6 tInt6 tIs6 tSize7 tBytes7 tAgg7 tZero7 tPlaces7 tField7_0 tField7_1 tField7_2 tField7_3 tIs7 tSize8 tBytes8 tAgg8 tZero8 tPlaces8 tField8_0 tField8_1 tField8_2 tField8_3 tIs8 tSize9 tBytes9 tAgg9 tZero9 tStr9 tIs9 tSize10 tBytes10 tAgg10 tZero10 tStr10 tIs10 tSize11 tBytes11 tAgg11 tZero11 tStr11 tIs11 tSize12 tBytes12 tAgg12 tZero12 tInt12 tIs12 tSize13 tBytes13 tAgg13 tZero13 tPlaces13 tField13_0 tField13_1 tIs13 tSize14 tBytes14 tAgg14 tZero14 tPlaces14 tField14_0 tField14_1 tIs14 tSize15 tBytes15 tAgg15 tZero15 tIs15 tSize16 tBytes16 tAgg16 tZero16 tIs16 tSize17 tBytes17 tAgg17 tZero17 tIs17 tSize18 tBytes18 tAgg18 tZero18 tPlaces18 tField18_0 tIs18 tSize19 tBytes19 tAgg19 tZero19 tPlaces19 tField19_0 tIs19 tSize21 tBytes21 tAgg21 tZero21 tInt21 tIs21 tSize31 tBytes31 tAgg31 tZero31 tElem31 tIs31 tSize39 tBytes39 tAgg39 tZero39 tInt39 tIs39 tSize40 tBytes40 tAgg40 tZero40 tPlaces40 tArr40 tIs40 tSize41 tBytes41 tAgg41 tZero41 tElem41 tIs41 tSize48 tBytes48 tAgg48 tZero48 tInt48 tIs48 tSize52 tBytes52 tAgg52 tZero52 tInt52 tIs52 tSize59 tBytes59 tAgg59 tZero59 tInt59 tIs59 tSize61 tBytes61 tAgg61 tZero61 tInt61 tIs61 tSize65 tBytes65 tAgg65 tZero65 tIs65 tSize67 tBytes67 tAgg67 tZero67 tIs67 tSize71 tBytes71 tAgg71 tZero71 tPlaces71 tField71_0 tField71_1 tField71_2 tField71_3 tIs71 tSize72 tBytes72 tAgg72 tZero72 tPlaces72 tField72_0 tField72_1 tField72_2 tField72_3 tIs72 tSize73 tBytes73 tAgg73 tZero73 tPlaces73 tArr73 tIs73 tSize74 tBytes74 tAgg74 tZero74 tPlaces74 tIs74 tSize75 tBytes75 tAgg75 tZero75 tPlaces75 tIs75 tSize77 tBytes77 tAgg77 tZero77 tInt77 tIs77 tSize78 tBytes78 tAgg78 tZero78 tInt78 tIs78 tSize80 tBytes80 tAgg80 tZero80 tIs80 tSize81 tBytes81 tAgg81 tZero81 tInt81 tIs81 tSize82 tBytes82 tAgg82 tZero82 tInt82 tIs82 tSize83 tBytes83 tAgg83 tZero83 tPlaces83 tField83_0 tField83_1 tField83_2 tField83_3 tField83_4 tField83_5 tField83_6 tField83_8 tField83_9 tField83_10 tIs83 tSize84 tBytes84 tAgg84 tZero84 tPlaces84 tField84_0 tField84_1 tField84_2 tField84_3 tField84_4 tField84_5 tField84_6 tField84_8 tField84_9 tField84_10 tIs84
end Go.Proofs.Ytahpcfdhlgcinaa
