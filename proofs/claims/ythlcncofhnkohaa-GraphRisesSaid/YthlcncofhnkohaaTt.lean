/- Facts on the types of the translation, each read off its table. No condition. -/
import Derived.Test.YthlcncofhnkohaaTa
import Derived.Test.YthlcncofhnkohaaChecked
import Derived.KernelRfl
namespace Go.Proofs.Ythlcncofhnkohaa
open Go Go.Abs
theorem tSize2 : tSize Try.prog 2 = some 1 := by kernel_rfl
theorem tBytes2 : tBytes Try.prog 2 = some 8 := by kernel_rfl
theorem tAgg2 : tAgg Try.prog 2 = some false := by kernel_rfl
theorem tZero2 : tZero Try.prog 2 = some (Value.int IntKind.i64 0) := by kernel_rfl
theorem tInt2 : tInt Try.prog 2 = some IntKind.i64 := by kernel_rfl
theorem tIs2 : (Try.prog.underlying 2).isSome = true := by kernel_rfl
theorem tSize3 : tSize Try.prog 3 = some 1 := by kernel_rfl
theorem tBytes3 : tBytes Try.prog 3 = some 8 := by kernel_rfl
theorem tAgg3 : tAgg Try.prog 3 = some false := by kernel_rfl
theorem tZero3 : tZero Try.prog 3 = some (Value.int IntKind.i64 0) := by kernel_rfl
theorem tInt3 : tInt Try.prog 3 = some IntKind.i64 := by kernel_rfl
theorem tIs3 : (Try.prog.underlying 3).isSome = true := by kernel_rfl
theorem tSize4 : tSize Try.prog 4 = some 1 := by kernel_rfl
theorem tBytes4 : tBytes Try.prog 4 = some 1 := by kernel_rfl
theorem tAgg4 : tAgg Try.prog 4 = some false := by kernel_rfl
theorem tZero4 : tZero Try.prog 4 = some (Value.bool false) := by kernel_rfl
theorem tIs4 : (Try.prog.underlying 4).isSome = true := by kernel_rfl
theorem tSize5 : tSize Try.prog 5 = some 1 := by kernel_rfl
theorem tBytes5 : tBytes Try.prog 5 = some 1 := by kernel_rfl
theorem tAgg5 : tAgg Try.prog 5 = some false := by kernel_rfl
theorem tZero5 : tZero Try.prog 5 = some (Value.int IntKind.u8 0) := by kernel_rfl
theorem tInt5 : tInt Try.prog 5 = some IntKind.u8 := by kernel_rfl
theorem tIs5 : (Try.prog.underlying 5).isSome = true := by kernel_rfl
theorem tSize6 : tSize Try.prog 6 = some 1 := by kernel_rfl
theorem tBytes6 : tBytes Try.prog 6 = some 1 := by kernel_rfl
theorem tAgg6 : tAgg Try.prog 6 = some false := by kernel_rfl
theorem tZero6 : tZero Try.prog 6 = some (Value.int IntKind.u8 0) := by kernel_rfl
theorem tInt6 : tInt Try.prog 6 = some IntKind.u8 := by kernel_rfl
theorem tIs6 : (Try.prog.underlying 6).isSome = true := by kernel_rfl
theorem tSize7 : tSize Try.prog 7 = some 4 := by kernel_rfl
theorem tBytes7 : tBytes Try.prog 7 = some 24 := by kernel_rfl
theorem tAgg7 : tAgg Try.prog 7 = some true := by kernel_rfl
theorem tZero7 : tZero Try.prog 7 = some (Value.agg #[(Value.int IntKind.i64 0), (Value.int IntKind.i64 0), (Value.bool false), (Value.int IntKind.u8 0)]) := by kernel_rfl
theorem tPlaces7 : tPlaces Try.prog 7 = some [(0, 1), (1, 1), (2, 1), (3, 1)] := by kernel_rfl
theorem tField7_0 : tField Try.prog 7 0 = some (0, 2) := by kernel_rfl
theorem tField7_1 : tField Try.prog 7 1 = some (1, 3) := by kernel_rfl
theorem tField7_2 : tField Try.prog 7 2 = some (2, 4) := by kernel_rfl
theorem tField7_3 : tField Try.prog 7 3 = some (3, 6) := by kernel_rfl
theorem tIs7 : (Try.prog.underlying 7).isSome = true := by kernel_rfl
theorem tSize8 : tSize Try.prog 8 = some 4 := by kernel_rfl
theorem tBytes8 : tBytes Try.prog 8 = some 24 := by kernel_rfl
theorem tAgg8 : tAgg Try.prog 8 = some true := by kernel_rfl
theorem tZero8 : tZero Try.prog 8 = some (Value.agg #[(Value.int IntKind.i64 0), (Value.int IntKind.i64 0), (Value.bool false), (Value.int IntKind.u8 0)]) := by kernel_rfl
theorem tPlaces8 : tPlaces Try.prog 8 = some [(0, 1), (1, 1), (2, 1), (3, 1)] := by kernel_rfl
theorem tField8_0 : tField Try.prog 8 0 = some (0, 2) := by kernel_rfl
theorem tField8_1 : tField Try.prog 8 1 = some (1, 3) := by kernel_rfl
theorem tField8_2 : tField Try.prog 8 2 = some (2, 4) := by kernel_rfl
theorem tField8_3 : tField Try.prog 8 3 = some (3, 6) := by kernel_rfl
theorem tIs8 : (Try.prog.underlying 8).isSome = true := by kernel_rfl
theorem tSize9 : tSize Try.prog 9 = some 1 := by kernel_rfl
theorem tBytes9 : tBytes Try.prog 9 = some 16 := by kernel_rfl
theorem tAgg9 : tAgg Try.prog 9 = some false := by kernel_rfl
theorem tZero9 : tZero Try.prog 9 = some (Value.string ⟨#[]⟩) := by kernel_rfl
theorem tStr9 : tStr Try.prog 9 = true := by kernel_rfl
theorem tIs9 : (Try.prog.underlying 9).isSome = true := by kernel_rfl
theorem tSize10 : tSize Try.prog 10 = some 1 := by kernel_rfl
theorem tBytes10 : tBytes Try.prog 10 = some 16 := by kernel_rfl
theorem tAgg10 : tAgg Try.prog 10 = some false := by kernel_rfl
theorem tZero10 : tZero Try.prog 10 = some (Value.string ⟨#[]⟩) := by kernel_rfl
theorem tStr10 : tStr Try.prog 10 = true := by kernel_rfl
theorem tIs10 : (Try.prog.underlying 10).isSome = true := by kernel_rfl
theorem tSize11 : tSize Try.prog 11 = some 1 := by kernel_rfl
theorem tBytes11 : tBytes Try.prog 11 = some 16 := by kernel_rfl
theorem tAgg11 : tAgg Try.prog 11 = some false := by kernel_rfl
theorem tZero11 : tZero Try.prog 11 = some (Value.string ⟨#[]⟩) := by kernel_rfl
theorem tStr11 : tStr Try.prog 11 = true := by kernel_rfl
theorem tIs11 : (Try.prog.underlying 11).isSome = true := by kernel_rfl
theorem tSize12 : tSize Try.prog 12 = some 1 := by kernel_rfl
theorem tBytes12 : tBytes Try.prog 12 = some 8 := by kernel_rfl
theorem tAgg12 : tAgg Try.prog 12 = some false := by kernel_rfl
theorem tZero12 : tZero Try.prog 12 = some (Value.int IntKind.u64 0) := by kernel_rfl
theorem tInt12 : tInt Try.prog 12 = some IntKind.u64 := by kernel_rfl
theorem tIs12 : (Try.prog.underlying 12).isSome = true := by kernel_rfl
theorem tSize13 : tSize Try.prog 13 = some 2 := by kernel_rfl
theorem tBytes13 : tBytes Try.prog 13 = some 24 := by kernel_rfl
theorem tAgg13 : tAgg Try.prog 13 = some true := by kernel_rfl
theorem tZero13 : tZero Try.prog 13 = some (Value.agg #[(Value.string ⟨#[]⟩), (Value.int IntKind.u64 0)]) := by kernel_rfl
theorem tPlaces13 : tPlaces Try.prog 13 = some [(0, 1), (1, 1)] := by kernel_rfl
theorem tField13_0 : tField Try.prog 13 0 = some (0, 9) := by kernel_rfl
theorem tField13_1 : tField Try.prog 13 1 = some (1, 12) := by kernel_rfl
theorem tIs13 : (Try.prog.underlying 13).isSome = true := by kernel_rfl
theorem tSize14 : tSize Try.prog 14 = some 2 := by kernel_rfl
theorem tBytes14 : tBytes Try.prog 14 = some 24 := by kernel_rfl
theorem tAgg14 : tAgg Try.prog 14 = some true := by kernel_rfl
theorem tZero14 : tZero Try.prog 14 = some (Value.agg #[(Value.string ⟨#[]⟩), (Value.int IntKind.u64 0)]) := by kernel_rfl
theorem tPlaces14 : tPlaces Try.prog 14 = some [(0, 1), (1, 1)] := by kernel_rfl
theorem tField14_0 : tField Try.prog 14 0 = some (0, 9) := by kernel_rfl
theorem tField14_1 : tField Try.prog 14 1 = some (1, 12) := by kernel_rfl
theorem tIs14 : (Try.prog.underlying 14).isSome = true := by kernel_rfl
theorem tSize15 : tSize Try.prog 15 = some 1 := by kernel_rfl
theorem tBytes15 : tBytes Try.prog 15 = some 8 := by kernel_rfl
theorem tAgg15 : tAgg Try.prog 15 = some false := by kernel_rfl
theorem tZero15 : tZero Try.prog 15 = some (Value.pointer none) := by kernel_rfl
theorem tIs15 : (Try.prog.underlying 15).isSome = true := by kernel_rfl
theorem tSize16 : tSize Try.prog 16 = some 1 := by kernel_rfl
theorem tBytes16 : tBytes Try.prog 16 = some 8 := by kernel_rfl
theorem tAgg16 : tAgg Try.prog 16 = some false := by kernel_rfl
theorem tZero16 : tZero Try.prog 16 = some (Value.pointer none) := by kernel_rfl
theorem tIs16 : (Try.prog.underlying 16).isSome = true := by kernel_rfl
theorem tSize17 : tSize Try.prog 17 = some 1 := by kernel_rfl
theorem tBytes17 : tBytes Try.prog 17 = some 8 := by kernel_rfl
theorem tAgg17 : tAgg Try.prog 17 = some false := by kernel_rfl
theorem tZero17 : tZero Try.prog 17 = some (Value.pointer none) := by kernel_rfl
theorem tIs17 : (Try.prog.underlying 17).isSome = true := by kernel_rfl
theorem tSize18 : tSize Try.prog 18 = some 1 := by kernel_rfl
theorem tBytes18 : tBytes Try.prog 18 = some 8 := by kernel_rfl
theorem tAgg18 : tAgg Try.prog 18 = some true := by kernel_rfl
theorem tZero18 : tZero Try.prog 18 = some (Value.agg #[(Value.pointer none)]) := by kernel_rfl
theorem tPlaces18 : tPlaces Try.prog 18 = some [(0, 1)] := by kernel_rfl
theorem tField18_0 : tField Try.prog 18 0 = some (0, 17) := by kernel_rfl
theorem tIs18 : (Try.prog.underlying 18).isSome = true := by kernel_rfl
theorem tSize19 : tSize Try.prog 19 = some 1 := by kernel_rfl
theorem tBytes19 : tBytes Try.prog 19 = some 8 := by kernel_rfl
theorem tAgg19 : tAgg Try.prog 19 = some true := by kernel_rfl
theorem tZero19 : tZero Try.prog 19 = some (Value.agg #[(Value.pointer none)]) := by kernel_rfl
theorem tPlaces19 : tPlaces Try.prog 19 = some [(0, 1)] := by kernel_rfl
theorem tField19_0 : tField Try.prog 19 0 = some (0, 17) := by kernel_rfl
theorem tIs19 : (Try.prog.underlying 19).isSome = true := by kernel_rfl
theorem tSize21 : tSize Try.prog 21 = some 1 := by kernel_rfl
theorem tBytes21 : tBytes Try.prog 21 = some 4 := by kernel_rfl
theorem tAgg21 : tAgg Try.prog 21 = some false := by kernel_rfl
theorem tZero21 : tZero Try.prog 21 = some (Value.int IntKind.i32 0) := by kernel_rfl
theorem tInt21 : tInt Try.prog 21 = some IntKind.i32 := by kernel_rfl
theorem tIs21 : (Try.prog.underlying 21).isSome = true := by kernel_rfl
theorem tSize22 : tSize Try.prog 22 = some 1 := by kernel_rfl
theorem tBytes22 : tBytes Try.prog 22 = some 24 := by kernel_rfl
theorem tAgg22 : tAgg Try.prog 22 = some false := by kernel_rfl
theorem tZero22 : tZero Try.prog 22 = some (Value.slice none 0 0) := by kernel_rfl
theorem tElem22 : tElem Try.prog 22 = some 46 := by kernel_rfl
theorem tIs22 : (Try.prog.underlying 22).isSome = true := by kernel_rfl
theorem tSize26 : tSize Try.prog 26 = some 1 := by kernel_rfl
theorem tBytes26 : tBytes Try.prog 26 = some 24 := by kernel_rfl
theorem tAgg26 : tAgg Try.prog 26 = some false := by kernel_rfl
theorem tZero26 : tZero Try.prog 26 = some (Value.slice none 0 0) := by kernel_rfl
theorem tElem26 : tElem Try.prog 26 = some 3 := by kernel_rfl
theorem tIs26 : (Try.prog.underlying 26).isSome = true := by kernel_rfl
theorem tSize31 : tSize Try.prog 31 = some 1 := by kernel_rfl
theorem tBytes31 : tBytes Try.prog 31 = some 8 := by kernel_rfl
theorem tAgg31 : tAgg Try.prog 31 = some false := by kernel_rfl
theorem tZero31 : tZero Try.prog 31 = some (Value.int IntKind.i64 0) := by kernel_rfl
theorem tInt31 : tInt Try.prog 31 = some IntKind.i64 := by kernel_rfl
theorem tIs31 : (Try.prog.underlying 31).isSome = true := by kernel_rfl
theorem tSize35 : tSize Try.prog 35 = some 1 := by kernel_rfl
theorem tBytes35 : tBytes Try.prog 35 = some 8 := by kernel_rfl
theorem tAgg35 : tAgg Try.prog 35 = some false := by kernel_rfl
theorem tZero35 : tZero Try.prog 35 = some (Value.int IntKind.i64 0) := by kernel_rfl
theorem tInt35 : tInt Try.prog 35 = some IntKind.i64 := by kernel_rfl
theorem tIs35 : (Try.prog.underlying 35).isSome = true := by kernel_rfl
theorem tSize36 : tSize Try.prog 36 = some 1 := by kernel_rfl
theorem tBytes36 : tBytes Try.prog 36 = some 24 := by kernel_rfl
theorem tAgg36 : tAgg Try.prog 36 = some false := by kernel_rfl
theorem tZero36 : tZero Try.prog 36 = some (Value.slice none 0 0) := by kernel_rfl
theorem tElem36 : tElem Try.prog 36 = some 9 := by kernel_rfl
theorem tIs36 : (Try.prog.underlying 36).isSome = true := by kernel_rfl
theorem tSize37 : tSize Try.prog 37 = some 1 := by kernel_rfl
theorem tBytes37 : tBytes Try.prog 37 = some 24 := by kernel_rfl
theorem tAgg37 : tAgg Try.prog 37 = some false := by kernel_rfl
theorem tZero37 : tZero Try.prog 37 = some (Value.slice none 0 0) := by kernel_rfl
theorem tElem37 : tElem Try.prog 37 = some 73 := by kernel_rfl
theorem tIs37 : (Try.prog.underlying 37).isSome = true := by kernel_rfl
theorem tSize38 : tSize Try.prog 38 = some 1 := by kernel_rfl
theorem tBytes38 : tBytes Try.prog 38 = some 24 := by kernel_rfl
theorem tAgg38 : tAgg Try.prog 38 = some false := by kernel_rfl
theorem tZero38 : tZero Try.prog 38 = some (Value.slice none 0 0) := by kernel_rfl
theorem tElem38 : tElem Try.prog 38 = some 117 := by kernel_rfl
theorem tIs38 : (Try.prog.underlying 38).isSome = true := by kernel_rfl
theorem tSize39 : tSize Try.prog 39 = some 9 := by kernel_rfl
theorem tBytes39 : tBytes Try.prog 39 = some 104 := by kernel_rfl
theorem tAgg39 : tAgg Try.prog 39 = some true := by kernel_rfl
theorem tZero39 : tZero Try.prog 39 = some (Value.agg #[(Value.slice none 0 0), (Value.slice none 0 0), (Value.int IntKind.i64 0), (Value.int IntKind.i64 0), (Value.int IntKind.i64 0), (Value.int IntKind.i64 0), (Value.int IntKind.i64 0), (Value.int IntKind.i64 0), (Value.int IntKind.i64 0)]) := by kernel_rfl
theorem tPlaces39 : tPlaces Try.prog 39 = some [(0, 1), (1, 1), (2, 1), (3, 1), (4, 1), (5, 1), (6, 1), (7, 1), (8, 1)] := by kernel_rfl
theorem tField39_0 : tField Try.prog 39 0 = some (0, 37) := by kernel_rfl
theorem tField39_1 : tField Try.prog 39 1 = some (1, 38) := by kernel_rfl
theorem tField39_2 : tField Try.prog 39 2 = some (2, 3) := by kernel_rfl
theorem tField39_3 : tField Try.prog 39 3 = some (3, 3) := by kernel_rfl
theorem tField39_4 : tField Try.prog 39 4 = some (4, 3) := by kernel_rfl
theorem tField39_5 : tField Try.prog 39 5 = some (5, 3) := by kernel_rfl
theorem tField39_6 : tField Try.prog 39 6 = some (6, 3) := by kernel_rfl
theorem tField39_7 : tField Try.prog 39 7 = some (7, 3) := by kernel_rfl
theorem tField39_8 : tField Try.prog 39 8 = some (8, 3) := by kernel_rfl
theorem tIs39 : (Try.prog.underlying 39).isSome = true := by kernel_rfl
theorem tSize40 : tSize Try.prog 40 = some 9 := by kernel_rfl
theorem tBytes40 : tBytes Try.prog 40 = some 104 := by kernel_rfl
theorem tAgg40 : tAgg Try.prog 40 = some true := by kernel_rfl
theorem tZero40 : tZero Try.prog 40 = some (Value.agg #[(Value.slice none 0 0), (Value.slice none 0 0), (Value.int IntKind.i64 0), (Value.int IntKind.i64 0), (Value.int IntKind.i64 0), (Value.int IntKind.i64 0), (Value.int IntKind.i64 0), (Value.int IntKind.i64 0), (Value.int IntKind.i64 0)]) := by kernel_rfl
theorem tPlaces40 : tPlaces Try.prog 40 = some [(0, 1), (1, 1), (2, 1), (3, 1), (4, 1), (5, 1), (6, 1), (7, 1), (8, 1)] := by kernel_rfl
theorem tField40_0 : tField Try.prog 40 0 = some (0, 37) := by kernel_rfl
theorem tField40_1 : tField Try.prog 40 1 = some (1, 38) := by kernel_rfl
theorem tField40_2 : tField Try.prog 40 2 = some (2, 3) := by kernel_rfl
theorem tField40_3 : tField Try.prog 40 3 = some (3, 3) := by kernel_rfl
theorem tField40_4 : tField Try.prog 40 4 = some (4, 3) := by kernel_rfl
theorem tField40_5 : tField Try.prog 40 5 = some (5, 3) := by kernel_rfl
theorem tField40_6 : tField Try.prog 40 6 = some (6, 3) := by kernel_rfl
theorem tField40_7 : tField Try.prog 40 7 = some (7, 3) := by kernel_rfl
theorem tField40_8 : tField Try.prog 40 8 = some (8, 3) := by kernel_rfl
theorem tIs40 : (Try.prog.underlying 40).isSome = true := by kernel_rfl
theorem tSize41 : tSize Try.prog 41 = some 16 := by kernel_rfl
theorem tBytes41 : tBytes Try.prog 41 = some 208 := by kernel_rfl
theorem tAgg41 : tAgg Try.prog 41 = some true := by kernel_rfl
theorem tZero41 : tZero Try.prog 41 = some (Value.agg #[(Value.string ⟨#[]⟩), (Value.int IntKind.i64 0), (Value.int IntKind.i64 0), (Value.bool false), (Value.string ⟨#[]⟩), (Value.slice none 0 0), (Value.slice none 0 0), (Value.slice none 0 0), (Value.slice none 0 0), (Value.int IntKind.i64 0), (Value.int IntKind.i64 0), (Value.int IntKind.i64 0), (Value.int IntKind.i64 0), (Value.int IntKind.i64 0), (Value.int IntKind.i64 0), (Value.int IntKind.i64 0)]) := by kernel_rfl
theorem tPlaces41 : tPlaces Try.prog 41 = some [(0, 1), (1, 1), (2, 1), (3, 1), (4, 1), (5, 1), (6, 1), (7, 9)] := by kernel_rfl
theorem tField41_0 : tField Try.prog 41 0 = some (0, 9) := by kernel_rfl
theorem tField41_1 : tField Try.prog 41 1 = some (1, 3) := by kernel_rfl
theorem tField41_2 : tField Try.prog 41 2 = some (2, 3) := by kernel_rfl
theorem tField41_3 : tField Try.prog 41 3 = some (3, 4) := by kernel_rfl
theorem tField41_4 : tField Try.prog 41 4 = some (4, 9) := by kernel_rfl
theorem tField41_5 : tField Try.prog 41 5 = some (5, 36) := by kernel_rfl
theorem tField41_6 : tField Try.prog 41 6 = some (6, 36) := by kernel_rfl
theorem tField41_7 : tField Try.prog 41 7 = some (7, 40) := by kernel_rfl
theorem tIs41 : (Try.prog.underlying 41).isSome = true := by kernel_rfl
theorem tSize42 : tSize Try.prog 42 = some 16 := by kernel_rfl
theorem tBytes42 : tBytes Try.prog 42 = some 208 := by kernel_rfl
theorem tAgg42 : tAgg Try.prog 42 = some true := by kernel_rfl
theorem tZero42 : tZero Try.prog 42 = some (Value.agg #[(Value.string ⟨#[]⟩), (Value.int IntKind.i64 0), (Value.int IntKind.i64 0), (Value.bool false), (Value.string ⟨#[]⟩), (Value.slice none 0 0), (Value.slice none 0 0), (Value.slice none 0 0), (Value.slice none 0 0), (Value.int IntKind.i64 0), (Value.int IntKind.i64 0), (Value.int IntKind.i64 0), (Value.int IntKind.i64 0), (Value.int IntKind.i64 0), (Value.int IntKind.i64 0), (Value.int IntKind.i64 0)]) := by kernel_rfl
theorem tPlaces42 : tPlaces Try.prog 42 = some [(0, 1), (1, 1), (2, 1), (3, 1), (4, 1), (5, 1), (6, 1), (7, 9)] := by kernel_rfl
theorem tField42_0 : tField Try.prog 42 0 = some (0, 9) := by kernel_rfl
theorem tField42_1 : tField Try.prog 42 1 = some (1, 3) := by kernel_rfl
theorem tField42_2 : tField Try.prog 42 2 = some (2, 3) := by kernel_rfl
theorem tField42_3 : tField Try.prog 42 3 = some (3, 4) := by kernel_rfl
theorem tField42_4 : tField Try.prog 42 4 = some (4, 9) := by kernel_rfl
theorem tField42_5 : tField Try.prog 42 5 = some (5, 36) := by kernel_rfl
theorem tField42_6 : tField Try.prog 42 6 = some (6, 36) := by kernel_rfl
theorem tField42_7 : tField Try.prog 42 7 = some (7, 40) := by kernel_rfl
theorem tIs42 : (Try.prog.underlying 42).isSome = true := by kernel_rfl
theorem tSize43 : tSize Try.prog 43 = some 2 := by kernel_rfl
theorem tBytes43 : tBytes Try.prog 43 = some 24 := by kernel_rfl
theorem tAgg43 : tAgg Try.prog 43 = some true := by kernel_rfl
theorem tZero43 : tZero Try.prog 43 = some (Value.agg #[(Value.string ⟨#[]⟩), (Value.int IntKind.i64 0)]) := by kernel_rfl
theorem tPlaces43 : tPlaces Try.prog 43 = some [(0, 1), (1, 1)] := by kernel_rfl
theorem tField43_0 : tField Try.prog 43 0 = some (0, 9) := by kernel_rfl
theorem tField43_1 : tField Try.prog 43 1 = some (1, 3) := by kernel_rfl
theorem tIs43 : (Try.prog.underlying 43).isSome = true := by kernel_rfl
theorem tSize44 : tSize Try.prog 44 = some 2 := by kernel_rfl
theorem tBytes44 : tBytes Try.prog 44 = some 24 := by kernel_rfl
theorem tAgg44 : tAgg Try.prog 44 = some true := by kernel_rfl
theorem tZero44 : tZero Try.prog 44 = some (Value.agg #[(Value.string ⟨#[]⟩), (Value.int IntKind.i64 0)]) := by kernel_rfl
theorem tPlaces44 : tPlaces Try.prog 44 = some [(0, 1), (1, 1)] := by kernel_rfl
theorem tFlat44 : tFlat Try.prog 44 = some [1, 0] := by kernel_rfl
theorem tField44_0 : tField Try.prog 44 0 = some (0, 9) := by kernel_rfl
theorem tField44_1 : tField Try.prog 44 1 = some (1, 3) := by kernel_rfl
theorem tIs44 : (Try.prog.underlying 44).isSome = true := by kernel_rfl
theorem tSize45 : tSize Try.prog 45 = some 29 := by kernel_rfl
theorem tBytes45 : tBytes Try.prog 45 = some 376 := by kernel_rfl
theorem tAgg45 : tAgg Try.prog 45 = some true := by kernel_rfl
theorem tZero45 : tZero Try.prog 45 = some (Value.agg #[(Value.int IntKind.i64 0), (Value.string ⟨#[]⟩), (Value.string ⟨#[]⟩), (Value.int IntKind.i64 0), (Value.bool false), (Value.string ⟨#[]⟩), (Value.int IntKind.i64 0), (Value.int IntKind.i64 0), (Value.slice none 0 0), (Value.slice none 0 0), (Value.string ⟨#[]⟩), (Value.int IntKind.i64 0), (Value.int IntKind.i64 0), (Value.bool false), (Value.string ⟨#[]⟩), (Value.slice none 0 0), (Value.slice none 0 0), (Value.slice none 0 0), (Value.slice none 0 0), (Value.int IntKind.i64 0), (Value.int IntKind.i64 0), (Value.int IntKind.i64 0), (Value.int IntKind.i64 0), (Value.int IntKind.i64 0), (Value.int IntKind.i64 0), (Value.int IntKind.i64 0), (Value.int IntKind.i64 0), (Value.string ⟨#[]⟩), (Value.int IntKind.i64 0)]) := by kernel_rfl
theorem tPlaces45 : tPlaces Try.prog 45 = some [(0, 1), (1, 1), (2, 1), (3, 1), (4, 1), (5, 1), (6, 1), (7, 1), (8, 1), (9, 1), (10, 16), (26, 1), (27, 2)] := by kernel_rfl
theorem tField45_0 : tField Try.prog 45 0 = some (0, 3) := by kernel_rfl
theorem tField45_1 : tField Try.prog 45 1 = some (1, 9) := by kernel_rfl
theorem tField45_2 : tField Try.prog 45 2 = some (2, 9) := by kernel_rfl
theorem tField45_3 : tField Try.prog 45 3 = some (3, 35) := by kernel_rfl
theorem tField45_4 : tField Try.prog 45 4 = some (4, 4) := by kernel_rfl
theorem tField45_5 : tField Try.prog 45 5 = some (5, 9) := by kernel_rfl
theorem tField45_6 : tField Try.prog 45 6 = some (6, 3) := by kernel_rfl
theorem tField45_7 : tField Try.prog 45 7 = some (7, 3) := by kernel_rfl
theorem tField45_8 : tField Try.prog 45 8 = some (8, 26) := by kernel_rfl
theorem tField45_9 : tField Try.prog 45 9 = some (9, 26) := by kernel_rfl
theorem tField45_10 : tField Try.prog 45 10 = some (10, 42) := by kernel_rfl
theorem tField45_11 : tField Try.prog 45 11 = some (26, 3) := by kernel_rfl
theorem tField45_12 : tField Try.prog 45 12 = some (27, 44) := by kernel_rfl
theorem tIs45 : (Try.prog.underlying 45).isSome = true := by kernel_rfl
theorem tSize46 : tSize Try.prog 46 = some 29 := by kernel_rfl
theorem tBytes46 : tBytes Try.prog 46 = some 376 := by kernel_rfl
theorem tAgg46 : tAgg Try.prog 46 = some true := by kernel_rfl
theorem tZero46 : tZero Try.prog 46 = some (Value.agg #[(Value.int IntKind.i64 0), (Value.string ⟨#[]⟩), (Value.string ⟨#[]⟩), (Value.int IntKind.i64 0), (Value.bool false), (Value.string ⟨#[]⟩), (Value.int IntKind.i64 0), (Value.int IntKind.i64 0), (Value.slice none 0 0), (Value.slice none 0 0), (Value.string ⟨#[]⟩), (Value.int IntKind.i64 0), (Value.int IntKind.i64 0), (Value.bool false), (Value.string ⟨#[]⟩), (Value.slice none 0 0), (Value.slice none 0 0), (Value.slice none 0 0), (Value.slice none 0 0), (Value.int IntKind.i64 0), (Value.int IntKind.i64 0), (Value.int IntKind.i64 0), (Value.int IntKind.i64 0), (Value.int IntKind.i64 0), (Value.int IntKind.i64 0), (Value.int IntKind.i64 0), (Value.int IntKind.i64 0), (Value.string ⟨#[]⟩), (Value.int IntKind.i64 0)]) := by kernel_rfl
theorem tPlaces46 : tPlaces Try.prog 46 = some [(0, 1), (1, 1), (2, 1), (3, 1), (4, 1), (5, 1), (6, 1), (7, 1), (8, 1), (9, 1), (10, 16), (26, 1), (27, 2)] := by kernel_rfl
theorem tField46_0 : tField Try.prog 46 0 = some (0, 3) := by kernel_rfl
theorem tField46_1 : tField Try.prog 46 1 = some (1, 9) := by kernel_rfl
theorem tField46_2 : tField Try.prog 46 2 = some (2, 9) := by kernel_rfl
theorem tField46_3 : tField Try.prog 46 3 = some (3, 35) := by kernel_rfl
theorem tField46_4 : tField Try.prog 46 4 = some (4, 4) := by kernel_rfl
theorem tField46_5 : tField Try.prog 46 5 = some (5, 9) := by kernel_rfl
theorem tField46_6 : tField Try.prog 46 6 = some (6, 3) := by kernel_rfl
theorem tField46_7 : tField Try.prog 46 7 = some (7, 3) := by kernel_rfl
theorem tField46_8 : tField Try.prog 46 8 = some (8, 26) := by kernel_rfl
theorem tField46_9 : tField Try.prog 46 9 = some (9, 26) := by kernel_rfl
theorem tField46_10 : tField Try.prog 46 10 = some (10, 42) := by kernel_rfl
theorem tField46_11 : tField Try.prog 46 11 = some (26, 3) := by kernel_rfl
theorem tField46_12 : tField Try.prog 46 12 = some (27, 44) := by kernel_rfl
theorem tIs46 : (Try.prog.underlying 46).isSome = true := by kernel_rfl
theorem tSize51 : tSize Try.prog 51 = some 3 := by kernel_rfl
theorem tBytes51 : tBytes Try.prog 51 = some 24 := by kernel_rfl
theorem tAgg51 : tAgg Try.prog 51 = some true := by kernel_rfl
theorem tZero51 : tZero Try.prog 51 = some (Value.agg #[(Value.int IntKind.i64 0), (Value.int IntKind.i64 0), (Value.int IntKind.i64 0)]) := by kernel_rfl
theorem tPlaces51 : tPlaces Try.prog 51 = some [(0, 1), (1, 1), (2, 1)] := by kernel_rfl
theorem tField51_0 : tField Try.prog 51 0 = some (0, 3) := by kernel_rfl
theorem tField51_1 : tField Try.prog 51 1 = some (1, 3) := by kernel_rfl
theorem tField51_2 : tField Try.prog 51 2 = some (2, 3) := by kernel_rfl
theorem tIs51 : (Try.prog.underlying 51).isSome = true := by kernel_rfl
theorem tSize52 : tSize Try.prog 52 = some 3 := by kernel_rfl
theorem tBytes52 : tBytes Try.prog 52 = some 24 := by kernel_rfl
theorem tAgg52 : tAgg Try.prog 52 = some true := by kernel_rfl
theorem tZero52 : tZero Try.prog 52 = some (Value.agg #[(Value.int IntKind.i64 0), (Value.int IntKind.i64 0), (Value.int IntKind.i64 0)]) := by kernel_rfl
theorem tPlaces52 : tPlaces Try.prog 52 = some [(0, 1), (1, 1), (2, 1)] := by kernel_rfl
theorem tFlat52 : tFlat Try.prog 52 = some [0, 0, 0] := by kernel_rfl
theorem tField52_0 : tField Try.prog 52 0 = some (0, 3) := by kernel_rfl
theorem tField52_1 : tField Try.prog 52 1 = some (1, 3) := by kernel_rfl
theorem tField52_2 : tField Try.prog 52 2 = some (2, 3) := by kernel_rfl
theorem tIs52 : (Try.prog.underlying 52).isSome = true := by kernel_rfl
theorem tSize55 : tSize Try.prog 55 = some 1 := by kernel_rfl
theorem tBytes55 : tBytes Try.prog 55 = some 8 := by kernel_rfl
theorem tAgg55 : tAgg Try.prog 55 = some false := by kernel_rfl
theorem tZero55 : tZero Try.prog 55 = some (Value.map none) := by kernel_rfl
theorem tMap55 : tMap Try.prog 55 = some (3, 3) := by kernel_rfl
theorem tIs55 : (Try.prog.underlying 55).isSome = true := by kernel_rfl
theorem tSize61 : tSize Try.prog 61 = some 1 := by kernel_rfl
theorem tBytes61 : tBytes Try.prog 61 = some 24 := by kernel_rfl
theorem tAgg61 : tAgg Try.prog 61 = some false := by kernel_rfl
theorem tZero61 : tZero Try.prog 61 = some (Value.slice none 0 0) := by kernel_rfl
theorem tElem61 : tElem Try.prog 61 = some 63 := by kernel_rfl
theorem tIs61 : (Try.prog.underlying 61).isSome = true := by kernel_rfl
theorem tSize62 : tSize Try.prog 62 = some 2 := by kernel_rfl
theorem tBytes62 : tBytes Try.prog 62 = some 16 := by kernel_rfl
theorem tAgg62 : tAgg Try.prog 62 = some true := by kernel_rfl
theorem tZero62 : tZero Try.prog 62 = some (Value.agg #[(Value.int IntKind.i64 0), (Value.int IntKind.i64 0)]) := by kernel_rfl
theorem tPlaces62 : tPlaces Try.prog 62 = some [(0, 1), (1, 1)] := by kernel_rfl
theorem tField62_0 : tField Try.prog 62 0 = some (0, 3) := by kernel_rfl
theorem tField62_1 : tField Try.prog 62 1 = some (1, 3) := by kernel_rfl
theorem tIs62 : (Try.prog.underlying 62).isSome = true := by kernel_rfl
theorem tSize63 : tSize Try.prog 63 = some 2 := by kernel_rfl
theorem tBytes63 : tBytes Try.prog 63 = some 16 := by kernel_rfl
theorem tAgg63 : tAgg Try.prog 63 = some true := by kernel_rfl
theorem tZero63 : tZero Try.prog 63 = some (Value.agg #[(Value.int IntKind.i64 0), (Value.int IntKind.i64 0)]) := by kernel_rfl
theorem tPlaces63 : tPlaces Try.prog 63 = some [(0, 1), (1, 1)] := by kernel_rfl
theorem tFlat63 : tFlat Try.prog 63 = some [0, 0] := by kernel_rfl
theorem tField63_0 : tField Try.prog 63 0 = some (0, 3) := by kernel_rfl
theorem tField63_1 : tField Try.prog 63 1 = some (1, 3) := by kernel_rfl
theorem tIs63 : (Try.prog.underlying 63).isSome = true := by kernel_rfl
theorem tSize65 : tSize Try.prog 65 = some 1 := by kernel_rfl
theorem tBytes65 : tBytes Try.prog 65 = some 8 := by kernel_rfl
theorem tAgg65 : tAgg Try.prog 65 = some false := by kernel_rfl
theorem tZero65 : tZero Try.prog 65 = some (Value.map none) := by kernel_rfl
theorem tMap65 : tMap Try.prog 65 = some (3, 4) := by kernel_rfl
theorem tIs65 : (Try.prog.underlying 65).isSome = true := by kernel_rfl
theorem tSize72 : tSize Try.prog 72 = some 2 := by kernel_rfl
theorem tBytes72 : tBytes Try.prog 72 = some 24 := by kernel_rfl
theorem tAgg72 : tAgg Try.prog 72 = some true := by kernel_rfl
theorem tZero72 : tZero Try.prog 72 = some (Value.agg #[(Value.string ⟨#[]⟩), (Value.int IntKind.i64 0)]) := by kernel_rfl
theorem tPlaces72 : tPlaces Try.prog 72 = some [(0, 1), (1, 1)] := by kernel_rfl
theorem tField72_0 : tField Try.prog 72 0 = some (0, 9) := by kernel_rfl
theorem tField72_1 : tField Try.prog 72 1 = some (1, 3) := by kernel_rfl
theorem tIs72 : (Try.prog.underlying 72).isSome = true := by kernel_rfl
theorem tSize73 : tSize Try.prog 73 = some 2 := by kernel_rfl
theorem tBytes73 : tBytes Try.prog 73 = some 24 := by kernel_rfl
theorem tAgg73 : tAgg Try.prog 73 = some true := by kernel_rfl
theorem tZero73 : tZero Try.prog 73 = some (Value.agg #[(Value.string ⟨#[]⟩), (Value.int IntKind.i64 0)]) := by kernel_rfl
theorem tPlaces73 : tPlaces Try.prog 73 = some [(0, 1), (1, 1)] := by kernel_rfl
theorem tFlat73 : tFlat Try.prog 73 = some [1, 0] := by kernel_rfl
theorem tField73_0 : tField Try.prog 73 0 = some (0, 9) := by kernel_rfl
theorem tField73_1 : tField Try.prog 73 1 = some (1, 3) := by kernel_rfl
theorem tIs73 : (Try.prog.underlying 73).isSome = true := by kernel_rfl
theorem tSize77 : tSize Try.prog 77 = some 1 := by kernel_rfl
theorem tBytes77 : tBytes Try.prog 77 = some 8 := by kernel_rfl
theorem tAgg77 : tAgg Try.prog 77 = some false := by kernel_rfl
theorem tZero77 : tZero Try.prog 77 = some (Value.int IntKind.u64 0) := by kernel_rfl
theorem tInt77 : tInt Try.prog 77 = some IntKind.u64 := by kernel_rfl
theorem tIs77 : (Try.prog.underlying 77).isSome = true := by kernel_rfl
theorem tSize80 : tSize Try.prog 80 = some 1 := by kernel_rfl
theorem tBytes80 : tBytes Try.prog 80 = some 8 := by kernel_rfl
theorem tAgg80 : tAgg Try.prog 80 = some false := by kernel_rfl
theorem tZero80 : tZero Try.prog 80 = some (Value.int IntKind.i64 0) := by kernel_rfl
theorem tInt80 : tInt Try.prog 80 = some IntKind.i64 := by kernel_rfl
theorem tIs80 : (Try.prog.underlying 80).isSome = true := by kernel_rfl
theorem tSize88 : tSize Try.prog 88 = some 1 := by kernel_rfl
theorem tBytes88 : tBytes Try.prog 88 = some 4 := by kernel_rfl
theorem tAgg88 : tAgg Try.prog 88 = some false := by kernel_rfl
theorem tZero88 : tZero Try.prog 88 = some (Value.int IntKind.u32 0) := by kernel_rfl
theorem tInt88 : tInt Try.prog 88 = some IntKind.u32 := by kernel_rfl
theorem tIs88 : (Try.prog.underlying 88).isSome = true := by kernel_rfl
theorem tSize90 : tSize Try.prog 90 = some 1 := by kernel_rfl
theorem tBytes90 : tBytes Try.prog 90 = some 8 := by kernel_rfl
theorem tAgg90 : tAgg Try.prog 90 = some false := by kernel_rfl
theorem tZero90 : tZero Try.prog 90 = some (Value.int IntKind.u64 0) := by kernel_rfl
theorem tInt90 : tInt Try.prog 90 = some IntKind.u64 := by kernel_rfl
theorem tIs90 : (Try.prog.underlying 90).isSome = true := by kernel_rfl
theorem tSize91 : tSize Try.prog 91 = some 1 := by kernel_rfl
theorem tBytes91 : tBytes Try.prog 91 = some 8 := by kernel_rfl
theorem tAgg91 : tAgg Try.prog 91 = some false := by kernel_rfl
theorem tZero91 : tZero Try.prog 91 = some (Value.int IntKind.u64 0) := by kernel_rfl
theorem tInt91 : tInt Try.prog 91 = some IntKind.u64 := by kernel_rfl
theorem tIs91 : (Try.prog.underlying 91).isSome = true := by kernel_rfl
theorem tSize95 : tSize Try.prog 95 = some 1 := by kernel_rfl
theorem tBytes95 : tBytes Try.prog 95 = some 8 := by kernel_rfl
theorem tAgg95 : tAgg Try.prog 95 = some false := by kernel_rfl
theorem tZero95 : tZero Try.prog 95 = some (Value.pointer none) := by kernel_rfl
theorem tIs95 : (Try.prog.underlying 95).isSome = true := by kernel_rfl
theorem tSize98 : tSize Try.prog 98 = some 1 := by kernel_rfl
theorem tBytes98 : tBytes Try.prog 98 = some 8 := by kernel_rfl
theorem tAgg98 : tAgg Try.prog 98 = some false := by kernel_rfl
theorem tZero98 : tZero Try.prog 98 = some (Value.pointer none) := by kernel_rfl
theorem tIs98 : (Try.prog.underlying 98).isSome = true := by kernel_rfl
theorem tSize102 : tSize Try.prog 102 = some 4 := by kernel_rfl
theorem tBytes102 : tBytes Try.prog 102 = some 40 := by kernel_rfl
theorem tAgg102 : tAgg Try.prog 102 = some true := by kernel_rfl
theorem tZero102 : tZero Try.prog 102 = some (Value.agg #[(Value.pointer none), (Value.pointer none), (Value.pointer none), (Value.string ⟨#[]⟩)]) := by kernel_rfl
theorem tPlaces102 : tPlaces Try.prog 102 = some [(0, 1), (1, 1), (2, 1), (3, 1)] := by kernel_rfl
theorem tField102_0 : tField Try.prog 102 0 = some (0, 17) := by kernel_rfl
theorem tField102_1 : tField Try.prog 102 1 = some (1, 17) := by kernel_rfl
theorem tField102_2 : tField Try.prog 102 2 = some (2, 17) := by kernel_rfl
theorem tField102_3 : tField Try.prog 102 3 = some (3, 9) := by kernel_rfl
theorem tIs102 : (Try.prog.underlying 102).isSome = true := by kernel_rfl
theorem tSize103 : tSize Try.prog 103 = some 4 := by kernel_rfl
theorem tBytes103 : tBytes Try.prog 103 = some 40 := by kernel_rfl
theorem tAgg103 : tAgg Try.prog 103 = some true := by kernel_rfl
theorem tZero103 : tZero Try.prog 103 = some (Value.agg #[(Value.pointer none), (Value.pointer none), (Value.pointer none), (Value.string ⟨#[]⟩)]) := by kernel_rfl
theorem tPlaces103 : tPlaces Try.prog 103 = some [(0, 1), (1, 1), (2, 1), (3, 1)] := by kernel_rfl
theorem tField103_0 : tField Try.prog 103 0 = some (0, 17) := by kernel_rfl
theorem tField103_1 : tField Try.prog 103 1 = some (1, 17) := by kernel_rfl
theorem tField103_2 : tField Try.prog 103 2 = some (2, 17) := by kernel_rfl
theorem tField103_3 : tField Try.prog 103 3 = some (3, 9) := by kernel_rfl
theorem tIs103 : (Try.prog.underlying 103).isSome = true := by kernel_rfl
theorem tSize104 : tSize Try.prog 104 = some 0 := by kernel_rfl
theorem tBytes104 : tBytes Try.prog 104 = some 0 := by kernel_rfl
theorem tAgg104 : tAgg Try.prog 104 = some true := by kernel_rfl
theorem tZero104 : tZero Try.prog 104 = some (Value.agg #[]) := by kernel_rfl
theorem tPlaces104 : tPlaces Try.prog 104 = none := by kernel_rfl
theorem tArr104 : tArr Try.prog 104 = some (0, 1) := by kernel_rfl
theorem tIs104 : (Try.prog.underlying 104).isSome = true := by kernel_rfl
theorem tSize105 : tSize Try.prog 105 = some 0 := by kernel_rfl
theorem tBytes105 : tBytes Try.prog 105 = some 0 := by kernel_rfl
theorem tAgg105 : tAgg Try.prog 105 = some true := by kernel_rfl
theorem tZero105 : tZero Try.prog 105 = some (Value.agg #[]) := by kernel_rfl
theorem tPlaces105 : tPlaces Try.prog 105 = some [(0, 0)] := by kernel_rfl
theorem tIs105 : (Try.prog.underlying 105).isSome = true := by kernel_rfl
theorem tSize106 : tSize Try.prog 106 = some 0 := by kernel_rfl
theorem tBytes106 : tBytes Try.prog 106 = some 0 := by kernel_rfl
theorem tAgg106 : tAgg Try.prog 106 = some true := by kernel_rfl
theorem tZero106 : tZero Try.prog 106 = some (Value.agg #[]) := by kernel_rfl
theorem tPlaces106 : tPlaces Try.prog 106 = some [(0, 0)] := by kernel_rfl
theorem tIs106 : (Try.prog.underlying 106).isSome = true := by kernel_rfl
theorem tSize108 : tSize Try.prog 108 = some 1 := by kernel_rfl
theorem tBytes108 : tBytes Try.prog 108 = some 1 := by kernel_rfl
theorem tAgg108 : tAgg Try.prog 108 = some false := by kernel_rfl
theorem tZero108 : tZero Try.prog 108 = some (Value.int IntKind.u8 0) := by kernel_rfl
theorem tInt108 : tInt Try.prog 108 = some IntKind.u8 := by kernel_rfl
theorem tIs108 : (Try.prog.underlying 108).isSome = true := by kernel_rfl
theorem tSize109 : tSize Try.prog 109 = some 1 := by kernel_rfl
theorem tBytes109 : tBytes Try.prog 109 = some 1 := by kernel_rfl
theorem tAgg109 : tAgg Try.prog 109 = some false := by kernel_rfl
theorem tZero109 : tZero Try.prog 109 = some (Value.int IntKind.u8 0) := by kernel_rfl
theorem tInt109 : tInt Try.prog 109 = some IntKind.u8 := by kernel_rfl
theorem tIs109 : (Try.prog.underlying 109).isSome = true := by kernel_rfl
theorem tSize111 : tSize Try.prog 111 = some 1 := by kernel_rfl
theorem tBytes111 : tBytes Try.prog 111 = some 8 := by kernel_rfl
theorem tAgg111 : tAgg Try.prog 111 = some false := by kernel_rfl
theorem tZero111 : tZero Try.prog 111 = some (Value.pointer none) := by kernel_rfl
theorem tIs111 : (Try.prog.underlying 111).isSome = true := by kernel_rfl
theorem tSize112 : tSize Try.prog 112 = some 1 := by kernel_rfl
theorem tBytes112 : tBytes Try.prog 112 = some 4 := by kernel_rfl
theorem tAgg112 : tAgg Try.prog 112 = some false := by kernel_rfl
theorem tZero112 : tZero Try.prog 112 = some (Value.int IntKind.i32 0) := by kernel_rfl
theorem tInt112 : tInt Try.prog 112 = some IntKind.i32 := by kernel_rfl
theorem tIs112 : (Try.prog.underlying 112).isSome = true := by kernel_rfl
theorem tSize113 : tSize Try.prog 113 = some 1 := by kernel_rfl
theorem tBytes113 : tBytes Try.prog 113 = some 4 := by kernel_rfl
theorem tAgg113 : tAgg Try.prog 113 = some false := by kernel_rfl
theorem tZero113 : tZero Try.prog 113 = some (Value.int IntKind.i32 0) := by kernel_rfl
theorem tInt113 : tInt Try.prog 113 = some IntKind.i32 := by kernel_rfl
theorem tIs113 : (Try.prog.underlying 113).isSome = true := by kernel_rfl
theorem tSize114 : tSize Try.prog 114 = some 11 := by kernel_rfl
theorem tBytes114 : tBytes Try.prog 114 = some 48 := by kernel_rfl
theorem tAgg114 : tAgg Try.prog 114 = some true := by kernel_rfl
theorem tZero114 : tZero Try.prog 114 = some (Value.agg #[(Value.int IntKind.u64 0), (Value.int IntKind.u64 0), (Value.int IntKind.u32 0), (Value.int IntKind.u8 0), (Value.int IntKind.u8 0), (Value.int IntKind.u8 0), (Value.int IntKind.u8 0), Value.nilFunc, (Value.pointer none), (Value.int IntKind.i32 0), (Value.int IntKind.i32 0)]) := by kernel_rfl
theorem tPlaces114 : tPlaces Try.prog 114 = some [(0, 1), (1, 1), (2, 1), (3, 1), (4, 1), (5, 1), (6, 1), (7, 1), (8, 1), (9, 1), (10, 1)] := by kernel_rfl
theorem tField114_0 : tField Try.prog 114 0 = some (0, 12) := by kernel_rfl
theorem tField114_1 : tField Try.prog 114 1 = some (1, 12) := by kernel_rfl
theorem tField114_2 : tField Try.prog 114 2 = some (2, 88) := by kernel_rfl
theorem tField114_3 : tField Try.prog 114 3 = some (3, 108) := by kernel_rfl
theorem tField114_4 : tField Try.prog 114 4 = some (4, 5) := by kernel_rfl
theorem tField114_5 : tField Try.prog 114 5 = some (5, 5) := by kernel_rfl
theorem tField114_6 : tField Try.prog 114 6 = some (6, 109) := by kernel_rfl
theorem tField114_8 : tField Try.prog 114 8 = some (8, 111) := by kernel_rfl
theorem tField114_9 : tField Try.prog 114 9 = some (9, 112) := by kernel_rfl
theorem tField114_10 : tField Try.prog 114 10 = some (10, 113) := by kernel_rfl
theorem tIs114 : (Try.prog.underlying 114).isSome = true := by kernel_rfl
theorem tSize115 : tSize Try.prog 115 = some 11 := by kernel_rfl
theorem tBytes115 : tBytes Try.prog 115 = some 48 := by kernel_rfl
theorem tAgg115 : tAgg Try.prog 115 = some true := by kernel_rfl
theorem tZero115 : tZero Try.prog 115 = some (Value.agg #[(Value.int IntKind.u64 0), (Value.int IntKind.u64 0), (Value.int IntKind.u32 0), (Value.int IntKind.u8 0), (Value.int IntKind.u8 0), (Value.int IntKind.u8 0), (Value.int IntKind.u8 0), Value.nilFunc, (Value.pointer none), (Value.int IntKind.i32 0), (Value.int IntKind.i32 0)]) := by kernel_rfl
theorem tPlaces115 : tPlaces Try.prog 115 = some [(0, 1), (1, 1), (2, 1), (3, 1), (4, 1), (5, 1), (6, 1), (7, 1), (8, 1), (9, 1), (10, 1)] := by kernel_rfl
theorem tField115_0 : tField Try.prog 115 0 = some (0, 12) := by kernel_rfl
theorem tField115_1 : tField Try.prog 115 1 = some (1, 12) := by kernel_rfl
theorem tField115_2 : tField Try.prog 115 2 = some (2, 88) := by kernel_rfl
theorem tField115_3 : tField Try.prog 115 3 = some (3, 108) := by kernel_rfl
theorem tField115_4 : tField Try.prog 115 4 = some (4, 5) := by kernel_rfl
theorem tField115_5 : tField Try.prog 115 5 = some (5, 5) := by kernel_rfl
theorem tField115_6 : tField Try.prog 115 6 = some (6, 109) := by kernel_rfl
theorem tField115_8 : tField Try.prog 115 8 = some (8, 111) := by kernel_rfl
theorem tField115_9 : tField Try.prog 115 9 = some (9, 112) := by kernel_rfl
theorem tField115_10 : tField Try.prog 115 10 = some (10, 113) := by kernel_rfl
theorem tIs115 : (Try.prog.underlying 115).isSome = true := by kernel_rfl
theorem tSize116 : tSize Try.prog 116 = some 2 := by kernel_rfl
theorem tBytes116 : tBytes Try.prog 116 = some 16 := by kernel_rfl
theorem tAgg116 : tAgg Try.prog 116 = some true := by kernel_rfl
theorem tZero116 : tZero Try.prog 116 = some (Value.agg #[(Value.int IntKind.i64 0), (Value.int IntKind.i64 0)]) := by kernel_rfl
theorem tPlaces116 : tPlaces Try.prog 116 = some [(0, 1), (1, 1)] := by kernel_rfl
theorem tField116_0 : tField Try.prog 116 0 = some (0, 35) := by kernel_rfl
theorem tField116_1 : tField Try.prog 116 1 = some (1, 3) := by kernel_rfl
theorem tIs116 : (Try.prog.underlying 116).isSome = true := by kernel_rfl
theorem tSize117 : tSize Try.prog 117 = some 2 := by kernel_rfl
theorem tBytes117 : tBytes Try.prog 117 = some 16 := by kernel_rfl
theorem tAgg117 : tAgg Try.prog 117 = some true := by kernel_rfl
theorem tZero117 : tZero Try.prog 117 = some (Value.agg #[(Value.int IntKind.i64 0), (Value.int IntKind.i64 0)]) := by kernel_rfl
theorem tPlaces117 : tPlaces Try.prog 117 = some [(0, 1), (1, 1)] := by kernel_rfl
theorem tFlat117 : tFlat Try.prog 117 = some [0, 0] := by kernel_rfl
theorem tField117_0 : tField Try.prog 117 0 = some (0, 35) := by kernel_rfl
theorem tField117_1 : tField Try.prog 117 1 = some (1, 3) := by kernel_rfl
theorem tIs117 : (Try.prog.underlying 117).isSome = true := by kernel_rfl
attribute [go_sem] tSize2 tBytes2 tAgg2 tZero2 tInt2 tIs2 tSize3 tBytes3 tAgg3 tZero3 tInt3 tIs3 tSize4 tBytes4 tAgg4 tZero4 tIs4 tSize5 tBytes5 tAgg5 tZero5 tInt5 tIs5 tSize6 tBytes6 tAgg6 tZero6 tInt6 tIs6 tSize7 tBytes7 tAgg7 tZero7 tPlaces7 tField7_0 tField7_1 tField7_2 tField7_3 tIs7 tSize8 tBytes8 tAgg8 tZero8 tPlaces8 tField8_0 tField8_1 tField8_2 tField8_3 tIs8 tSize9 tBytes9 tAgg9 tZero9 tStr9 tIs9 tSize10 tBytes10 tAgg10 tZero10 tStr10 tIs10 tSize11 tBytes11 tAgg11 tZero11 tStr11 tIs11 tSize12 tBytes12 tAgg12 tZero12 tInt12 tIs12 tSize13 tBytes13 tAgg13 tZero13 tPlaces13 tField13_0 tField13_1 tIs13 tSize14 tBytes14 tAgg14 tZero14 tPlaces14 tField14_0 tField14_1 tIs14 tSize15 tBytes15 tAgg15 tZero15 tIs15 tSize16 tBytes16 tAgg16 tZero16 tIs16 tSize17 tBytes17 tAgg17 tZero17 tIs17 tSize18 tBytes18 tAgg18 tZero18 tPlaces18 tField18_0 tIs18 tSize19 tBytes19 tAgg19 tZero19 tPlaces19 tField19_0 tIs19 tSize21 tBytes21 tAgg21 tZero21 tInt21 tIs21 tSize22 tBytes22 tAgg22 tZero22 tElem22 tIs22 tSize26 tBytes26 tAgg26 tZero26 tElem26 tIs26 tSize31 tBytes31 tAgg31 tZero31 tInt31 tIs31 tSize35 tBytes35 tAgg35 tZero35 tInt35 tIs35 tSize36 tBytes36 tAgg36 tZero36 tElem36 tIs36 tSize37 tBytes37 tAgg37 tZero37 tElem37 tIs37 tSize38 tBytes38 tAgg38 tZero38 tElem38 tIs38 tSize39 tBytes39 tAgg39 tZero39 tPlaces39 tField39_0 tField39_1 tField39_2 tField39_3 tField39_4 tField39_5 tField39_6 tField39_7 tField39_8 tIs39 tSize40 tBytes40 tAgg40 tZero40 tPlaces40 tField40_0 tField40_1 tField40_2 tField40_3 tField40_4 tField40_5 tField40_6 tField40_7 tField40_8 tIs40 tSize41 tBytes41 tAgg41 tZero41 tPlaces41 tField41_0 tField41_1 tField41_2 tField41_3 tField41_4 tField41_5 tField41_6 tField41_7 tIs41 tSize42 tBytes42 tAgg42 tZero42 tPlaces42 tField42_0 tField42_1 tField42_2 tField42_3 tField42_4 tField42_5 tField42_6 tField42_7 tIs42 tSize43 tBytes43 tAgg43 tZero43 tPlaces43 tField43_0 tField43_1 tIs43 tSize44 tBytes44 tAgg44 tZero44 tPlaces44 tFlat44 tField44_0 tField44_1 tIs44 tSize45 tBytes45 tAgg45 tZero45 tPlaces45 tField45_0 tField45_1 tField45_2 tField45_3 tField45_4 tField45_5 tField45_6 tField45_7 tField45_8 tField45_9 tField45_10 tField45_11 tField45_12 tIs45 tSize46 tBytes46 tAgg46 tZero46 tPlaces46 tField46_0 tField46_1 tField46_2 tField46_3 tField46_4 tField46_5 tField46_6 tField46_7 tField46_8 tField46_9 tField46_10 tField46_11 tField46_12 tIs46 tSize51 tBytes51 tAgg51 tZero51 tPlaces51 tField51_0 tField51_1 tField51_2 tIs51 tSize52 tBytes52 tAgg52 tZero52 tPlaces52 tFlat52 tField52_0 tField52_1 tField52_2 tIs52 tSize55 tBytes55 tAgg55 tZero55 tMap55 tIs55 tSize61 tBytes61 tAgg61 tZero61 tElem61 tIs61 tSize62 tBytes62 tAgg62 tZero62 tPlaces62 tField62_0 tField62_1 tIs62 tSize63 tBytes63 tAgg63 tZero63 tPlaces63 tFlat63 tField63_0 tField63_1 tIs63 tSize65 tBytes65 tAgg65 tZero65 tMap65 tIs65 tSize72 tBytes72 tAgg72 tZero72 tPlaces72 tField72_0 tField72_1 tIs72 tSize73 tBytes73 tAgg73 tZero73 tPlaces73 tFlat73 tField73_0 tField73_1 tIs73 tSize77 tBytes77 tAgg77 tZero77 tInt77 tIs77 tSize80 tBytes80 tAgg80 tZero80 tInt80 tIs80 tSize88 tBytes88 tAgg88 tZero88 tInt88 tIs88 tSize90 tBytes90 tAgg90 tZero90 tInt90 tIs90 tSize91 tBytes91 tAgg91 tZero91 tInt91 tIs91 tSize95 tBytes95 tAgg95 tZero95 tIs95 tSize98 tBytes98 tAgg98 tZero98 tIs98 tSize102 tBytes102 tAgg102 tZero102 tPlaces102 tField102_0 tField102_1 tField102_2 tField102_3 tIs102 tSize103 tBytes103 tAgg103 tZero103 tPlaces103 tField103_0 tField103_1 tField103_2 tField103_3 tIs103 tSize104 tBytes104 tAgg104 tZero104 tPlaces104 tArr104 tIs104 tSize105 tBytes105 tAgg105 tZero105 tPlaces105 tIs105 tSize106 tBytes106 tAgg106 tZero106 tPlaces106 tIs106 tSize108 tBytes108 tAgg108 tZero108 tInt108 tIs108 tSize109 tBytes109 tAgg109 tZero109 tInt109 tIs109 tSize111 tBytes111 tAgg111 tZero111 tIs111 tSize112 tBytes112 tAgg112 tZero112 tInt112 tIs112 tSize113 tBytes113 tAgg113 tZero113 tInt113 tIs113 tSize114 tBytes114 tAgg114 tZero114 tPlaces114 tField114_0 tField114_1 tField114_2 tField114_3 tField114_4 tField114_5 tField114_6 tField114_8 tField114_9 tField114_10 tIs114 tSize115 tBytes115 tAgg115 tZero115 tPlaces115 tField115_0 tField115_1 tField115_2 tField115_3 tField115_4 tField115_5 tField115_6 tField115_8 tField115_9 tField115_10 tIs115 tSize116 tBytes116 tAgg116 tZero116 tPlaces116 tField116_0 tField116_1 tIs116 tSize117 tBytes117 tAgg117 tZero117 tPlaces117 tFlat117 tField117_0 tField117_1 tIs117
end Go.Proofs.Ythlcncofhnkohaa
