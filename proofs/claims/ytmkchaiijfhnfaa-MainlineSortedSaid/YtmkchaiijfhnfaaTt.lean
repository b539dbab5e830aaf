/- Facts on the types of the translation, each read off its table. No condition. -/
import Derived.Test.YtmkchaiijfhnfaaTa
import Derived.Test.YtmkchaiijfhnfaaChecked
import Derived.KernelRfl
namespace Go.Proofs.Ytmkchaiijfhnfaa
open Go Go.Abs
theorem tSize2 : tSize Try.prog 2 = some 1 := by kernel_rfl
theorem tBytes2 : tBytes Try.prog 2 = some 8 := by kernel_rfl
theorem tAgg2 : tAgg Try.prog 2 = some false := by kernel_rfl
theorem tZero2 : tZero Try.prog 2 = some (Value.int IntKind.i64 0) := by kernel_rfl
theorem tInt2 : tInt Try.prog 2 = some IntKind.i64 := by kernel_rfl
theorem tIs2 : (Try.prog.underlying 2).isSome = true := by kernel_rfl
theorem tSize3 : tSize Try.prog 3 = some 1 := by kernel_rfl
theorem tBytes3 : tBytes Try.prog 3 = some 8 := by kernel_rfl
theorem tAgg3 : tAgg Try.prog 3 = some false := by kernel_rfl
theorem tZero3 : tZero Try.prog 3 = some (Value.int IntKind.i64 0) := by kernel_rfl
theorem tInt3 : tInt Try.prog 3 = some IntKind.i64 := by kernel_rfl
theorem tIs3 : (Try.prog.underlying 3).isSome = true := by kernel_rfl
theorem tSize4 : tSize Try.prog 4 = some 1 := by kernel_rfl
theorem tBytes4 : tBytes Try.prog 4 = some 1 := by kernel_rfl
theorem tAgg4 : tAgg Try.prog 4 = some false := by kernel_rfl
theorem tZero4 : tZero Try.prog 4 = some (Value.bool false) := by kernel_rfl
theorem tIs4 : (Try.prog.underlying 4).isSome = true := by kernel_rfl
theorem tSize5 : tSize Try.prog 5 = some 1 := by kernel_rfl
theorem tBytes5 : tBytes Try.prog 5 = some 1 := by kernel_rfl
theorem tAgg5 : tAgg Try.prog 5 = some false := by kernel_rfl
theorem tZero5 : tZero Try.prog 5 = some (Value.int IntKind.u8 0) := by kernel_rfl
theorem tInt5 : tInt Try.prog 5 = some IntKind.u8 := by kernel_rfl
theorem tIs5 : (Try.prog.underlying 5).isSome = true := by kernel_rfl
theorem tSize6 : tSize Try.prog 6 = some 1 := by kernel_rfl
theorem tBytes6 : tBytes Try.prog 6 = some 1 := by kernel_rfl
theorem tAgg6 : tAgg Try.prog 6 = some false := by kernel_rfl
theorem tZero6 : tZero Try.prog 6 = some (Value.int IntKind.u8 0) := by kernel_rfl
theorem tInt6 : tInt Try.prog 6 = some IntKind.u8 := by kernel_rfl
theorem tIs6 : (Try.prog.underlying 6).isSome = true := by kernel_rfl
theorem tSize7 : tSize Try.prog 7 = some 4 := by kernel_rfl
theorem tBytes7 : tBytes Try.prog 7 = some 24 := by kernel_rfl
theorem tAgg7 : tAgg Try.prog 7 = some true := by kernel_rfl
theorem tZero7 : tZero Try.prog 7 = some (Value.agg #[(Value.int IntKind.i64 0), (Value.int IntKind.i64 0), (Value.bool false), (Value.int IntKind.u8 0)]) := by kernel_rfl
theorem tPlaces7 : tPlaces Try.prog 7 = some [(0, 1), (1, 1), (2, 1), (3, 1)] := by kernel_rfl
theorem tField7_0 : tField Try.prog 7 0 = some (0, 2) := by kernel_rfl
theorem tField7_1 : tField Try.prog 7 1 = some (1, 3) := by kernel_rfl
theorem tField7_2 : tField Try.prog 7 2 = some (2, 4) := by kernel_rfl
theorem tField7_3 : tField Try.prog 7 3 = some (3, 6) := by kernel_rfl
theorem tIs7 : (Try.prog.underlying 7).isSome = true := by kernel_rfl
theorem tSize8 : tSize Try.prog 8 = some 4 := by kernel_rfl
theorem tBytes8 : tBytes Try.prog 8 = some 24 := by kernel_rfl
theorem tAgg8 : tAgg Try.prog 8 = some true := by kernel_rfl
theorem tZero8 : tZero Try.prog 8 = some (Value.agg #[(Value.int IntKind.i64 0), (Value.int IntKind.i64 0), (Value.bool false), (Value.int IntKind.u8 0)]) := by kernel_rfl
theorem tPlaces8 : tPlaces Try.prog 8 = some [(0, 1), (1, 1), (2, 1), (3, 1)] := by kernel_rfl
theorem tField8_0 : tField Try.prog 8 0 = some (0, 2) := by kernel_rfl
theorem tField8_1 : tField Try.prog 8 1 = some (1, 3) := by kernel_rfl
theorem tField8_2 : tField Try.prog 8 2 = some (2, 4) := by kernel_rfl
theorem tField8_3 : tField Try.prog 8 3 = some (3, 6) := by kernel_rfl
theorem tIs8 : (Try.prog.underlying 8).isSome = true := by kernel_rfl
theorem tSize9 : tSize Try.prog 9 = some 1 := by kernel_rfl
theorem tBytes9 : tBytes Try.prog 9 = some 16 := by kernel_rfl
theorem tAgg9 : tAgg Try.prog 9 = some false := by kernel_rfl
theorem tZero9 : tZero Try.prog 9 = some (Value.string ⟨#[]⟩) := by kernel_rfl
theorem tStr9 : tStr Try.prog 9 = true := by kernel_rfl
theorem tIs9 : (Try.prog.underlying 9).isSome = true := by kernel_rfl
theorem tSize10 : tSize Try.prog 10 = some 1 := by kernel_rfl
theorem tBytes10 : tBytes Try.prog 10 = some 16 := by kernel_rfl
theorem tAgg10 : tAgg Try.prog 10 = some false := by kernel_rfl
theorem tZero10 : tZero Try.prog 10 = some (Value.string ⟨#[]⟩) := by kernel_rfl
theorem tStr10 : tStr Try.prog 10 = true := by kernel_rfl
theorem tIs10 : (Try.prog.underlying 10).isSome = true := by kernel_rfl
theorem tSize11 : tSize Try.prog 11 = some 1 := by kernel_rfl
theorem tBytes11 : tBytes Try.prog 11 = some 16 := by kernel_rfl
theorem tAgg11 : tAgg Try.prog 11 = some false := by kernel_rfl
theorem tZero11 : tZero Try.prog 11 = some (Value.string ⟨#[]⟩) := by kernel_rfl
theorem tStr11 : tStr Try.prog 11 = true := by kernel_rfl
theorem tIs11 : (Try.prog.underlying 11).isSome = true := by kernel_rfl
theorem tSize12 : tSize Try.prog 12 = some 1 := by kernel_rfl
theorem tBytes12 : tBytes Try.prog 12 = some 8 := by kernel_rfl
theorem tAgg12 : tAgg Try.prog 12 = some false := by kernel_rfl
theorem tZero12 : tZero Try.prog 12 = some (Value.int IntKind.u64 0) := by kernel_rfl
theorem tInt12 : tInt Try.prog 12 = some IntKind.u64 := by kernel_rfl
theorem tIs12 : (Try.prog.underlying 12).isSome = true := by kernel_rfl
theorem tSize13 : tSize Try.prog 13 = some 2 := by kernel_rfl
theorem tBytes13 : tBytes Try.prog 13 = some 24 := by kernel_rfl
theorem tAgg13 : tAgg Try.prog 13 = some true := by kernel_rfl
theorem tZero13 : tZero Try.prog 13 = some (Value.agg #[(Value.string ⟨#[]⟩), (Value.int IntKind.u64 0)]) := by kernel_rfl
theorem tPlaces13 : tPlaces Try.prog 13 = some [(0, 1), (1, 1)] := by kernel_rfl
theorem tField13_0 : tField Try.prog 13 0 = some (0, 9) := by kernel_rfl
theorem tField13_1 : tField Try.prog 13 1 = some (1, 12) := by kernel_rfl
theorem tIs13 : (Try.prog.underlying 13).isSome = true := by kernel_rfl
theorem tSize14 : tSize Try.prog 14 = some 2 := by kernel_rfl
theorem tBytes14 : tBytes Try.prog 14 = some 24 := by kernel_rfl
theorem tAgg14 : tAgg Try.prog 14 = some true := by kernel_rfl
theorem tZero14 : tZero Try.prog 14 = some (Value.agg #[(Value.string ⟨#[]⟩), (Value.int IntKind.u64 0)]) := by kernel_rfl
theorem tPlaces14 : tPlaces Try.prog 14 = some [(0, 1), (1, 1)] := by kernel_rfl
theorem tField14_0 : tField Try.prog 14 0 = some (0, 9) := by kernel_rfl
theorem tField14_1 : tField Try.prog 14 1 = some (1, 12) := by kernel_rfl
theorem tIs14 : (Try.prog.underlying 14).isSome = true := by kernel_rfl
theorem tSize15 : tSize Try.prog 15 = some 1 := by kernel_rfl
theorem tBytes15 : tBytes Try.prog 15 = some 8 := by kernel_rfl
theorem tAgg15 : tAgg Try.prog 15 = some false := by kernel_rfl
theorem tZero15 : tZero Try.prog 15 = some (Value.pointer none) := by kernel_rfl
theorem tIs15 : (Try.prog.underlying 15).isSome = true := by kernel_rfl
theorem tSize16 : tSize Try.prog 16 = some 1 := by kernel_rfl
theorem tBytes16 : tBytes Try.prog 16 = some 8 := by kernel_rfl
theorem tAgg16 : tAgg Try.prog 16 = some false := by kernel_rfl
theorem tZero16 : tZero Try.prog 16 = some (Value.pointer none) := by kernel_rfl
theorem tIs16 : (Try.prog.underlying 16).isSome = true := by kernel_rfl
theorem tSize17 : tSize Try.prog 17 = some 1 := by kernel_rfl
theorem tBytes17 : tBytes Try.prog 17 = some 8 := by kernel_rfl
theorem tAgg17 : tAgg Try.prog 17 = some false := by kernel_rfl
theorem tZero17 : tZero Try.prog 17 = some (Value.pointer none) := by kernel_rfl
theorem tIs17 : (Try.prog.underlying 17).isSome = true := by kernel_rfl
theorem tSize18 : tSize Try.prog 18 = some 1 := by kernel_rfl
theorem tBytes18 : tBytes Try.prog 18 = some 8 := by kernel_rfl
theorem tAgg18 : tAgg Try.prog 18 = some true := by kernel_rfl
theorem tZero18 : tZero Try.prog 18 = some (Value.agg #[(Value.pointer none)]) := by kernel_rfl
theorem tPlaces18 : tPlaces Try.prog 18 = some [(0, 1)] := by kernel_rfl
theorem tField18_0 : tField Try.prog 18 0 = some (0, 17) := by kernel_rfl
theorem tIs18 : (Try.prog.underlying 18).isSome = true := by kernel_rfl
theorem tSize19 : tSize Try.prog 19 = some 1 := by kernel_rfl
theorem tBytes19 : tBytes Try.prog 19 = some 8 := by kernel_rfl
theorem tAgg19 : tAgg Try.prog 19 = some true := by kernel_rfl
theorem tZero19 : tZero Try.prog 19 = some (Value.agg #[(Value.pointer none)]) := by kernel_rfl
theorem tPlaces19 : tPlaces Try.prog 19 = some [(0, 1)] := by kernel_rfl
theorem tField19_0 : tField Try.prog 19 0 = some (0, 17) := by kernel_rfl
theorem tIs19 : (Try.prog.underlying 19).isSome = true := by kernel_rfl
theorem tSize21 : tSize Try.prog 21 = some 1 := by kernel_rfl
theorem tBytes21 : tBytes Try.prog 21 = some 4 := by kernel_rfl
theorem tAgg21 : tAgg Try.prog 21 = some false := by kernel_rfl
theorem tZero21 : tZero Try.prog 21 = some (Value.int IntKind.i32 0) := by kernel_rfl
theorem tInt21 : tInt Try.prog 21 = some IntKind.i32 := by kernel_rfl
theorem tIs21 : (Try.prog.underlying 21).isSome = true := by kernel_rfl
theorem tSize22 : tSize Try.prog 22 = some 1 := by kernel_rfl
theorem tBytes22 : tBytes Try.prog 22 = some 24 := by kernel_rfl
theorem tAgg22 : tAgg Try.prog 22 = some false := by kernel_rfl
theorem tZero22 : tZero Try.prog 22 = some (Value.slice none 0 0) := by kernel_rfl
theorem tElem22 : tElem Try.prog 22 = some 44 := by kernel_rfl
theorem tIs22 : (Try.prog.underlying 22).isSome = true := by kernel_rfl
theorem tSize26 : tSize Try.prog 26 = some 1 := by kernel_rfl
theorem tBytes26 : tBytes Try.prog 26 = some 24 := by kernel_rfl
theorem tAgg26 : tAgg Try.prog 26 = some false := by kernel_rfl
theorem tZero26 : tZero Try.prog 26 = some (Value.slice none 0 0) := by kernel_rfl
theorem tElem26 : tElem Try.prog 26 = some 3 := by kernel_rfl
theorem tIs26 : (Try.prog.underlying 26).isSome = true := by kernel_rfl
theorem tSize33 : tSize Try.prog 33 = some 1 := by kernel_rfl
theorem tBytes33 : tBytes Try.prog 33 = some 8 := by kernel_rfl
theorem tAgg33 : tAgg Try.prog 33 = some false := by kernel_rfl
theorem tZero33 : tZero Try.prog 33 = some (Value.int IntKind.i64 0) := by kernel_rfl
theorem tInt33 : tInt Try.prog 33 = some IntKind.i64 := by kernel_rfl
theorem tIs33 : (Try.prog.underlying 33).isSome = true := by kernel_rfl
theorem tSize34 : tSize Try.prog 34 = some 1 := by kernel_rfl
theorem tBytes34 : tBytes Try.prog 34 = some 24 := by kernel_rfl
theorem tAgg34 : tAgg Try.prog 34 = some false := by kernel_rfl
theorem tZero34 : tZero Try.prog 34 = some (Value.slice none 0 0) := by kernel_rfl
theorem tElem34 : tElem Try.prog 34 = some 9 := by kernel_rfl
theorem tIs34 : (Try.prog.underlying 34).isSome = true := by kernel_rfl
theorem tSize35 : tSize Try.prog 35 = some 1 := by kernel_rfl
theorem tBytes35 : tBytes Try.prog 35 = some 24 := by kernel_rfl
theorem tAgg35 : tAgg Try.prog 35 = some false := by kernel_rfl
theorem tZero35 : tZero Try.prog 35 = some (Value.slice none 0 0) := by kernel_rfl
theorem tElem35 : tElem Try.prog 35 = some 107 := by kernel_rfl
theorem tIs35 : (Try.prog.underlying 35).isSome = true := by kernel_rfl
theorem tSize36 : tSize Try.prog 36 = some 1 := by kernel_rfl
theorem tBytes36 : tBytes Try.prog 36 = some 24 := by kernel_rfl
theorem tAgg36 : tAgg Try.prog 36 = some false := by kernel_rfl
theorem tZero36 : tZero Try.prog 36 = some (Value.slice none 0 0) := by kernel_rfl
theorem tElem36 : tElem Try.prog 36 = some 109 := by kernel_rfl
theorem tIs36 : (Try.prog.underlying 36).isSome = true := by kernel_rfl
theorem tSize37 : tSize Try.prog 37 = some 9 := by kernel_rfl
theorem tBytes37 : tBytes Try.prog 37 = some 104 := by kernel_rfl
theorem tAgg37 : tAgg Try.prog 37 = some true := by kernel_rfl
theorem tZero37 : tZero Try.prog 37 = some (Value.agg #[(Value.slice none 0 0), (Value.slice none 0 0), (Value.int IntKind.i64 0), (Value.int IntKind.i64 0), (Value.int IntKind.i64 0), (Value.int IntKind.i64 0), (Value.int IntKind.i64 0), (Value.int IntKind.i64 0), (Value.int IntKind.i64 0)]) := by kernel_rfl
theorem tPlaces37 : tPlaces Try.prog 37 = some [(0, 1), (1, 1), (2, 1), (3, 1), (4, 1), (5, 1), (6, 1), (7, 1), (8, 1)] := by kernel_rfl
theorem tField37_0 : tField Try.prog 37 0 = some (0, 35) := by kernel_rfl
theorem tField37_1 : tField Try.prog 37 1 = some (1, 36) := by kernel_rfl
theorem tField37_2 : tField Try.prog 37 2 = some (2, 3) := by kernel_rfl
theorem tField37_3 : tField Try.prog 37 3 = some (3, 3) := by kernel_rfl
theorem tField37_4 : tField Try.prog 37 4 = some (4, 3) := by kernel_rfl
theorem tField37_5 : tField Try.prog 37 5 = some (5, 3) := by kernel_rfl
theorem tField37_6 : tField Try.prog 37 6 = some (6, 3) := by kernel_rfl
theorem tField37_7 : tField Try.prog 37 7 = some (7, 3) := by kernel_rfl
theorem tField37_8 : tField Try.prog 37 8 = some (8, 3) := by kernel_rfl
theorem tIs37 : (Try.prog.underlying 37).isSome = true := by kernel_rfl
theorem tSize38 : tSize Try.prog 38 = some 9 := by kernel_rfl
theorem tBytes38 : tBytes Try.prog 38 = some 104 := by kernel_rfl
theorem tAgg38 : tAgg Try.prog 38 = some true := by kernel_rfl
theorem tZero38 : tZero Try.prog 38 = some (Value.agg #[(Value.slice none 0 0), (Value.slice none 0 0), (Value.int IntKind.i64 0), (Value.int IntKind.i64 0), (Value.int IntKind.i64 0), (Value.int IntKind.i64 0), (Value.int IntKind.i64 0), (Value.int IntKind.i64 0), (Value.int IntKind.i64 0)]) := by kernel_rfl
theorem tPlaces38 : tPlaces Try.prog 38 = some [(0, 1), (1, 1), (2, 1), (3, 1), (4, 1), (5, 1), (6, 1), (7, 1), (8, 1)] := by kernel_rfl
theorem tField38_0 : tField Try.prog 38 0 = some (0, 35) := by kernel_rfl
theorem tField38_1 : tField Try.prog 38 1 = some (1, 36) := by kernel_rfl
theorem tField38_2 : tField Try.prog 38 2 = some (2, 3) := by kernel_rfl
theorem tField38_3 : tField Try.prog 38 3 = some (3, 3) := by kernel_rfl
theorem tField38_4 : tField Try.prog 38 4 = some (4, 3) := by kernel_rfl
theorem tField38_5 : tField Try.prog 38 5 = some (5, 3) := by kernel_rfl
theorem tField38_6 : tField Try.prog 38 6 = some (6, 3) := by kernel_rfl
theorem tField38_7 : tField Try.prog 38 7 = some (7, 3) := by kernel_rfl
theorem tField38_8 : tField Try.prog 38 8 = some (8, 3) := by kernel_rfl
theorem tIs38 : (Try.prog.underlying 38).isSome = true := by kernel_rfl
theorem tSize39 : tSize Try.prog 39 = some 16 := by kernel_rfl
theorem tBytes39 : tBytes Try.prog 39 = some 208 := by kernel_rfl
theorem tAgg39 : tAgg Try.prog 39 = some true := by kernel_rfl
theorem tZero39 : tZero Try.prog 39 = some (Value.agg #[(Value.string ⟨#[]⟩), (Value.int IntKind.i64 0), (Value.int IntKind.i64 0), (Value.bool false), (Value.string ⟨#[]⟩), (Value.slice none 0 0), (Value.slice none 0 0), (Value.slice none 0 0), (Value.slice none 0 0), (Value.int IntKind.i64 0), (Value.int IntKind.i64 0), (Value.int IntKind.i64 0), (Value.int IntKind.i64 0), (Value.int IntKind.i64 0), (Value.int IntKind.i64 0), (Value.int IntKind.i64 0)]) := by kernel_rfl
theorem tPlaces39 : tPlaces Try.prog 39 = some [(0, 1), (1, 1), (2, 1), (3, 1), (4, 1), (5, 1), (6, 1), (7, 9)] := by kernel_rfl
theorem tField39_0 : tField Try.prog 39 0 = some (0, 9) := by kernel_rfl
theorem tField39_1 : tField Try.prog 39 1 = some (1, 3) := by kernel_rfl
theorem tField39_2 : tField Try.prog 39 2 = some (2, 3) := by kernel_rfl
theorem tField39_3 : tField Try.prog 39 3 = some (3, 4) := by kernel_rfl
theorem tField39_4 : tField Try.prog 39 4 = some (4, 9) := by kernel_rfl
theorem tField39_5 : tField Try.prog 39 5 = some (5, 34) := by kernel_rfl
theorem tField39_6 : tField Try.prog 39 6 = some (6, 34) := by kernel_rfl
theorem tField39_7 : tField Try.prog 39 7 = some (7, 38) := by kernel_rfl
theorem tIs39 : (Try.prog.underlying 39).isSome = true := by kernel_rfl
theorem tSize40 : tSize Try.prog 40 = some 16 := by kernel_rfl
theorem tBytes40 : tBytes Try.prog 40 = some 208 := by kernel_rfl
theorem tAgg40 : tAgg Try.prog 40 = some true := by kernel_rfl
theorem tZero40 : tZero Try.prog 40 = some (Value.agg #[(Value.string ⟨#[]⟩), (Value.int IntKind.i64 0), (Value.int IntKind.i64 0), (Value.bool false), (Value.string ⟨#[]⟩), (Value.slice none 0 0), (Value.slice none 0 0), (Value.slice none 0 0), (Value.slice none 0 0), (Value.int IntKind.i64 0), (Value.int IntKind.i64 0), (Value.int IntKind.i64 0), (Value.int IntKind.i64 0), (Value.int IntKind.i64 0), (Value.int IntKind.i64 0), (Value.int IntKind.i64 0)]) := by kernel_rfl
theorem tPlaces40 : tPlaces Try.prog 40 = some [(0, 1), (1, 1), (2, 1), (3, 1), (4, 1), (5, 1), (6, 1), (7, 9)] := by kernel_rfl
theorem tField40_0 : tField Try.prog 40 0 = some (0, 9) := by kernel_rfl
theorem tField40_1 : tField Try.prog 40 1 = some (1, 3) := by kernel_rfl
theorem tField40_2 : tField Try.prog 40 2 = some (2, 3) := by kernel_rfl
theorem tField40_3 : tField Try.prog 40 3 = some (3, 4) := by kernel_rfl
theorem tField40_4 : tField Try.prog 40 4 = some (4, 9) := by kernel_rfl
theorem tField40_5 : tField Try.prog 40 5 = some (5, 34) := by kernel_rfl
theorem tField40_6 : tField Try.prog 40 6 = some (6, 34) := by kernel_rfl
theorem tField40_7 : tField Try.prog 40 7 = some (7, 38) := by kernel_rfl
theorem tIs40 : (Try.prog.underlying 40).isSome = true := by kernel_rfl
theorem tSize41 : tSize Try.prog 41 = some 2 := by kernel_rfl
theorem tBytes41 : tBytes Try.prog 41 = some 24 := by kernel_rfl
theorem tAgg41 : tAgg Try.prog 41 = some true := by kernel_rfl
theorem tZero41 : tZero Try.prog 41 = some (Value.agg #[(Value.string ⟨#[]⟩), (Value.int IntKind.i64 0)]) := by kernel_rfl
theorem tPlaces41 : tPlaces Try.prog 41 = some [(0, 1), (1, 1)] := by kernel_rfl
theorem tField41_0 : tField Try.prog 41 0 = some (0, 9) := by kernel_rfl
theorem tField41_1 : tField Try.prog 41 1 = some (1, 3) := by kernel_rfl
theorem tIs41 : (Try.prog.underlying 41).isSome = true := by kernel_rfl
theorem tSize42 : tSize Try.prog 42 = some 2 := by kernel_rfl
theorem tBytes42 : tBytes Try.prog 42 = some 24 := by kernel_rfl
theorem tAgg42 : tAgg Try.prog 42 = some true := by kernel_rfl
theorem tZero42 : tZero Try.prog 42 = some (Value.agg #[(Value.string ⟨#[]⟩), (Value.int IntKind.i64 0)]) := by kernel_rfl
theorem tPlaces42 : tPlaces Try.prog 42 = some [(0, 1), (1, 1)] := by kernel_rfl
theorem tFlat42 : tFlat Try.prog 42 = some [1, 0] := by kernel_rfl
theorem tField42_0 : tField Try.prog 42 0 = some (0, 9) := by kernel_rfl
theorem tField42_1 : tField Try.prog 42 1 = some (1, 3) := by kernel_rfl
theorem tIs42 : (Try.prog.underlying 42).isSome = true := by kernel_rfl
theorem tSize43 : tSize Try.prog 43 = some 29 := by kernel_rfl
theorem tBytes43 : tBytes Try.prog 43 = some 376 := by kernel_rfl
theorem tAgg43 : tAgg Try.prog 43 = some true := by kernel_rfl
theorem tZero43 : tZero Try.prog 43 = some (Value.agg #[(Value.int IntKind.i64 0), (Value.string ⟨#[]⟩), (Value.string ⟨#[]⟩), (Value.int IntKind.i64 0), (Value.bool false), (Value.string ⟨#[]⟩), (Value.int IntKind.i64 0), (Value.int IntKind.i64 0), (Value.slice none 0 0), (Value.slice none 0 0), (Value.string ⟨#[]⟩), (Value.int IntKind.i64 0), (Value.int IntKind.i64 0), (Value.bool false), (Value.string ⟨#[]⟩), (Value.slice none 0 0), (Value.slice none 0 0), (Value.slice none 0 0), (Value.slice none 0 0), (Value.int IntKind.i64 0), (Value.int IntKind.i64 0), (Value.int IntKind.i64 0), (Value.int IntKind.i64 0), (Value.int IntKind.i64 0), (Value.int IntKind.i64 0), (Value.int IntKind.i64 0), (Value.int IntKind.i64 0), (Value.string ⟨#[]⟩), (Value.int IntKind.i64 0)]) := by kernel_rfl
theorem tPlaces43 : tPlaces Try.prog 43 = some [(0, 1), (1, 1), (2, 1), (3, 1), (4, 1), (5, 1), (6, 1), (7, 1), (8, 1), (9, 1), (10, 16), (26, 1), (27, 2)] := by kernel_rfl
theorem tField43_0 : tField Try.prog 43 0 = some (0, 3) := by kernel_rfl
theorem tField43_1 : tField Try.prog 43 1 = some (1, 9) := by kernel_rfl
theorem tField43_2 : tField Try.prog 43 2 = some (2, 9) := by kernel_rfl
theorem tField43_3 : tField Try.prog 43 3 = some (3, 33) := by kernel_rfl
theorem tField43_4 : tField Try.prog 43 4 = some (4, 4) := by kernel_rfl
theorem tField43_5 : tField Try.prog 43 5 = some (5, 9) := by kernel_rfl
theorem tField43_6 : tField Try.prog 43 6 = some (6, 3) := by kernel_rfl
theorem tField43_7 : tField Try.prog 43 7 = some (7, 3) := by kernel_rfl
theorem tField43_8 : tField Try.prog 43 8 = some (8, 26) := by kernel_rfl
theorem tField43_9 : tField Try.prog 43 9 = some (9, 26) := by kernel_rfl
theorem tField43_10 : tField Try.prog 43 10 = some (10, 40) := by kernel_rfl
theorem tField43_11 : tField Try.prog 43 11 = some (26, 3) := by kernel_rfl
theorem tField43_12 : tField Try.prog 43 12 = some (27, 42) := by kernel_rfl
theorem tIs43 : (Try.prog.underlying 43).isSome = true := by kernel_rfl
theorem tSize44 : tSize Try.prog 44 = some 29 := by kernel_rfl
theorem tBytes44 : tBytes Try.prog 44 = some 376 := by kernel_rfl
theorem tAgg44 : tAgg Try.prog 44 = some true := by kernel_rfl
theorem tZero44 : tZero Try.prog 44 = some (Value.agg #[(Value.int IntKind.i64 0), (Value.string ⟨#[]⟩), (Value.string ⟨#[]⟩), (Value.int IntKind.i64 0), (Value.bool false), (Value.string ⟨#[]⟩), (Value.int IntKind.i64 0), (Value.int IntKind.i64 0), (Value.slice none 0 0), (Value.slice none 0 0), (Value.string ⟨#[]⟩), (Value.int IntKind.i64 0), (Value.int IntKind.i64 0), (Value.bool false), (Value.string ⟨#[]⟩), (Value.slice none 0 0), (Value.slice none 0 0), (Value.slice none 0 0), (Value.slice none 0 0), (Value.int IntKind.i64 0), (Value.int IntKind.i64 0), (Value.int IntKind.i64 0), (Value.int IntKind.i64 0), (Value.int IntKind.i64 0), (Value.int IntKind.i64 0), (Value.int IntKind.i64 0), (Value.int IntKind.i64 0), (Value.string ⟨#[]⟩), (Value.int IntKind.i64 0)]) := by kernel_rfl
theorem tPlaces44 : tPlaces Try.prog 44 = some [(0, 1), (1, 1), (2, 1), (3, 1), (4, 1), (5, 1), (6, 1), (7, 1), (8, 1), (9, 1), (10, 16), (26, 1), (27, 2)] := by kernel_rfl
theorem tField44_0 : tField Try.prog 44 0 = some (0, 3) := by kernel_rfl
theorem tField44_1 : tField Try.prog 44 1 = some (1, 9) := by kernel_rfl
theorem tField44_2 : tField Try.prog 44 2 = some (2, 9) := by kernel_rfl
theorem tField44_3 : tField Try.prog 44 3 = some (3, 33) := by kernel_rfl
theorem tField44_4 : tField Try.prog 44 4 = some (4, 4) := by kernel_rfl
theorem tField44_5 : tField Try.prog 44 5 = some (5, 9) := by kernel_rfl
theorem tField44_6 : tField Try.prog 44 6 = some (6, 3) := by kernel_rfl
theorem tField44_7 : tField Try.prog 44 7 = some (7, 3) := by kernel_rfl
theorem tField44_8 : tField Try.prog 44 8 = some (8, 26) := by kernel_rfl
theorem tField44_9 : tField Try.prog 44 9 = some (9, 26) := by kernel_rfl
theorem tField44_10 : tField Try.prog 44 10 = some (10, 40) := by kernel_rfl
theorem tField44_11 : tField Try.prog 44 11 = some (26, 3) := by kernel_rfl
theorem tField44_12 : tField Try.prog 44 12 = some (27, 42) := by kernel_rfl
theorem tIs44 : (Try.prog.underlying 44).isSome = true := by kernel_rfl
theorem tSize55 : tSize Try.prog 55 = some 1 := by kernel_rfl
theorem tBytes55 : tBytes Try.prog 55 = some 24 := by kernel_rfl
theorem tAgg55 : tAgg Try.prog 55 = some false := by kernel_rfl
theorem tZero55 : tZero Try.prog 55 = some (Value.slice none 0 0) := by kernel_rfl
theorem tElem55 : tElem Try.prog 55 = some 57 := by kernel_rfl
theorem tIs55 : (Try.prog.underlying 55).isSome = true := by kernel_rfl
theorem tSize56 : tSize Try.prog 56 = some 3 := by kernel_rfl
theorem tBytes56 : tBytes Try.prog 56 = some 24 := by kernel_rfl
theorem tAgg56 : tAgg Try.prog 56 = some true := by kernel_rfl
theorem tZero56 : tZero Try.prog 56 = some (Value.agg #[(Value.int IntKind.i64 0), (Value.int IntKind.i64 0), (Value.int IntKind.i64 0)]) := by kernel_rfl
theorem tPlaces56 : tPlaces Try.prog 56 = some [(0, 1), (1, 1), (2, 1)] := by kernel_rfl
theorem tField56_0 : tField Try.prog 56 0 = some (0, 3) := by kernel_rfl
theorem tField56_1 : tField Try.prog 56 1 = some (1, 3) := by kernel_rfl
theorem tField56_2 : tField Try.prog 56 2 = some (2, 3) := by kernel_rfl
theorem tIs56 : (Try.prog.underlying 56).isSome = true := by kernel_rfl
theorem tSize57 : tSize Try.prog 57 = some 3 := by kernel_rfl
theorem tBytes57 : tBytes Try.prog 57 = some 24 := by kernel_rfl
theorem tAgg57 : tAgg Try.prog 57 = some true := by kernel_rfl
theorem tZero57 : tZero Try.prog 57 = some (Value.agg #[(Value.int IntKind.i64 0), (Value.int IntKind.i64 0), (Value.int IntKind.i64 0)]) := by kernel_rfl
theorem tPlaces57 : tPlaces Try.prog 57 = some [(0, 1), (1, 1), (2, 1)] := by kernel_rfl
theorem tFlat57 : tFlat Try.prog 57 = some [0, 0, 0] := by kernel_rfl
theorem tField57_0 : tField Try.prog 57 0 = some (0, 3) := by kernel_rfl
theorem tField57_1 : tField Try.prog 57 1 = some (1, 3) := by kernel_rfl
theorem tField57_2 : tField Try.prog 57 2 = some (2, 3) := by kernel_rfl
theorem tIs57 : (Try.prog.underlying 57).isSome = true := by kernel_rfl
theorem tSize68 : tSize Try.prog 68 = some 1 := by kernel_rfl
theorem tBytes68 : tBytes Try.prog 68 = some 8 := by kernel_rfl
theorem tAgg68 : tAgg Try.prog 68 = some false := by kernel_rfl
theorem tZero68 : tZero Try.prog 68 = some (Value.int IntKind.u64 0) := by kernel_rfl
theorem tInt68 : tInt Try.prog 68 = some IntKind.u64 := by kernel_rfl
theorem tIs68 : (Try.prog.underlying 68).isSome = true := by kernel_rfl
theorem tSize72 : tSize Try.prog 72 = some 1 := by kernel_rfl
theorem tBytes72 : tBytes Try.prog 72 = some 8 := by kernel_rfl
theorem tAgg72 : tAgg Try.prog 72 = some false := by kernel_rfl
theorem tZero72 : tZero Try.prog 72 = some (Value.int IntKind.i64 0) := by kernel_rfl
theorem tInt72 : tInt Try.prog 72 = some IntKind.i64 := by kernel_rfl
theorem tIs72 : (Try.prog.underlying 72).isSome = true := by kernel_rfl
theorem tSize79 : tSize Try.prog 79 = some 1 := by kernel_rfl
theorem tBytes79 : tBytes Try.prog 79 = some 4 := by kernel_rfl
theorem tAgg79 : tAgg Try.prog 79 = some false := by kernel_rfl
theorem tZero79 : tZero Try.prog 79 = some (Value.int IntKind.u32 0) := by kernel_rfl
theorem tInt79 : tInt Try.prog 79 = some IntKind.u32 := by kernel_rfl
theorem tIs79 : (Try.prog.underlying 79).isSome = true := by kernel_rfl
theorem tSize81 : tSize Try.prog 81 = some 1 := by kernel_rfl
theorem tBytes81 : tBytes Try.prog 81 = some 8 := by kernel_rfl
theorem tAgg81 : tAgg Try.prog 81 = some false := by kernel_rfl
theorem tZero81 : tZero Try.prog 81 = some (Value.int IntKind.u64 0) := by kernel_rfl
theorem tInt81 : tInt Try.prog 81 = some IntKind.u64 := by kernel_rfl
theorem tIs81 : (Try.prog.underlying 81).isSome = true := by kernel_rfl
theorem tSize82 : tSize Try.prog 82 = some 1 := by kernel_rfl
theorem tBytes82 : tBytes Try.prog 82 = some 8 := by kernel_rfl
theorem tAgg82 : tAgg Try.prog 82 = some false := by kernel_rfl
theorem tZero82 : tZero Try.prog 82 = some (Value.int IntKind.u64 0) := by kernel_rfl
theorem tInt82 : tInt Try.prog 82 = some IntKind.u64 := by kernel_rfl
theorem tIs82 : (Try.prog.underlying 82).isSome = true := by kernel_rfl
theorem tSize86 : tSize Try.prog 86 = some 1 := by kernel_rfl
theorem tBytes86 : tBytes Try.prog 86 = some 8 := by kernel_rfl
theorem tAgg86 : tAgg Try.prog 86 = some false := by kernel_rfl
theorem tZero86 : tZero Try.prog 86 = some (Value.pointer none) := by kernel_rfl
theorem tIs86 : (Try.prog.underlying 86).isSome = true := by kernel_rfl
theorem tSize88 : tSize Try.prog 88 = some 1 := by kernel_rfl
theorem tBytes88 : tBytes Try.prog 88 = some 8 := by kernel_rfl
theorem tAgg88 : tAgg Try.prog 88 = some false := by kernel_rfl
theorem tZero88 : tZero Try.prog 88 = some (Value.pointer none) := by kernel_rfl
theorem tIs88 : (Try.prog.underlying 88).isSome = true := by kernel_rfl
theorem tSize92 : tSize Try.prog 92 = some 4 := by kernel_rfl
theorem tBytes92 : tBytes Try.prog 92 = some 40 := by kernel_rfl
theorem tAgg92 : tAgg Try.prog 92 = some true := by kernel_rfl
theorem tZero92 : tZero Try.prog 92 = some (Value.agg #[(Value.pointer none), (Value.pointer none), (Value.pointer none), (Value.string ⟨#[]⟩)]) := by kernel_rfl
theorem tPlaces92 : tPlaces Try.prog 92 = some [(0, 1), (1, 1), (2, 1), (3, 1)] := by kernel_rfl
theorem tField92_0 : tField Try.prog 92 0 = some (0, 17) := by kernel_rfl
theorem tField92_1 : tField Try.prog 92 1 = some (1, 17) := by kernel_rfl
theorem tField92_2 : tField Try.prog 92 2 = some (2, 17) := by kernel_rfl
theorem tField92_3 : tField Try.prog 92 3 = some (3, 9) := by kernel_rfl
theorem tIs92 : (Try.prog.underlying 92).isSome = true := by kernel_rfl
theorem tSize93 : tSize Try.prog 93 = some 4 := by kernel_rfl
theorem tBytes93 : tBytes Try.prog 93 = some 40 := by kernel_rfl
theorem tAgg93 : tAgg Try.prog 93 = some true := by kernel_rfl
theorem tZero93 : tZero Try.prog 93 = some (Value.agg #[(Value.pointer none), (Value.pointer none), (Value.pointer none), (Value.string ⟨#[]⟩)]) := by kernel_rfl
theorem tPlaces93 : tPlaces Try.prog 93 = some [(0, 1), (1, 1), (2, 1), (3, 1)] := by kernel_rfl
theorem tField93_0 : tField Try.prog 93 0 = some (0, 17) := by kernel_rfl
theorem tField93_1 : tField Try.prog 93 1 = some (1, 17) := by kernel_rfl
theorem tField93_2 : tField Try.prog 93 2 = some (2, 17) := by kernel_rfl
theorem tField93_3 : tField Try.prog 93 3 = some (3, 9) := by kernel_rfl
theorem tIs93 : (Try.prog.underlying 93).isSome = true := by kernel_rfl
theorem tSize94 : tSize Try.prog 94 = some 0 := by kernel_rfl
theorem tBytes94 : tBytes Try.prog 94 = some 0 := by kernel_rfl
theorem tAgg94 : tAgg Try.prog 94 = some true := by kernel_rfl
theorem tZero94 : tZero Try.prog 94 = some (Value.agg #[]) := by kernel_rfl
theorem tPlaces94 : tPlaces Try.prog 94 = none := by kernel_rfl
theorem tArr94 : tArr Try.prog 94 = some (0, 1) := by kernel_rfl
theorem tIs94 : (Try.prog.underlying 94).isSome = true := by kernel_rfl
theorem tSize95 : tSize Try.prog 95 = some 0 := by kernel_rfl
theorem tBytes95 : tBytes Try.prog 95 = some 0 := by kernel_rfl
theorem tAgg95 : tAgg Try.prog 95 = some true := by kernel_rfl
theorem tZero95 : tZero Try.prog 95 = some (Value.agg #[]) := by kernel_rfl
theorem tPlaces95 : tPlaces Try.prog 95 = some [(0, 0)] := by kernel_rfl
theorem tIs95 : (Try.prog.underlying 95).isSome = true := by kernel_rfl
theorem tSize96 : tSize Try.prog 96 = some 0 := by kernel_rfl
theorem tBytes96 : tBytes Try.prog 96 = some 0 := by kernel_rfl
theorem tAgg96 : tAgg Try.prog 96 = some true := by kernel_rfl
theorem tZero96 : tZero Try.prog 96 = some (Value.agg #[]) := by kernel_rfl
theorem tPlaces96 : tPlaces Try.prog 96 = some [(0, 0)] := by kernel_rfl
theorem tIs96 : (Try.prog.underlying 96).isSome = true := by kernel_rfl
theorem tSize98 : tSize Try.prog 98 = some 1 := by kernel_rfl
theorem tBytes98 : tBytes Try.prog 98 = some 1 := by kernel_rfl
theorem tAgg98 : tAgg Try.prog 98 = some false := by kernel_rfl
theorem tZero98 : tZero Try.prog 98 = some (Value.int IntKind.u8 0) := by kernel_rfl
theorem tInt98 : tInt Try.prog 98 = some IntKind.u8 := by kernel_rfl
theorem tIs98 : (Try.prog.underlying 98).isSome = true := by kernel_rfl
theorem tSize99 : tSize Try.prog 99 = some 1 := by kernel_rfl
theorem tBytes99 : tBytes Try.prog 99 = some 1 := by kernel_rfl
theorem tAgg99 : tAgg Try.prog 99 = some false := by kernel_rfl
theorem tZero99 : tZero Try.prog 99 = some (Value.int IntKind.u8 0) := by kernel_rfl
theorem tInt99 : tInt Try.prog 99 = some IntKind.u8 := by kernel_rfl
theorem tIs99 : (Try.prog.underlying 99).isSome = true := by kernel_rfl
theorem tSize101 : tSize Try.prog 101 = some 1 := by kernel_rfl
theorem tBytes101 : tBytes Try.prog 101 = some 8 := by kernel_rfl
theorem tAgg101 : tAgg Try.prog 101 = some false := by kernel_rfl
theorem tZero101 : tZero Try.prog 101 = some (Value.pointer none) := by kernel_rfl
theorem tIs101 : (Try.prog.underlying 101).isSome = true := by kernel_rfl
theorem tSize102 : tSize Try.prog 102 = some 1 := by kernel_rfl
theorem tBytes102 : tBytes Try.prog 102 = some 4 := by kernel_rfl
theorem tAgg102 : tAgg Try.prog 102 = some false := by kernel_rfl
theorem tZero102 : tZero Try.prog 102 = some (Value.int IntKind.i32 0) := by kernel_rfl
theorem tInt102 : tInt Try.prog 102 = some IntKind.i32 := by kernel_rfl
theorem tIs102 : (Try.prog.underlying 102).isSome = true := by kernel_rfl
theorem tSize103 : tSize Try.prog 103 = some 1 := by kernel_rfl
theorem tBytes103 : tBytes Try.prog 103 = some 4 := by kernel_rfl
theorem tAgg103 : tAgg Try.prog 103 = some false := by kernel_rfl
theorem tZero103 : tZero Try.prog 103 = some (Value.int IntKind.i32 0) := by kernel_rfl
theorem tInt103 : tInt Try.prog 103 = some IntKind.i32 := by kernel_rfl
theorem tIs103 : (Try.prog.underlying 103).isSome = true := by kernel_rfl
theorem tSize104 : tSize Try.prog 104 = some 11 := by kernel_rfl
theorem tBytes104 : tBytes Try.prog 104 = some 48 := by kernel_rfl
theorem tAgg104 : tAgg Try.prog 104 = some true := by kernel_rfl
theorem tZero104 : tZero Try.prog 104 = some (Value.agg #[(Value.int IntKind.u64 0), (Value.int IntKind.u64 0), (Value.int IntKind.u32 0), (Value.int IntKind.u8 0), (Value.int IntKind.u8 0), (Value.int IntKind.u8 0), (Value.int IntKind.u8 0), Value.nilFunc, (Value.pointer none), (Value.int IntKind.i32 0), (Value.int IntKind.i32 0)]) := by kernel_rfl
theorem tPlaces104 : tPlaces Try.prog 104 = some [(0, 1), (1, 1), (2, 1), (3, 1), (4, 1), (5, 1), (6, 1), (7, 1), (8, 1), (9, 1), (10, 1)] := by kernel_rfl
theorem tField104_0 : tField Try.prog 104 0 = some (0, 12) := by kernel_rfl
theorem tField104_1 : tField Try.prog 104 1 = some (1, 12) := by kernel_rfl
theorem tField104_2 : tField Try.prog 104 2 = some (2, 79) := by kernel_rfl
theorem tField104_3 : tField Try.prog 104 3 = some (3, 98) := by kernel_rfl
theorem tField104_4 : tField Try.prog 104 4 = some (4, 5) := by kernel_rfl
theorem tField104_5 : tField Try.prog 104 5 = some (5, 5) := by kernel_rfl
theorem tField104_6 : tField Try.prog 104 6 = some (6, 99) := by kernel_rfl
theorem tField104_8 : tField Try.prog 104 8 = some (8, 101) := by kernel_rfl
theorem tField104_9 : tField Try.prog 104 9 = some (9, 102) := by kernel_rfl
theorem tField104_10 : tField Try.prog 104 10 = some (10, 103) := by kernel_rfl
theorem tIs104 : (Try.prog.underlying 104).isSome = true := by kernel_rfl
theorem tSize105 : tSize Try.prog 105 = some 11 := by kernel_rfl
theorem tBytes105 : tBytes Try.prog 105 = some 48 := by kernel_rfl
theorem tAgg105 : tAgg Try.prog 105 = some true := by kernel_rfl
theorem tZero105 : tZero Try.prog 105 = some (Value.agg #[(Value.int IntKind.u64 0), (Value.int IntKind.u64 0), (Value.int IntKind.u32 0), (Value.int IntKind.u8 0), (Value.int IntKind.u8 0), (Value.int IntKind.u8 0), (Value.int IntKind.u8 0), Value.nilFunc, (Value.pointer none), (Value.int IntKind.i32 0), (Value.int IntKind.i32 0)]) := by kernel_rfl
theorem tPlaces105 : tPlaces Try.prog 105 = some [(0, 1), (1, 1), (2, 1), (3, 1), (4, 1), (5, 1), (6, 1), (7, 1), (8, 1), (9, 1), (10, 1)] := by kernel_rfl
theorem tField105_0 : tField Try.prog 105 0 = some (0, 12) := by kernel_rfl
theorem tField105_1 : tField Try.prog 105 1 = some (1, 12) := by kernel_rfl
theorem tField105_2 : tField Try.prog 105 2 = some (2, 79) := by kernel_rfl
theorem tField105_3 : tField Try.prog 105 3 = some (3, 98) := by kernel_rfl
theorem tField105_4 : tField Try.prog 105 4 = some (4, 5) := by kernel_rfl
theorem tField105_5 : tField Try.prog 105 5 = some (5, 5) := by kernel_rfl
theorem tField105_6 : tField Try.prog 105 6 = some (6, 99) := by kernel_rfl
theorem tField105_8 : tField Try.prog 105 8 = some (8, 101) := by kernel_rfl
theorem tField105_9 : tField Try.prog 105 9 = some (9, 102) := by kernel_rfl
theorem tField105_10 : tField Try.prog 105 10 = some (10, 103) := by kernel_rfl
theorem tIs105 : (Try.prog.underlying 105).isSome = true := by kernel_rfl
theorem tSize106 : tSize Try.prog 106 = some 2 := by kernel_rfl
theorem tBytes106 : tBytes Try.prog 106 = some 24 := by kernel_rfl
theorem tAgg106 : tAgg Try.prog 106 = some true := by kernel_rfl
theorem tZero106 : tZero Try.prog 106 = some (Value.agg #[(Value.string ⟨#[]⟩), (Value.int IntKind.i64 0)]) := by kernel_rfl
theorem tPlaces106 : tPlaces Try.prog 106 = some [(0, 1), (1, 1)] := by kernel_rfl
theorem tField106_0 : tField Try.prog 106 0 = some (0, 9) := by kernel_rfl
theorem tField106_1 : tField Try.prog 106 1 = some (1, 3) := by kernel_rfl
theorem tIs106 : (Try.prog.underlying 106).isSome = true := by kernel_rfl
theorem tSize107 : tSize Try.prog 107 = some 2 := by kernel_rfl
theorem tBytes107 : tBytes Try.prog 107 = some 24 := by kernel_rfl
theorem tAgg107 : tAgg Try.prog 107 = some true := by kernel_rfl
theorem tZero107 : tZero Try.prog 107 = some (Value.agg #[(Value.string ⟨#[]⟩), (Value.int IntKind.i64 0)]) := by kernel_rfl
theorem tPlaces107 : tPlaces Try.prog 107 = some [(0, 1), (1, 1)] := by kernel_rfl
theorem tFlat107 : tFlat Try.prog 107 = some [1, 0] := by kernel_rfl
theorem tField107_0 : tField Try.prog 107 0 = some (0, 9) := by kernel_rfl
theorem tField107_1 : tField Try.prog 107 1 = some (1, 3) := by kernel_rfl
theorem tIs107 : (Try.prog.underlying 107).isSome = true := by kernel_rfl
theorem tSize108 : tSize Try.prog 108 = some 2 := by kernel_rfl
theorem tBytes108 : tBytes Try.prog 108 = some 16 := by kernel_rfl
theorem tAgg108 : tAgg Try.prog 108 = some true := by kernel_rfl
theorem tZero108 : tZero Try.prog 108 = some (Value.agg #[(Value.int IntKind.i64 0), (Value.int IntKind.i64 0)]) := by kernel_rfl
theorem tPlaces108 : tPlaces Try.prog 108 = some [(0, 1), (1, 1)] := by kernel_rfl
theorem tField108_0 : tField Try.prog 108 0 = some (0, 33) := by kernel_rfl
theorem tField108_1 : tField Try.prog 108 1 = some (1, 3) := by kernel_rfl
theorem tIs108 : (Try.prog.underlying 108).isSome = true := by kernel_rfl
theorem tSize109 : tSize Try.prog 109 = some 2 := by kernel_rfl
theorem tBytes109 : tBytes Try.prog 109 = some 16 := by kernel_rfl
theorem tAgg109 : tAgg Try.prog 109 = some true := by kernel_rfl
theorem tZero109 : tZero Try.prog 109 = some (Value.agg #[(Value.int IntKind.i64 0), (Value.int IntKind.i64 0)]) := by kernel_rfl
theorem tPlaces109 : tPlaces Try.prog 109 = some [(0, 1), (1, 1)] := by kernel_rfl
theorem tFlat109 : tFlat Try.prog 109 = some [0, 0] := by kernel_rfl
theorem tField109_0 : tField Try.prog 109 0 = some (0, 33) := by kernel_rfl
theorem tField109_1 : tField Try.prog 109 1 = some (1, 3) := by kernel_rfl
theorem tIs109 : (Try.prog.underlying 109).isSome = true := by kernel_rfl
attribute [go_sem] tSize2 tBytes2 tAgg2 tZero2 tInt2 tIs2 tSize3 tBytes3 tAgg3 tZero3 tInt3 tIs3 tSize4 tBytes4 tAgg4 tZero4 tIs4 tSize5 tBytes5 tAgg5 tZero5 tInt5 tIs5 tSize6 tBytes6 tAgg6 tZero6 tInt6 tIs6 tSize7 tBytes7 tAgg7 tZero7 tPlaces7 tField7_0 tField7_1 tField7_2 tField7_3 tIs7 tSize8 tBytes8 tAgg8 tZero8 tPlaces8 tField8_0 tField8_1 tField8_2 tField8_3 tIs8 tSize9 tBytes9 tAgg9 tZero9 tStr9 tIs9 tSize10 tBytes10 tAgg10 tZero10 tStr10 tIs10 tSize11 tBytes11 tAgg11 tZero11 tStr11 tIs11 tSize12 tBytes12 tAgg12 tZero12 tInt12 tIs12 tSize13 tBytes13 tAgg13 tZero13 tPlaces13 tField13_0 tField13_1 tIs13 tSize14 tBytes14 tAgg14 tZero14 tPlaces14 tField14_0 tField14_1 tIs14 tSize15 tBytes15 tAgg15 tZero15 tIs15 tSize16 tBytes16 tAgg16 tZero16 tIs16 tSize17 tBytes17 tAgg17 tZero17 tIs17 tSize18 tBytes18 tAgg18 tZero18 tPlaces18 tField18_0 tIs18 tSize19 tBytes19 tAgg19 tZero19 tPlaces19 tField19_0 tIs19 tSize21 tBytes21 tAgg21 tZero21 tInt21 tIs21 tSize22 tBytes22 tAgg22 tZero22 tElem22 tIs22 tSize26 tBytes26 tAgg26 tZero26 tElem26 tIs26 tSize33 tBytes33 tAgg33 tZero33 tInt33 tIs33 tSize34 tBytes34 tAgg34 tZero34 tElem34 tIs34 tSize35 tBytes35 tAgg35 tZero35 tElem35 tIs35 tSize36 tBytes36 tAgg36 tZero36 tElem36 tIs36 tSize37 tBytes37 tAgg37 tZero37 tPlaces37 tField37_0 tField37_1 tField37_2 tField37_3 tField37_4 tField37_5 tField37_6 tField37_7 tField37_8 tIs37 tSize38 tBytes38 tAgg38 tZero38 tPlaces38 tField38_0 tField38_1 tField38_2 tField38_3 tField38_4 tField38_5 tField38_6 tField38_7 tField38_8 tIs38 tSize39 tBytes39 tAgg39 tZero39 tPlaces39 tField39_0 tField39_1 tField39_2 tField39_3 tField39_4 tField39_5 tField39_6 tField39_7 tIs39 tSize40 tBytes40 tAgg40 tZero40 tPlaces40 tField40_0 tField40_1 tField40_2 tField40_3 tField40_4 tField40_5 tField40_6 tField40_7 tIs40 tSize41 tBytes41 tAgg41 tZero41 tPlaces41 tField41_0 tField41_1 tIs41 tSize42 tBytes42 tAgg42 tZero42 tPlaces42 tFlat42 tField42_0 tField42_1 tIs42 tSize43 tBytes43 tAgg43 tZero43 tPlaces43 tField43_0 tField43_1 tField43_2 tField43_3 tField43_4 tField43_5 tField43_6 tField43_7 tField43_8 tField43_9 tField43_10 tField43_11 tField43_12 tIs43 tSize44 tBytes44 tAgg44 tZero44 tPlaces44 tField44_0 tField44_1 tField44_2 tField44_3 tField44_4 tField44_5 tField44_6 tField44_7 tField44_8 tField44_9 tField44_10 tField44_11 tField44_12 tIs44 tSize55 tBytes55 tAgg55 tZero55 tElem55 tIs55 tSize56 tBytes56 tAgg56 tZero56 tPlaces56 tField56_0 tField56_1 tField56_2 tIs56 tSize57 tBytes57 tAgg57 tZero57 tPlaces57 tFlat57 tField57_0 tField57_1 tField57_2 tIs57 tSize68 tBytes68 tAgg68 tZero68 tInt68 tIs68 tSize72 tBytes72 tAgg72 tZero72 tInt72 tIs72 tSize79 tBytes79 tAgg79 tZero79 tInt79 tIs79 tSize81 tBytes81 tAgg81 tZero81 tInt81 tIs81 tSize82 tBytes82 tAgg82 tZero82 tInt82 tIs82 tSize86 tBytes86 tAgg86 tZero86 tIs86 tSize88 tBytes88 tAgg88 tZero88 tIs88 tSize92 tBytes92 tAgg92 tZero92 tPlaces92 tField92_0 tField92_1 tField92_2 tField92_3 tIs92 tSize93 tBytes93 tAgg93 tZero93 tPlaces93 tField93_0 tField93_1 tField93_2 tField93_3 tIs93 tSize94 tBytes94 tAgg94 tZero94 tPlaces94 tArr94 tIs94 tSize95 tBytes95 tAgg95 tZero95 tPlaces95 tIs95 tSize96 tBytes96 tAgg96 tZero96 tPlaces96 tIs96 tSize98 tBytes98 tAgg98 tZero98 tInt98 tIs98 tSize99 tBytes99 tAgg99 tZero99 tInt99 tIs99 tSize101 tBytes101 tAgg101 tZero101 tIs101 tSize102 tBytes102 tAgg102 tZero102 tInt102 tIs102 tSize103 tBytes103 tAgg103 tZero103 tInt103 tIs103 tSize104 tBytes104 tAgg104 tZero104 tPlaces104 tField104_0 tField104_1 tField104_2 tField104_3 tField104_4 tField104_5 tField104_6 tField104_8 tField104_9 tField104_10 tIs104 tSize105 tBytes105 tAgg105 tZero105 tPlaces105 tField105_0 tField105_1 tField105_2 tField105_3 tField105_4 tField105_5 tField105_6 tField105_8 tField105_9 tField105_10 tIs105 tSize106 tBytes106 tAgg106 tZero106 tPlaces106 tField106_0 tField106_1 tIs106 tSize107 tBytes107 tAgg107 tZero107 tPlaces107 tFlat107 tField107_0 tField107_1 tIs107 tSize108 tBytes108 tAgg108 tZero108 tPlaces108 tField108_0 tField108_1 tIs108 tSize109 tBytes109 tAgg109 tZero109 tPlaces109 tFlat109 tField109_0 tField109_1 tIs109
end Go.Proofs.Ytmkchaiijfhnfaa
