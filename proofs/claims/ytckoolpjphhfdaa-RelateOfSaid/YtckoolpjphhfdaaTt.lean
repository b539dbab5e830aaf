/- Facts on the types of the translation, each read off its table. No condition. -/
import Derived.Test.YtckoolpjphhfdaaTa
import Derived.Test.YtckoolpjphhfdaaChecked
import Derived.KernelRfl
namespace Go.Proofs.Ytckoolpjphhfdaa
open Go Go.Abs
theorem tSize2 : tSize Try.prog 2 = some 1 := by kernel_rfl
theorem tBytes2 : tBytes Try.prog 2 = some 8 := by kernel_rfl
theorem tAgg2 : tAgg Try.prog 2 = some false := by kernel_rfl
theorem tZero2 : tZero Try.prog 2 = some (Value.int IntKind.i64 0) := by kernel_rfl
theorem tInt2 : tInt Try.prog 2 = some IntKind.i64 := by kernel_rfl
theorem tIs2 : (Try.prog.underlying 2).isSome = true := by kernel_rfl
theorem tSize3 : tSize Try.prog 3 = some 1 := by kernel_rfl
theorem tBytes3 : tBytes Try.prog 3 = some 8 := by kernel_rfl
theorem tAgg3 : tAgg Try.prog 3 = some false := by kernel_rfl
theorem tZero3 : tZero Try.prog 3 = some (Value.int IntKind.i64 0) := by kernel_rfl
theorem tInt3 : tInt Try.prog 3 = some IntKind.i64 := by kernel_rfl
theorem tIs3 : (Try.prog.underlying 3).isSome = true := by kernel_rfl
theorem tSize4 : tSize Try.prog 4 = some 1 := by kernel_rfl
theorem tBytes4 : tBytes Try.prog 4 = some 1 := by kernel_rfl
theorem tAgg4 : tAgg Try.prog 4 = some false := by kernel_rfl
theorem tZero4 : tZero Try.prog 4 = some (Value.bool false) := by kernel_rfl
theorem tIs4 : (Try.prog.underlying 4).isSome = true := by kernel_rfl
theorem tSize5 : tSize Try.prog 5 = some 1 := by kernel_rfl
theorem tBytes5 : tBytes Try.prog 5 = some 1 := by kernel_rfl
theorem tAgg5 : tAgg Try.prog 5 = some false := by kernel_rfl
theorem tZero5 : tZero Try.prog 5 = some (Value.int IntKind.u8 0) := by kernel_rfl
theorem tInt5 : tInt Try.prog 5 = some IntKind.u8 := by kernel_rfl
theorem tIs5 : (Try.prog.underlying 5).isSome = true := by kernel_rfl
theorem tSize6 : tSize Try.prog 6 = some 1 := by kernel_rfl
theorem tBytes6 : tBytes Try.prog 6 = some 1 := by kernel_rfl
theorem tAgg6 : tAgg Try.prog 6 = some false := by kernel_rfl
theorem tZero6 : tZero Try.prog 6 = some (Value.int IntKind.u8 0) := by kernel_rfl
theorem tInt6 : tInt Try.prog 6 = some IntKind.u8 := by kernel_rfl
theorem tIs6 : (Try.prog.underlying 6).isSome = true := by kernel_rfl
theorem tSize7 : tSize Try.prog 7 = some 4 := by kernel_rfl
theorem tBytes7 : tBytes Try.prog 7 = some 24 := by kernel_rfl
theorem tAgg7 : tAgg Try.prog 7 = some true := by kernel_rfl
theorem tZero7 : tZero Try.prog 7 = some (Value.agg #[(Value.int IntKind.i64 0), (Value.int IntKind.i64 0), (Value.bool false), (Value.int IntKind.u8 0)]) := by kernel_rfl
theorem tPlaces7 : tPlaces Try.prog 7 = some [(0, 1), (1, 1), (2, 1), (3, 1)] := by kernel_rfl
theorem tField7_0 : tField Try.prog 7 0 = some (0, 2) := by kernel_rfl
theorem tField7_1 : tField Try.prog 7 1 = some (1, 3) := by kernel_rfl
theorem tField7_2 : tField Try.prog 7 2 = some (2, 4) := by kernel_rfl
theorem tField7_3 : tField Try.prog 7 3 = some (3, 6) := by kernel_rfl
theorem tIs7 : (Try.prog.underlying 7).isSome = true := by kernel_rfl
theorem tSize8 : tSize Try.prog 8 = some 4 := by kernel_rfl
theorem tBytes8 : tBytes Try.prog 8 = some 24 := by kernel_rfl
theorem tAgg8 : tAgg Try.prog 8 = some true := by kernel_rfl
theorem tZero8 : tZero Try.prog 8 = some (Value.agg #[(Value.int IntKind.i64 0), (Value.int IntKind.i64 0), (Value.bool false), (Value.int IntKind.u8 0)]) := by kernel_rfl
theorem tPlaces8 : tPlaces Try.prog 8 = some [(0, 1), (1, 1), (2, 1), (3, 1)] := by kernel_rfl
theorem tField8_0 : tField Try.prog 8 0 = some (0, 2) := by kernel_rfl
theorem tField8_1 : tField Try.prog 8 1 = some (1, 3) := by kernel_rfl
theorem tField8_2 : tField Try.prog 8 2 = some (2, 4) := by kernel_rfl
theorem tField8_3 : tField Try.prog 8 3 = some (3, 6) := by kernel_rfl
theorem tIs8 : (Try.prog.underlying 8).isSome = true := by kernel_rfl
theorem tSize9 : tSize Try.prog 9 = some 1 := by kernel_rfl
theorem tBytes9 : tBytes Try.prog 9 = some 16 := by kernel_rfl
theorem tAgg9 : tAgg Try.prog 9 = some false := by kernel_rfl
theorem tZero9 : tZero Try.prog 9 = some (Value.string ⟨#[]⟩) := by kernel_rfl
theorem tStr9 : tStr Try.prog 9 = true := by kernel_rfl
theorem tIs9 : (Try.prog.underlying 9).isSome = true := by kernel_rfl
theorem tSize10 : tSize Try.prog 10 = some 1 := by kernel_rfl
theorem tBytes10 : tBytes Try.prog 10 = some 16 := by kernel_rfl
theorem tAgg10 : tAgg Try.prog 10 = some false := by kernel_rfl
theorem tZero10 : tZero Try.prog 10 = some (Value.string ⟨#[]⟩) := by kernel_rfl
theorem tStr10 : tStr Try.prog 10 = true := by kernel_rfl
theorem tIs10 : (Try.prog.underlying 10).isSome = true := by kernel_rfl
theorem tSize11 : tSize Try.prog 11 = some 1 := by kernel_rfl
theorem tBytes11 : tBytes Try.prog 11 = some 16 := by kernel_rfl
theorem tAgg11 : tAgg Try.prog 11 = some false := by kernel_rfl
theorem tZero11 : tZero Try.prog 11 = some (Value.string ⟨#[]⟩) := by kernel_rfl
theorem tStr11 : tStr Try.prog 11 = true := by kernel_rfl
theorem tIs11 : (Try.prog.underlying 11).isSome = true := by kernel_rfl
theorem tSize12 : tSize Try.prog 12 = some 1 := by kernel_rfl
theorem tBytes12 : tBytes Try.prog 12 = some 8 := by kernel_rfl
theorem tAgg12 : tAgg Try.prog 12 = some false := by kernel_rfl
theorem tZero12 : tZero Try.prog 12 = some (Value.int IntKind.u64 0) := by kernel_rfl
theorem tInt12 : tInt Try.prog 12 = some IntKind.u64 := by kernel_rfl
theorem tIs12 : (Try.prog.underlying 12).isSome = true := by kernel_rfl
theorem tSize13 : tSize Try.prog 13 = some 2 := by kernel_rfl
theorem tBytes13 : tBytes Try.prog 13 = some 24 := by kernel_rfl
theorem tAgg13 : tAgg Try.prog 13 = some true := by kernel_rfl
theorem tZero13 : tZero Try.prog 13 = some (Value.agg #[(Value.string ⟨#[]⟩), (Value.int IntKind.u64 0)]) := by kernel_rfl
theorem tPlaces13 : tPlaces Try.prog 13 = some [(0, 1), (1, 1)] := by kernel_rfl
theorem tField13_0 : tField Try.prog 13 0 = some (0, 9) := by kernel_rfl
theorem tField13_1 : tField Try.prog 13 1 = some (1, 12) := by kernel_rfl
theorem tIs13 : (Try.prog.underlying 13).isSome = true := by kernel_rfl
theorem tSize14 : tSize Try.prog 14 = some 2 := by kernel_rfl
theorem tBytes14 : tBytes Try.prog 14 = some 24 := by kernel_rfl
theorem tAgg14 : tAgg Try.prog 14 = some true := by kernel_rfl
theorem tZero14 : tZero Try.prog 14 = some (Value.agg #[(Value.string ⟨#[]⟩), (Value.int IntKind.u64 0)]) := by kernel_rfl
theorem tPlaces14 : tPlaces Try.prog 14 = some [(0, 1), (1, 1)] := by kernel_rfl
theorem tField14_0 : tField Try.prog 14 0 = some (0, 9) := by kernel_rfl
theorem tField14_1 : tField Try.prog 14 1 = some (1, 12) := by kernel_rfl
theorem tIs14 : (Try.prog.underlying 14).isSome = true := by kernel_rfl
theorem tSize15 : tSize Try.prog 15 = some 1 := by kernel_rfl
theorem tBytes15 : tBytes Try.prog 15 = some 8 := by kernel_rfl
theorem tAgg15 : tAgg Try.prog 15 = some false := by kernel_rfl
theorem tZero15 : tZero Try.prog 15 = some (Value.pointer none) := by kernel_rfl
theorem tIs15 : (Try.prog.underlying 15).isSome = true := by kernel_rfl
theorem tSize16 : tSize Try.prog 16 = some 1 := by kernel_rfl
theorem tBytes16 : tBytes Try.prog 16 = some 8 := by kernel_rfl
theorem tAgg16 : tAgg Try.prog 16 = some false := by kernel_rfl
theorem tZero16 : tZero Try.prog 16 = some (Value.pointer none) := by kernel_rfl
theorem tIs16 : (Try.prog.underlying 16).isSome = true := by kernel_rfl
theorem tSize17 : tSize Try.prog 17 = some 1 := by kernel_rfl
theorem tBytes17 : tBytes Try.prog 17 = some 8 := by kernel_rfl
theorem tAgg17 : tAgg Try.prog 17 = some false := by kernel_rfl
theorem tZero17 : tZero Try.prog 17 = some (Value.pointer none) := by kernel_rfl
theorem tIs17 : (Try.prog.underlying 17).isSome = true := by kernel_rfl
theorem tSize18 : tSize Try.prog 18 = some 1 := by kernel_rfl
theorem tBytes18 : tBytes Try.prog 18 = some 8 := by kernel_rfl
theorem tAgg18 : tAgg Try.prog 18 = some true := by kernel_rfl
theorem tZero18 : tZero Try.prog 18 = some (Value.agg #[(Value.pointer none)]) := by kernel_rfl
theorem tPlaces18 : tPlaces Try.prog 18 = some [(0, 1)] := by kernel_rfl
theorem tField18_0 : tField Try.prog 18 0 = some (0, 17) := by kernel_rfl
theorem tIs18 : (Try.prog.underlying 18).isSome = true := by kernel_rfl
theorem tSize19 : tSize Try.prog 19 = some 1 := by kernel_rfl
theorem tBytes19 : tBytes Try.prog 19 = some 8 := by kernel_rfl
theorem tAgg19 : tAgg Try.prog 19 = some true := by kernel_rfl
theorem tZero19 : tZero Try.prog 19 = some (Value.agg #[(Value.pointer none)]) := by kernel_rfl
theorem tPlaces19 : tPlaces Try.prog 19 = some [(0, 1)] := by kernel_rfl
theorem tField19_0 : tField Try.prog 19 0 = some (0, 17) := by kernel_rfl
theorem tIs19 : (Try.prog.underlying 19).isSome = true := by kernel_rfl
theorem tSize21 : tSize Try.prog 21 = some 1 := by kernel_rfl
theorem tBytes21 : tBytes Try.prog 21 = some 4 := by kernel_rfl
theorem tAgg21 : tAgg Try.prog 21 = some false := by kernel_rfl
theorem tZero21 : tZero Try.prog 21 = some (Value.int IntKind.i32 0) := by kernel_rfl
theorem tInt21 : tInt Try.prog 21 = some IntKind.i32 := by kernel_rfl
theorem tIs21 : (Try.prog.underlying 21).isSome = true := by kernel_rfl
theorem tSize22 : tSize Try.prog 22 = some 1 := by kernel_rfl
theorem tBytes22 : tBytes Try.prog 22 = some 8 := by kernel_rfl
theorem tAgg22 : tAgg Try.prog 22 = some false := by kernel_rfl
theorem tZero22 : tZero Try.prog 22 = some (Value.int IntKind.i64 0) := by kernel_rfl
theorem tInt22 : tInt Try.prog 22 = some IntKind.i64 := by kernel_rfl
theorem tIs22 : (Try.prog.underlying 22).isSome = true := by kernel_rfl
theorem tSize23 : tSize Try.prog 23 = some 1 := by kernel_rfl
theorem tBytes23 : tBytes Try.prog 23 = some 24 := by kernel_rfl
theorem tAgg23 : tAgg Try.prog 23 = some false := by kernel_rfl
theorem tZero23 : tZero Try.prog 23 = some (Value.slice none 0 0) := by kernel_rfl
theorem tElem23 : tElem Try.prog 23 = some 3 := by kernel_rfl
theorem tIs23 : (Try.prog.underlying 23).isSome = true := by kernel_rfl
theorem tSize24 : tSize Try.prog 24 = some 1 := by kernel_rfl
theorem tBytes24 : tBytes Try.prog 24 = some 24 := by kernel_rfl
theorem tAgg24 : tAgg Try.prog 24 = some false := by kernel_rfl
theorem tZero24 : tZero Try.prog 24 = some (Value.slice none 0 0) := by kernel_rfl
theorem tElem24 : tElem Try.prog 24 = some 9 := by kernel_rfl
theorem tIs24 : (Try.prog.underlying 24).isSome = true := by kernel_rfl
theorem tSize25 : tSize Try.prog 25 = some 1 := by kernel_rfl
theorem tBytes25 : tBytes Try.prog 25 = some 24 := by kernel_rfl
theorem tAgg25 : tAgg Try.prog 25 = some false := by kernel_rfl
theorem tZero25 : tZero Try.prog 25 = some (Value.slice none 0 0) := by kernel_rfl
theorem tElem25 : tElem Try.prog 25 = some 134 := by kernel_rfl
theorem tIs25 : (Try.prog.underlying 25).isSome = true := by kernel_rfl
theorem tSize26 : tSize Try.prog 26 = some 1 := by kernel_rfl
theorem tBytes26 : tBytes Try.prog 26 = some 24 := by kernel_rfl
theorem tAgg26 : tAgg Try.prog 26 = some false := by kernel_rfl
theorem tZero26 : tZero Try.prog 26 = some (Value.slice none 0 0) := by kernel_rfl
theorem tElem26 : tElem Try.prog 26 = some 136 := by kernel_rfl
theorem tIs26 : (Try.prog.underlying 26).isSome = true := by kernel_rfl
theorem tSize27 : tSize Try.prog 27 = some 9 := by kernel_rfl
theorem tBytes27 : tBytes Try.prog 27 = some 104 := by kernel_rfl
theorem tAgg27 : tAgg Try.prog 27 = some true := by kernel_rfl
theorem tZero27 : tZero Try.prog 27 = some (Value.agg #[(Value.slice none 0 0), (Value.slice none 0 0), (Value.int IntKind.i64 0), (Value.int IntKind.i64 0), (Value.int IntKind.i64 0), (Value.int IntKind.i64 0), (Value.int IntKind.i64 0), (Value.int IntKind.i64 0), (Value.int IntKind.i64 0)]) := by kernel_rfl
theorem tPlaces27 : tPlaces Try.prog 27 = some [(0, 1), (1, 1), (2, 1), (3, 1), (4, 1), (5, 1), (6, 1), (7, 1), (8, 1)] := by kernel_rfl
theorem tField27_0 : tField Try.prog 27 0 = some (0, 25) := by kernel_rfl
theorem tField27_1 : tField Try.prog 27 1 = some (1, 26) := by kernel_rfl
theorem tField27_2 : tField Try.prog 27 2 = some (2, 3) := by kernel_rfl
theorem tField27_3 : tField Try.prog 27 3 = some (3, 3) := by kernel_rfl
theorem tField27_4 : tField Try.prog 27 4 = some (4, 3) := by kernel_rfl
theorem tField27_5 : tField Try.prog 27 5 = some (5, 3) := by kernel_rfl
theorem tField27_6 : tField Try.prog 27 6 = some (6, 3) := by kernel_rfl
theorem tField27_7 : tField Try.prog 27 7 = some (7, 3) := by kernel_rfl
theorem tField27_8 : tField Try.prog 27 8 = some (8, 3) := by kernel_rfl
theorem tIs27 : (Try.prog.underlying 27).isSome = true := by kernel_rfl
theorem tSize28 : tSize Try.prog 28 = some 9 := by kernel_rfl
theorem tBytes28 : tBytes Try.prog 28 = some 104 := by kernel_rfl
theorem tAgg28 : tAgg Try.prog 28 = some true := by kernel_rfl
theorem tZero28 : tZero Try.prog 28 = some (Value.agg #[(Value.slice none 0 0), (Value.slice none 0 0), (Value.int IntKind.i64 0), (Value.int IntKind.i64 0), (Value.int IntKind.i64 0), (Value.int IntKind.i64 0), (Value.int IntKind.i64 0), (Value.int IntKind.i64 0), (Value.int IntKind.i64 0)]) := by kernel_rfl
theorem tPlaces28 : tPlaces Try.prog 28 = some [(0, 1), (1, 1), (2, 1), (3, 1), (4, 1), (5, 1), (6, 1), (7, 1), (8, 1)] := by kernel_rfl
theorem tField28_0 : tField Try.prog 28 0 = some (0, 25) := by kernel_rfl
theorem tField28_1 : tField Try.prog 28 1 = some (1, 26) := by kernel_rfl
theorem tField28_2 : tField Try.prog 28 2 = some (2, 3) := by kernel_rfl
theorem tField28_3 : tField Try.prog 28 3 = some (3, 3) := by kernel_rfl
theorem tField28_4 : tField Try.prog 28 4 = some (4, 3) := by kernel_rfl
theorem tField28_5 : tField Try.prog 28 5 = some (5, 3) := by kernel_rfl
theorem tField28_6 : tField Try.prog 28 6 = some (6, 3) := by kernel_rfl
theorem tField28_7 : tField Try.prog 28 7 = some (7, 3) := by kernel_rfl
theorem tField28_8 : tField Try.prog 28 8 = some (8, 3) := by kernel_rfl
theorem tIs28 : (Try.prog.underlying 28).isSome = true := by kernel_rfl
theorem tSize29 : tSize Try.prog 29 = some 16 := by kernel_rfl
theorem tBytes29 : tBytes Try.prog 29 = some 208 := by kernel_rfl
theorem tAgg29 : tAgg Try.prog 29 = some true := by kernel_rfl
theorem tZero29 : tZero Try.prog 29 = some (Value.agg #[(Value.string ⟨#[]⟩), (Value.int IntKind.i64 0), (Value.int IntKind.i64 0), (Value.bool false), (Value.string ⟨#[]⟩), (Value.slice none 0 0), (Value.slice none 0 0), (Value.slice none 0 0), (Value.slice none 0 0), (Value.int IntKind.i64 0), (Value.int IntKind.i64 0), (Value.int IntKind.i64 0), (Value.int IntKind.i64 0), (Value.int IntKind.i64 0), (Value.int IntKind.i64 0), (Value.int IntKind.i64 0)]) := by kernel_rfl
theorem tPlaces29 : tPlaces Try.prog 29 = some [(0, 1), (1, 1), (2, 1), (3, 1), (4, 1), (5, 1), (6, 1), (7, 9)] := by kernel_rfl
theorem tField29_0 : tField Try.prog 29 0 = some (0, 9) := by kernel_rfl
theorem tField29_1 : tField Try.prog 29 1 = some (1, 3) := by kernel_rfl
theorem tField29_2 : tField Try.prog 29 2 = some (2, 3) := by kernel_rfl
theorem tField29_3 : tField Try.prog 29 3 = some (3, 4) := by kernel_rfl
theorem tField29_4 : tField Try.prog 29 4 = some (4, 9) := by kernel_rfl
theorem tField29_5 : tField Try.prog 29 5 = some (5, 24) := by kernel_rfl
theorem tField29_6 : tField Try.prog 29 6 = some (6, 24) := by kernel_rfl
theorem tField29_7 : tField Try.prog 29 7 = some (7, 28) := by kernel_rfl
theorem tIs29 : (Try.prog.underlying 29).isSome = true := by kernel_rfl
theorem tSize30 : tSize Try.prog 30 = some 16 := by kernel_rfl
theorem tBytes30 : tBytes Try.prog 30 = some 208 := by kernel_rfl
theorem tAgg30 : tAgg Try.prog 30 = some true := by kernel_rfl
theorem tZero30 : tZero Try.prog 30 = some (Value.agg #[(Value.string ⟨#[]⟩), (Value.int IntKind.i64 0), (Value.int IntKind.i64 0), (Value.bool false), (Value.string ⟨#[]⟩), (Value.slice none 0 0), (Value.slice none 0 0), (Value.slice none 0 0), (Value.slice none 0 0), (Value.int IntKind.i64 0), (Value.int IntKind.i64 0), (Value.int IntKind.i64 0), (Value.int IntKind.i64 0), (Value.int IntKind.i64 0), (Value.int IntKind.i64 0), (Value.int IntKind.i64 0)]) := by kernel_rfl
theorem tPlaces30 : tPlaces Try.prog 30 = some [(0, 1), (1, 1), (2, 1), (3, 1), (4, 1), (5, 1), (6, 1), (7, 9)] := by kernel_rfl
theorem tField30_0 : tField Try.prog 30 0 = some (0, 9) := by kernel_rfl
theorem tField30_1 : tField Try.prog 30 1 = some (1, 3) := by kernel_rfl
theorem tField30_2 : tField Try.prog 30 2 = some (2, 3) := by kernel_rfl
theorem tField30_3 : tField Try.prog 30 3 = some (3, 4) := by kernel_rfl
theorem tField30_4 : tField Try.prog 30 4 = some (4, 9) := by kernel_rfl
theorem tField30_5 : tField Try.prog 30 5 = some (5, 24) := by kernel_rfl
theorem tField30_6 : tField Try.prog 30 6 = some (6, 24) := by kernel_rfl
theorem tField30_7 : tField Try.prog 30 7 = some (7, 28) := by kernel_rfl
theorem tIs30 : (Try.prog.underlying 30).isSome = true := by kernel_rfl
theorem tSize31 : tSize Try.prog 31 = some 2 := by kernel_rfl
theorem tBytes31 : tBytes Try.prog 31 = some 24 := by kernel_rfl
theorem tAgg31 : tAgg Try.prog 31 = some true := by kernel_rfl
theorem tZero31 : tZero Try.prog 31 = some (Value.agg #[(Value.string ⟨#[]⟩), (Value.int IntKind.i64 0)]) := by kernel_rfl
theorem tPlaces31 : tPlaces Try.prog 31 = some [(0, 1), (1, 1)] := by kernel_rfl
theorem tField31_0 : tField Try.prog 31 0 = some (0, 9) := by kernel_rfl
theorem tField31_1 : tField Try.prog 31 1 = some (1, 3) := by kernel_rfl
theorem tIs31 : (Try.prog.underlying 31).isSome = true := by kernel_rfl
theorem tSize32 : tSize Try.prog 32 = some 2 := by kernel_rfl
theorem tBytes32 : tBytes Try.prog 32 = some 24 := by kernel_rfl
theorem tAgg32 : tAgg Try.prog 32 = some true := by kernel_rfl
theorem tZero32 : tZero Try.prog 32 = some (Value.agg #[(Value.string ⟨#[]⟩), (Value.int IntKind.i64 0)]) := by kernel_rfl
theorem tPlaces32 : tPlaces Try.prog 32 = some [(0, 1), (1, 1)] := by kernel_rfl
theorem tFlat32 : tFlat Try.prog 32 = some [1, 0] := by kernel_rfl
theorem tField32_0 : tField Try.prog 32 0 = some (0, 9) := by kernel_rfl
theorem tField32_1 : tField Try.prog 32 1 = some (1, 3) := by kernel_rfl
theorem tIs32 : (Try.prog.underlying 32).isSome = true := by kernel_rfl
theorem tSize33 : tSize Try.prog 33 = some 29 := by kernel_rfl
theorem tBytes33 : tBytes Try.prog 33 = some 376 := by kernel_rfl
theorem tAgg33 : tAgg Try.prog 33 = some true := by kernel_rfl
theorem tZero33 : tZero Try.prog 33 = some (Value.agg #[(Value.int IntKind.i64 0), (Value.string ⟨#[]⟩), (Value.string ⟨#[]⟩), (Value.int IntKind.i64 0), (Value.bool false), (Value.string ⟨#[]⟩), (Value.int IntKind.i64 0), (Value.int IntKind.i64 0), (Value.slice none 0 0), (Value.slice none 0 0), (Value.string ⟨#[]⟩), (Value.int IntKind.i64 0), (Value.int IntKind.i64 0), (Value.bool false), (Value.string ⟨#[]⟩), (Value.slice none 0 0), (Value.slice none 0 0), (Value.slice none 0 0), (Value.slice none 0 0), (Value.int IntKind.i64 0), (Value.int IntKind.i64 0), (Value.int IntKind.i64 0), (Value.int IntKind.i64 0), (Value.int IntKind.i64 0), (Value.int IntKind.i64 0), (Value.int IntKind.i64 0), (Value.int IntKind.i64 0), (Value.string ⟨#[]⟩), (Value.int IntKind.i64 0)]) := by kernel_rfl
theorem tPlaces33 : tPlaces Try.prog 33 = some [(0, 1), (1, 1), (2, 1), (3, 1), (4, 1), (5, 1), (6, 1), (7, 1), (8, 1), (9, 1), (10, 16), (26, 1), (27, 2)] := by kernel_rfl
theorem tField33_0 : tField Try.prog 33 0 = some (0, 3) := by kernel_rfl
theorem tField33_1 : tField Try.prog 33 1 = some (1, 9) := by kernel_rfl
theorem tField33_2 : tField Try.prog 33 2 = some (2, 9) := by kernel_rfl
theorem tField33_3 : tField Try.prog 33 3 = some (3, 22) := by kernel_rfl
theorem tField33_4 : tField Try.prog 33 4 = some (4, 4) := by kernel_rfl
theorem tField33_5 : tField Try.prog 33 5 = some (5, 9) := by kernel_rfl
theorem tField33_6 : tField Try.prog 33 6 = some (6, 3) := by kernel_rfl
theorem tField33_7 : tField Try.prog 33 7 = some (7, 3) := by kernel_rfl
theorem tField33_8 : tField Try.prog 33 8 = some (8, 23) := by kernel_rfl
theorem tField33_9 : tField Try.prog 33 9 = some (9, 23) := by kernel_rfl
theorem tField33_10 : tField Try.prog 33 10 = some (10, 30) := by kernel_rfl
theorem tField33_11 : tField Try.prog 33 11 = some (26, 3) := by kernel_rfl
theorem tField33_12 : tField Try.prog 33 12 = some (27, 32) := by kernel_rfl
theorem tIs33 : (Try.prog.underlying 33).isSome = true := by kernel_rfl
theorem tSize34 : tSize Try.prog 34 = some 29 := by kernel_rfl
theorem tBytes34 : tBytes Try.prog 34 = some 376 := by kernel_rfl
theorem tAgg34 : tAgg Try.prog 34 = some true := by kernel_rfl
theorem tZero34 : tZero Try.prog 34 = some (Value.agg #[(Value.int IntKind.i64 0), (Value.string ⟨#[]⟩), (Value.string ⟨#[]⟩), (Value.int IntKind.i64 0), (Value.bool false), (Value.string ⟨#[]⟩), (Value.int IntKind.i64 0), (Value.int IntKind.i64 0), (Value.slice none 0 0), (Value.slice none 0 0), (Value.string ⟨#[]⟩), (Value.int IntKind.i64 0), (Value.int IntKind.i64 0), (Value.bool false), (Value.string ⟨#[]⟩), (Value.slice none 0 0), (Value.slice none 0 0), (Value.slice none 0 0), (Value.slice none 0 0), (Value.int IntKind.i64 0), (Value.int IntKind.i64 0), (Value.int IntKind.i64 0), (Value.int IntKind.i64 0), (Value.int IntKind.i64 0), (Value.int IntKind.i64 0), (Value.int IntKind.i64 0), (Value.int IntKind.i64 0), (Value.string ⟨#[]⟩), (Value.int IntKind.i64 0)]) := by kernel_rfl
theorem tPlaces34 : tPlaces Try.prog 34 = some [(0, 1), (1, 1), (2, 1), (3, 1), (4, 1), (5, 1), (6, 1), (7, 1), (8, 1), (9, 1), (10, 16), (26, 1), (27, 2)] := by kernel_rfl
theorem tField34_0 : tField Try.prog 34 0 = some (0, 3) := by kernel_rfl
theorem tField34_1 : tField Try.prog 34 1 = some (1, 9) := by kernel_rfl
theorem tField34_2 : tField Try.prog 34 2 = some (2, 9) := by kernel_rfl
theorem tField34_3 : tField Try.prog 34 3 = some (3, 22) := by kernel_rfl
theorem tField34_4 : tField Try.prog 34 4 = some (4, 4) := by kernel_rfl
theorem tField34_5 : tField Try.prog 34 5 = some (5, 9) := by kernel_rfl
theorem tField34_6 : tField Try.prog 34 6 = some (6, 3) := by kernel_rfl
theorem tField34_7 : tField Try.prog 34 7 = some (7, 3) := by kernel_rfl
theorem tField34_8 : tField Try.prog 34 8 = some (8, 23) := by kernel_rfl
theorem tField34_9 : tField Try.prog 34 9 = some (9, 23) := by kernel_rfl
theorem tField34_10 : tField Try.prog 34 10 = some (10, 30) := by kernel_rfl
theorem tField34_11 : tField Try.prog 34 11 = some (26, 3) := by kernel_rfl
theorem tField34_12 : tField Try.prog 34 12 = some (27, 32) := by kernel_rfl
theorem tIs34 : (Try.prog.underlying 34).isSome = true := by kernel_rfl
theorem tSize35 : tSize Try.prog 35 = some 1 := by kernel_rfl
theorem tBytes35 : tBytes Try.prog 35 = some 8 := by kernel_rfl
theorem tAgg35 : tAgg Try.prog 35 = some false := by kernel_rfl
theorem tZero35 : tZero Try.prog 35 = some (Value.int IntKind.i64 0) := by kernel_rfl
theorem tInt35 : tInt Try.prog 35 = some IntKind.i64 := by kernel_rfl
theorem tIs35 : (Try.prog.underlying 35).isSome = true := by kernel_rfl
theorem tSize40 : tSize Try.prog 40 = some 1 := by kernel_rfl
theorem tBytes40 : tBytes Try.prog 40 = some 24 := by kernel_rfl
theorem tAgg40 : tAgg Try.prog 40 = some false := by kernel_rfl
theorem tZero40 : tZero Try.prog 40 = some (Value.slice none 0 0) := by kernel_rfl
theorem tElem40 : tElem Try.prog 40 = some 34 := by kernel_rfl
theorem tIs40 : (Try.prog.underlying 40).isSome = true := by kernel_rfl
theorem tSize43 : tSize Try.prog 43 = some 1 := by kernel_rfl
theorem tBytes43 : tBytes Try.prog 43 = some 24 := by kernel_rfl
theorem tAgg43 : tAgg Try.prog 43 = some false := by kernel_rfl
theorem tZero43 : tZero Try.prog 43 = some (Value.slice none 0 0) := by kernel_rfl
theorem tElem43 : tElem Try.prog 43 = some 58 := by kernel_rfl
theorem tIs43 : (Try.prog.underlying 43).isSome = true := by kernel_rfl
theorem tSize44 : tSize Try.prog 44 = some 4 := by kernel_rfl
theorem tBytes44 : tBytes Try.prog 44 = some 48 := by kernel_rfl
theorem tAgg44 : tAgg Try.prog 44 = some true := by kernel_rfl
theorem tZero44 : tZero Try.prog 44 = some (Value.agg #[(Value.int IntKind.i64 0), (Value.slice none 0 0), (Value.int IntKind.i64 0), (Value.int IntKind.i64 0)]) := by kernel_rfl
theorem tPlaces44 : tPlaces Try.prog 44 = some [(0, 1), (1, 1), (2, 1), (3, 1)] := by kernel_rfl
theorem tField44_0 : tField Try.prog 44 0 = some (0, 3) := by kernel_rfl
theorem tField44_1 : tField Try.prog 44 1 = some (1, 43) := by kernel_rfl
theorem tField44_2 : tField Try.prog 44 2 = some (2, 3) := by kernel_rfl
theorem tField44_3 : tField Try.prog 44 3 = some (3, 3) := by kernel_rfl
theorem tIs44 : (Try.prog.underlying 44).isSome = true := by kernel_rfl
theorem tSize45 : tSize Try.prog 45 = some 4 := by kernel_rfl
theorem tBytes45 : tBytes Try.prog 45 = some 48 := by kernel_rfl
theorem tAgg45 : tAgg Try.prog 45 = some true := by kernel_rfl
theorem tZero45 : tZero Try.prog 45 = some (Value.agg #[(Value.int IntKind.i64 0), (Value.slice none 0 0), (Value.int IntKind.i64 0), (Value.int IntKind.i64 0)]) := by kernel_rfl
theorem tPlaces45 : tPlaces Try.prog 45 = some [(0, 1), (1, 1), (2, 1), (3, 1)] := by kernel_rfl
theorem tField45_0 : tField Try.prog 45 0 = some (0, 3) := by kernel_rfl
theorem tField45_1 : tField Try.prog 45 1 = some (1, 43) := by kernel_rfl
theorem tField45_2 : tField Try.prog 45 2 = some (2, 3) := by kernel_rfl
theorem tField45_3 : tField Try.prog 45 3 = some (3, 3) := by kernel_rfl
theorem tIs45 : (Try.prog.underlying 45).isSome = true := by kernel_rfl
theorem tSize48 : tSize Try.prog 48 = some 1 := by kernel_rfl
theorem tBytes48 : tBytes Try.prog 48 = some 8 := by kernel_rfl
theorem tAgg48 : tAgg Try.prog 48 = some false := by kernel_rfl
theorem tZero48 : tZero Try.prog 48 = some (Value.int IntKind.i64 0) := by kernel_rfl
theorem tInt48 : tInt Try.prog 48 = some IntKind.i64 := by kernel_rfl
theorem tIs48 : (Try.prog.underlying 48).isSome = true := by kernel_rfl
theorem tSize57 : tSize Try.prog 57 = some 2 := by kernel_rfl
theorem tBytes57 : tBytes Try.prog 57 = some 24 := by kernel_rfl
theorem tAgg57 : tAgg Try.prog 57 = some true := by kernel_rfl
theorem tZero57 : tZero Try.prog 57 = some (Value.agg #[(Value.string ⟨#[]⟩), (Value.int IntKind.i64 0)]) := by kernel_rfl
theorem tPlaces57 : tPlaces Try.prog 57 = some [(0, 1), (1, 1)] := by kernel_rfl
theorem tField57_0 : tField Try.prog 57 0 = some (0, 9) := by kernel_rfl
theorem tField57_1 : tField Try.prog 57 1 = some (1, 3) := by kernel_rfl
theorem tIs57 : (Try.prog.underlying 57).isSome = true := by kernel_rfl
theorem tSize58 : tSize Try.prog 58 = some 2 := by kernel_rfl
theorem tBytes58 : tBytes Try.prog 58 = some 24 := by kernel_rfl
theorem tAgg58 : tAgg Try.prog 58 = some true := by kernel_rfl
theorem tZero58 : tZero Try.prog 58 = some (Value.agg #[(Value.string ⟨#[]⟩), (Value.int IntKind.i64 0)]) := by kernel_rfl
theorem tPlaces58 : tPlaces Try.prog 58 = some [(0, 1), (1, 1)] := by kernel_rfl
theorem tFlat58 : tFlat Try.prog 58 = some [1, 0] := by kernel_rfl
theorem tField58_0 : tField Try.prog 58 0 = some (0, 9) := by kernel_rfl
theorem tField58_1 : tField Try.prog 58 1 = some (1, 3) := by kernel_rfl
theorem tIs58 : (Try.prog.underlying 58).isSome = true := by kernel_rfl
theorem tSize59 : tSize Try.prog 59 = some 2 := by kernel_rfl
theorem tBytes59 : tBytes Try.prog 59 = some 16 := by kernel_rfl
theorem tAgg59 : tAgg Try.prog 59 = some true := by kernel_rfl
theorem tZero59 : tZero Try.prog 59 = some (Value.agg #[(Value.int IntKind.i64 0), (Value.int IntKind.i64 0)]) := by kernel_rfl
theorem tPlaces59 : tPlaces Try.prog 59 = some [(0, 1), (1, 1)] := by kernel_rfl
theorem tField59_0 : tField Try.prog 59 0 = some (0, 35) := by kernel_rfl
theorem tField59_1 : tField Try.prog 59 1 = some (1, 3) := by kernel_rfl
theorem tIs59 : (Try.prog.underlying 59).isSome = true := by kernel_rfl
theorem tSize60 : tSize Try.prog 60 = some 2 := by kernel_rfl
theorem tBytes60 : tBytes Try.prog 60 = some 16 := by kernel_rfl
theorem tAgg60 : tAgg Try.prog 60 = some true := by kernel_rfl
theorem tZero60 : tZero Try.prog 60 = some (Value.agg #[(Value.int IntKind.i64 0), (Value.int IntKind.i64 0)]) := by kernel_rfl
theorem tPlaces60 : tPlaces Try.prog 60 = some [(0, 1), (1, 1)] := by kernel_rfl
theorem tFlat60 : tFlat Try.prog 60 = some [0, 0] := by kernel_rfl
theorem tField60_0 : tField Try.prog 60 0 = some (0, 35) := by kernel_rfl
theorem tField60_1 : tField Try.prog 60 1 = some (1, 3) := by kernel_rfl
theorem tIs60 : (Try.prog.underlying 60).isSome = true := by kernel_rfl
theorem tSize72 : tSize Try.prog 72 = some 1 := by kernel_rfl
theorem tBytes72 : tBytes Try.prog 72 = some 8 := by kernel_rfl
theorem tAgg72 : tAgg Try.prog 72 = some false := by kernel_rfl
theorem tZero72 : tZero Try.prog 72 = some (Value.map none) := by kernel_rfl
theorem tMap72 : tMap Try.prog 72 = some (3, 4) := by kernel_rfl
theorem tIs72 : (Try.prog.underlying 72).isSome = true := by kernel_rfl
theorem tSize74 : tSize Try.prog 74 = some 1 := by kernel_rfl
theorem tBytes74 : tBytes Try.prog 74 = some 8 := by kernel_rfl
theorem tAgg74 : tAgg Try.prog 74 = some false := by kernel_rfl
theorem tZero74 : tZero Try.prog 74 = some (Value.map none) := by kernel_rfl
theorem tMap74 : tMap Try.prog 74 = some (77, 4) := by kernel_rfl
theorem tIs74 : (Try.prog.underlying 74).isSome = true := by kernel_rfl
theorem tSize75 : tSize Try.prog 75 = some 1 := by kernel_rfl
theorem tBytes75 : tBytes Try.prog 75 = some 8 := by kernel_rfl
theorem tAgg75 : tAgg Try.prog 75 = some false := by kernel_rfl
theorem tZero75 : tZero Try.prog 75 = some (Value.map none) := by kernel_rfl
theorem tMap75 : tMap Try.prog 75 = some (9, 3) := by kernel_rfl
theorem tIs75 : (Try.prog.underlying 75).isSome = true := by kernel_rfl
theorem tSize76 : tSize Try.prog 76 = some 2 := by kernel_rfl
theorem tBytes76 : tBytes Try.prog 76 = some 32 := by kernel_rfl
theorem tAgg76 : tAgg Try.prog 76 = some true := by kernel_rfl
theorem tZero76 : tZero Try.prog 76 = some (Value.agg #[(Value.string ⟨#[]⟩), (Value.string ⟨#[]⟩)]) := by kernel_rfl
theorem tPlaces76 : tPlaces Try.prog 76 = some [(0, 1), (1, 1)] := by kernel_rfl
theorem tField76_0 : tField Try.prog 76 0 = some (0, 9) := by kernel_rfl
theorem tField76_1 : tField Try.prog 76 1 = some (1, 9) := by kernel_rfl
theorem tIs76 : (Try.prog.underlying 76).isSome = true := by kernel_rfl
theorem tSize77 : tSize Try.prog 77 = some 2 := by kernel_rfl
theorem tBytes77 : tBytes Try.prog 77 = some 32 := by kernel_rfl
theorem tAgg77 : tAgg Try.prog 77 = some true := by kernel_rfl
theorem tZero77 : tZero Try.prog 77 = some (Value.agg #[(Value.string ⟨#[]⟩), (Value.string ⟨#[]⟩)]) := by kernel_rfl
theorem tPlaces77 : tPlaces Try.prog 77 = some [(0, 1), (1, 1)] := by kernel_rfl
theorem tFlat77 : tFlat Try.prog 77 = some [1, 1] := by kernel_rfl
theorem tField77_0 : tField Try.prog 77 0 = some (0, 9) := by kernel_rfl
theorem tField77_1 : tField Try.prog 77 1 = some (1, 9) := by kernel_rfl
theorem tIs77 : (Try.prog.underlying 77).isSome = true := by kernel_rfl
theorem tSize85 : tSize Try.prog 85 = some 1 := by kernel_rfl
theorem tBytes85 : tBytes Try.prog 85 = some 8 := by kernel_rfl
theorem tAgg85 : tAgg Try.prog 85 = some false := by kernel_rfl
theorem tZero85 : tZero Try.prog 85 = some (Value.int IntKind.u64 0) := by kernel_rfl
theorem tInt85 : tInt Try.prog 85 = some IntKind.u64 := by kernel_rfl
theorem tIs85 : (Try.prog.underlying 85).isSome = true := by kernel_rfl
theorem tSize88 : tSize Try.prog 88 = some 1 := by kernel_rfl
theorem tBytes88 : tBytes Try.prog 88 = some 8 := by kernel_rfl
theorem tAgg88 : tAgg Try.prog 88 = some false := by kernel_rfl
theorem tZero88 : tZero Try.prog 88 = some (Value.int IntKind.i64 0) := by kernel_rfl
theorem tInt88 : tInt Try.prog 88 = some IntKind.i64 := by kernel_rfl
theorem tIs88 : (Try.prog.underlying 88).isSome = true := by kernel_rfl
theorem tSize96 : tSize Try.prog 96 = some 1 := by kernel_rfl
theorem tBytes96 : tBytes Try.prog 96 = some 4 := by kernel_rfl
theorem tAgg96 : tAgg Try.prog 96 = some false := by kernel_rfl
theorem tZero96 : tZero Try.prog 96 = some (Value.int IntKind.u32 0) := by kernel_rfl
theorem tInt96 : tInt Try.prog 96 = some IntKind.u32 := by kernel_rfl
theorem tIs96 : (Try.prog.underlying 96).isSome = true := by kernel_rfl
theorem tSize98 : tSize Try.prog 98 = some 1 := by kernel_rfl
theorem tBytes98 : tBytes Try.prog 98 = some 8 := by kernel_rfl
theorem tAgg98 : tAgg Try.prog 98 = some false := by kernel_rfl
theorem tZero98 : tZero Try.prog 98 = some (Value.int IntKind.u64 0) := by kernel_rfl
theorem tInt98 : tInt Try.prog 98 = some IntKind.u64 := by kernel_rfl
theorem tIs98 : (Try.prog.underlying 98).isSome = true := by kernel_rfl
theorem tSize105 : tSize Try.prog 105 = some 1 := by kernel_rfl
theorem tBytes105 : tBytes Try.prog 105 = some 8 := by kernel_rfl
theorem tAgg105 : tAgg Try.prog 105 = some false := by kernel_rfl
theorem tZero105 : tZero Try.prog 105 = some (Value.int IntKind.u64 0) := by kernel_rfl
theorem tInt105 : tInt Try.prog 105 = some IntKind.u64 := by kernel_rfl
theorem tIs105 : (Try.prog.underlying 105).isSome = true := by kernel_rfl
theorem tSize109 : tSize Try.prog 109 = some 1 := by kernel_rfl
theorem tBytes109 : tBytes Try.prog 109 = some 8 := by kernel_rfl
theorem tAgg109 : tAgg Try.prog 109 = some false := by kernel_rfl
theorem tZero109 : tZero Try.prog 109 = some (Value.pointer none) := by kernel_rfl
theorem tIs109 : (Try.prog.underlying 109).isSome = true := by kernel_rfl
theorem tSize114 : tSize Try.prog 114 = some 1 := by kernel_rfl
theorem tBytes114 : tBytes Try.prog 114 = some 8 := by kernel_rfl
theorem tAgg114 : tAgg Try.prog 114 = some false := by kernel_rfl
theorem tZero114 : tZero Try.prog 114 = some (Value.pointer none) := by kernel_rfl
theorem tIs114 : (Try.prog.underlying 114).isSome = true := by kernel_rfl
theorem tSize119 : tSize Try.prog 119 = some 4 := by kernel_rfl
theorem tBytes119 : tBytes Try.prog 119 = some 40 := by kernel_rfl
theorem tAgg119 : tAgg Try.prog 119 = some true := by kernel_rfl
theorem tZero119 : tZero Try.prog 119 = some (Value.agg #[(Value.pointer none), (Value.pointer none), (Value.pointer none), (Value.string ⟨#[]⟩)]) := by kernel_rfl
theorem tPlaces119 : tPlaces Try.prog 119 = some [(0, 1), (1, 1), (2, 1), (3, 1)] := by kernel_rfl
theorem tField119_0 : tField Try.prog 119 0 = some (0, 17) := by kernel_rfl
theorem tField119_1 : tField Try.prog 119 1 = some (1, 17) := by kernel_rfl
theorem tField119_2 : tField Try.prog 119 2 = some (2, 17) := by kernel_rfl
theorem tField119_3 : tField Try.prog 119 3 = some (3, 9) := by kernel_rfl
theorem tIs119 : (Try.prog.underlying 119).isSome = true := by kernel_rfl
theorem tSize120 : tSize Try.prog 120 = some 4 := by kernel_rfl
theorem tBytes120 : tBytes Try.prog 120 = some 40 := by kernel_rfl
theorem tAgg120 : tAgg Try.prog 120 = some true := by kernel_rfl
theorem tZero120 : tZero Try.prog 120 = some (Value.agg #[(Value.pointer none), (Value.pointer none), (Value.pointer none), (Value.string ⟨#[]⟩)]) := by kernel_rfl
theorem tPlaces120 : tPlaces Try.prog 120 = some [(0, 1), (1, 1), (2, 1), (3, 1)] := by kernel_rfl
theorem tField120_0 : tField Try.prog 120 0 = some (0, 17) := by kernel_rfl
theorem tField120_1 : tField Try.prog 120 1 = some (1, 17) := by kernel_rfl
theorem tField120_2 : tField Try.prog 120 2 = some (2, 17) := by kernel_rfl
theorem tField120_3 : tField Try.prog 120 3 = some (3, 9) := by kernel_rfl
theorem tIs120 : (Try.prog.underlying 120).isSome = true := by kernel_rfl
theorem tSize121 : tSize Try.prog 121 = some 0 := by kernel_rfl
theorem tBytes121 : tBytes Try.prog 121 = some 0 := by kernel_rfl
theorem tAgg121 : tAgg Try.prog 121 = some true := by kernel_rfl
theorem tZero121 : tZero Try.prog 121 = some (Value.agg #[]) := by kernel_rfl
theorem tPlaces121 : tPlaces Try.prog 121 = none := by kernel_rfl
theorem tArr121 : tArr Try.prog 121 = some (0, 1) := by kernel_rfl
theorem tIs121 : (Try.prog.underlying 121).isSome = true := by kernel_rfl
theorem tSize122 : tSize Try.prog 122 = some 0 := by kernel_rfl
theorem tBytes122 : tBytes Try.prog 122 = some 0 := by kernel_rfl
theorem tAgg122 : tAgg Try.prog 122 = some true := by kernel_rfl
theorem tZero122 : tZero Try.prog 122 = some (Value.agg #[]) := by kernel_rfl
theorem tPlaces122 : tPlaces Try.prog 122 = some [(0, 0)] := by kernel_rfl
theorem tIs122 : (Try.prog.underlying 122).isSome = true := by kernel_rfl
theorem tSize123 : tSize Try.prog 123 = some 0 := by kernel_rfl
theorem tBytes123 : tBytes Try.prog 123 = some 0 := by kernel_rfl
theorem tAgg123 : tAgg Try.prog 123 = some true := by kernel_rfl
theorem tZero123 : tZero Try.prog 123 = some (Value.agg #[]) := by kernel_rfl
theorem tPlaces123 : tPlaces Try.prog 123 = some [(0, 0)] := by kernel_rfl
theorem tIs123 : (Try.prog.underlying 123).isSome = true := by kernel_rfl
theorem tSize125 : tSize Try.prog 125 = some 1 := by kernel_rfl
theorem tBytes125 : tBytes Try.prog 125 = some 1 := by kernel_rfl
theorem tAgg125 : tAgg Try.prog 125 = some false := by kernel_rfl
theorem tZero125 : tZero Try.prog 125 = some (Value.int IntKind.u8 0) := by kernel_rfl
theorem tInt125 : tInt Try.prog 125 = some IntKind.u8 := by kernel_rfl
theorem tIs125 : (Try.prog.underlying 125).isSome = true := by kernel_rfl
theorem tSize126 : tSize Try.prog 126 = some 1 := by kernel_rfl
theorem tBytes126 : tBytes Try.prog 126 = some 1 := by kernel_rfl
theorem tAgg126 : tAgg Try.prog 126 = some false := by kernel_rfl
theorem tZero126 : tZero Try.prog 126 = some (Value.int IntKind.u8 0) := by kernel_rfl
theorem tInt126 : tInt Try.prog 126 = some IntKind.u8 := by kernel_rfl
theorem tIs126 : (Try.prog.underlying 126).isSome = true := by kernel_rfl
theorem tSize128 : tSize Try.prog 128 = some 1 := by kernel_rfl
theorem tBytes128 : tBytes Try.prog 128 = some 8 := by kernel_rfl
theorem tAgg128 : tAgg Try.prog 128 = some false := by kernel_rfl
theorem tZero128 : tZero Try.prog 128 = some (Value.pointer none) := by kernel_rfl
theorem tIs128 : (Try.prog.underlying 128).isSome = true := by kernel_rfl
theorem tSize129 : tSize Try.prog 129 = some 1 := by kernel_rfl
theorem tBytes129 : tBytes Try.prog 129 = some 4 := by kernel_rfl
theorem tAgg129 : tAgg Try.prog 129 = some false := by kernel_rfl
theorem tZero129 : tZero Try.prog 129 = some (Value.int IntKind.i32 0) := by kernel_rfl
theorem tInt129 : tInt Try.prog 129 = some IntKind.i32 := by kernel_rfl
theorem tIs129 : (Try.prog.underlying 129).isSome = true := by kernel_rfl
theorem tSize130 : tSize Try.prog 130 = some 1 := by kernel_rfl
theorem tBytes130 : tBytes Try.prog 130 = some 4 := by kernel_rfl
theorem tAgg130 : tAgg Try.prog 130 = some false := by kernel_rfl
theorem tZero130 : tZero Try.prog 130 = some (Value.int IntKind.i32 0) := by kernel_rfl
theorem tInt130 : tInt Try.prog 130 = some IntKind.i32 := by kernel_rfl
theorem tIs130 : (Try.prog.underlying 130).isSome = true := by kernel_rfl
theorem tSize131 : tSize Try.prog 131 = some 11 := by kernel_rfl
theorem tBytes131 : tBytes Try.prog 131 = some 48 := by kernel_rfl
theorem tAgg131 : tAgg Try.prog 131 = some true := by kernel_rfl
theorem tZero131 : tZero Try.prog 131 = some (Value.agg #[(Value.int IntKind.u64 0), (Value.int IntKind.u64 0), (Value.int IntKind.u32 0), (Value.int IntKind.u8 0), (Value.int IntKind.u8 0), (Value.int IntKind.u8 0), (Value.int IntKind.u8 0), Value.nilFunc, (Value.pointer none), (Value.int IntKind.i32 0), (Value.int IntKind.i32 0)]) := by kernel_rfl
theorem tPlaces131 : tPlaces Try.prog 131 = some [(0, 1), (1, 1), (2, 1), (3, 1), (4, 1), (5, 1), (6, 1), (7, 1), (8, 1), (9, 1), (10, 1)] := by kernel_rfl
theorem tField131_0 : tField Try.prog 131 0 = some (0, 12) := by kernel_rfl
theorem tField131_1 : tField Try.prog 131 1 = some (1, 12) := by kernel_rfl
theorem tField131_2 : tField Try.prog 131 2 = some (2, 96) := by kernel_rfl
theorem tField131_3 : tField Try.prog 131 3 = some (3, 125) := by kernel_rfl
theorem tField131_4 : tField Try.prog 131 4 = some (4, 5) := by kernel_rfl
theorem tField131_5 : tField Try.prog 131 5 = some (5, 5) := by kernel_rfl
theorem tField131_6 : tField Try.prog 131 6 = some (6, 126) := by kernel_rfl
theorem tField131_8 : tField Try.prog 131 8 = some (8, 128) := by kernel_rfl
theorem tField131_9 : tField Try.prog 131 9 = some (9, 129) := by kernel_rfl
theorem tField131_10 : tField Try.prog 131 10 = some (10, 130) := by kernel_rfl
theorem tIs131 : (Try.prog.underlying 131).isSome = true := by kernel_rfl
theorem tSize132 : tSize Try.prog 132 = some 11 := by kernel_rfl
theorem tBytes132 : tBytes Try.prog 132 = some 48 := by kernel_rfl
theorem tAgg132 : tAgg Try.prog 132 = some true := by kernel_rfl
theorem tZero132 : tZero Try.prog 132 = some (Value.agg #[(Value.int IntKind.u64 0), (Value.int IntKind.u64 0), (Value.int IntKind.u32 0), (Value.int IntKind.u8 0), (Value.int IntKind.u8 0), (Value.int IntKind.u8 0), (Value.int IntKind.u8 0), Value.nilFunc, (Value.pointer none), (Value.int IntKind.i32 0), (Value.int IntKind.i32 0)]) := by kernel_rfl
theorem tPlaces132 : tPlaces Try.prog 132 = some [(0, 1), (1, 1), (2, 1), (3, 1), (4, 1), (5, 1), (6, 1), (7, 1), (8, 1), (9, 1), (10, 1)] := by kernel_rfl
theorem tField132_0 : tField Try.prog 132 0 = some (0, 12) := by kernel_rfl
theorem tField132_1 : tField Try.prog 132 1 = some (1, 12) := by kernel_rfl
theorem tField132_2 : tField Try.prog 132 2 = some (2, 96) := by kernel_rfl
theorem tField132_3 : tField Try.prog 132 3 = some (3, 125) := by kernel_rfl
theorem tField132_4 : tField Try.prog 132 4 = some (4, 5) := by kernel_rfl
theorem tField132_5 : tField Try.prog 132 5 = some (5, 5) := by kernel_rfl
theorem tField132_6 : tField Try.prog 132 6 = some (6, 126) := by kernel_rfl
theorem tField132_8 : tField Try.prog 132 8 = some (8, 128) := by kernel_rfl
theorem tField132_9 : tField Try.prog 132 9 = some (9, 129) := by kernel_rfl
theorem tField132_10 : tField Try.prog 132 10 = some (10, 130) := by kernel_rfl
theorem tIs132 : (Try.prog.underlying 132).isSome = true := by kernel_rfl
theorem tSize133 : tSize Try.prog 133 = some 2 := by kernel_rfl
theorem tBytes133 : tBytes Try.prog 133 = some 24 := by kernel_rfl
theorem tAgg133 : tAgg Try.prog 133 = some true := by kernel_rfl
theorem tZero133 : tZero Try.prog 133 = some (Value.agg #[(Value.string ⟨#[]⟩), (Value.int IntKind.i64 0)]) := by kernel_rfl
theorem tPlaces133 : tPlaces Try.prog 133 = some [(0, 1), (1, 1)] := by kernel_rfl
theorem tField133_0 : tField Try.prog 133 0 = some (0, 9) := by kernel_rfl
theorem tField133_1 : tField Try.prog 133 1 = some (1, 3) := by kernel_rfl
theorem tIs133 : (Try.prog.underlying 133).isSome = true := by kernel_rfl
theorem tSize134 : tSize Try.prog 134 = some 2 := by kernel_rfl
theorem tBytes134 : tBytes Try.prog 134 = some 24 := by kernel_rfl
theorem tAgg134 : tAgg Try.prog 134 = some true := by kernel_rfl
theorem tZero134 : tZero Try.prog 134 = some (Value.agg #[(Value.string ⟨#[]⟩), (Value.int IntKind.i64 0)]) := by kernel_rfl
theorem tPlaces134 : tPlaces Try.prog 134 = some [(0, 1), (1, 1)] := by kernel_rfl
theorem tFlat134 : tFlat Try.prog 134 = some [1, 0] := by kernel_rfl
theorem tField134_0 : tField Try.prog 134 0 = some (0, 9) := by kernel_rfl
theorem tField134_1 : tField Try.prog 134 1 = some (1, 3) := by kernel_rfl
theorem tIs134 : (Try.prog.underlying 134).isSome = true := by kernel_rfl
theorem tSize135 : tSize Try.prog 135 = some 2 := by kernel_rfl
theorem tBytes135 : tBytes Try.prog 135 = some 16 := by kernel_rfl
theorem tAgg135 : tAgg Try.prog 135 = some true := by kernel_rfl
theorem tZero135 : tZero Try.prog 135 = some (Value.agg #[(Value.int IntKind.i64 0), (Value.int IntKind.i64 0)]) := by kernel_rfl
theorem tPlaces135 : tPlaces Try.prog 135 = some [(0, 1), (1, 1)] := by kernel_rfl
theorem tField135_0 : tField Try.prog 135 0 = some (0, 22) := by kernel_rfl
theorem tField135_1 : tField Try.prog 135 1 = some (1, 3) := by kernel_rfl
theorem tIs135 : (Try.prog.underlying 135).isSome = true := by kernel_rfl
theorem tSize136 : tSize Try.prog 136 = some 2 := by kernel_rfl
theorem tBytes136 : tBytes Try.prog 136 = some 16 := by kernel_rfl
theorem tAgg136 : tAgg Try.prog 136 = some true := by kernel_rfl
theorem tZero136 : tZero Try.prog 136 = some (Value.agg #[(Value.int IntKind.i64 0), (Value.int IntKind.i64 0)]) := by kernel_rfl
theorem tPlaces136 : tPlaces Try.prog 136 = some [(0, 1), (1, 1)] := by kernel_rfl
theorem tFlat136 : tFlat Try.prog 136 = some [0, 0] := by kernel_rfl
theorem tField136_0 : tField Try.prog 136 0 = some (0, 22) := by kernel_rfl
theorem tField136_1 : tField Try.prog 136 1 = some (1, 3) := by kernel_rfl
theorem tIs136 : (Try.prog.underlying 136).isSome = true := by kernel_rfl
attribute [go_sem] tSize2 tBytes2 tAgg2 tZero2 tInt2 tIs2 tSize3 tBytes3 tAgg3 tZero3 tInt3 tIs3 tSize4 tBytes4 tAgg4 tZero4 tIs4 tSize5 tBytes5 tAgg5 tZero5 tInt5 tIs5 tSize6 tBytes6 tAgg6 tZero6 tInt6 tIs6 tSize7 tBytes7 tAgg7 tZero7 tPlaces7 tField7_0 tField7_1 tField7_2 tField7_3 tIs7 tSize8 tBytes8 tAgg8 tZero8 tPlaces8 tField8_0 tField8_1 tField8_2 tField8_3 tIs8 tSize9 tBytes9 tAgg9 tZero9 tStr9 tIs9 tSize10 tBytes10 tAgg10 tZero10 tStr10 tIs10 tSize11 tBytes11 tAgg11 tZero11 tStr11 tIs11 tSize12 tBytes12 tAgg12 tZero12 tInt12 tIs12 tSize13 tBytes13 tAgg13 tZero13 tPlaces13 tField13_0 tField13_1 tIs13 tSize14 tBytes14 tAgg14 tZero14 tPlaces14 tField14_0 tField14_1 tIs14 tSize15 tBytes15 tAgg15 tZero15 tIs15 tSize16 tBytes16 tAgg16 tZero16 tIs16 tSize17 tBytes17 tAgg17 tZero17 tIs17 tSize18 tBytes18 tAgg18 tZero18 tPlaces18 tField18_0 tIs18 tSize19 tBytes19 tAgg19 tZero19 tPlaces19 tField19_0 tIs19 tSize21 tBytes21 tAgg21 tZero21 tInt21 tIs21 tSize22 tBytes22 tAgg22 tZero22 tInt22 tIs22 tSize23 tBytes23 tAgg23 tZero23 tElem23 tIs23 tSize24 tBytes24 tAgg24 tZero24 tElem24 tIs24 tSize25 tBytes25 tAgg25 tZero25 tElem25 tIs25 tSize26 tBytes26 tAgg26 tZero26 tElem26 tIs26 tSize27 tBytes27 tAgg27 tZero27 tPlaces27 tField27_0 tField27_1 tField27_2 tField27_3 tField27_4 tField27_5 tField27_6 tField27_7 tField27_8 tIs27 tSize28 tBytes28 tAgg28 tZero28 tPlaces28 tField28_0 tField28_1 tField28_2 tField28_3 tField28_4 tField28_5 tField28_6 tField28_7 tField28_8 tIs28 tSize29 tBytes29 tAgg29 tZero29 tPlaces29 tField29_0 tField29_1 tField29_2 tField29_3 tField29_4 tField29_5 tField29_6 tField29_7 tIs29 tSize30 tBytes30 tAgg30 tZero30 tPlaces30 tField30_0 tField30_1 tField30_2 tField30_3 tField30_4 tField30_5 tField30_6 tField30_7 tIs30 tSize31 tBytes31 tAgg31 tZero31 tPlaces31 tField31_0 tField31_1 tIs31 tSize32 tBytes32 tAgg32 tZero32 tPlaces32 tFlat32 tField32_0 tField32_1 tIs32 tSize33 tBytes33 tAgg33 tZero33 tPlaces33 tField33_0 tField33_1 tField33_2 tField33_3 tField33_4 tField33_5 tField33_6 tField33_7 tField33_8 tField33_9 tField33_10 tField33_11 tField33_12 tIs33 tSize34 tBytes34 tAgg34 tZero34 tPlaces34 tField34_0 tField34_1 tField34_2 tField34_3 tField34_4 tField34_5 tField34_6 tField34_7 tField34_8 tField34_9 tField34_10 tField34_11 tField34_12 tIs34 tSize35 tBytes35 tAgg35 tZero35 tInt35 tIs35 tSize40 tBytes40 tAgg40 tZero40 tElem40 tIs40 tSize43 tBytes43 tAgg43 tZero43 tElem43 tIs43 tSize44 tBytes44 tAgg44 tZero44 tPlaces44 tField44_0 tField44_1 tField44_2 tField44_3 tIs44 tSize45 tBytes45 tAgg45 tZero45 tPlaces45 tField45_0 tField45_1 tField45_2 tField45_3 tIs45 tSize48 tBytes48 tAgg48 tZero48 tInt48 tIs48 tSize57 tBytes57 tAgg57 tZero57 tPlaces57 tField57_0 tField57_1 tIs57 tSize58 tBytes58 tAgg58 tZero58 tPlaces58 tFlat58 tField58_0 tField58_1 tIs58 tSize59 tBytes59 tAgg59 tZero59 tPlaces59 tField59_0 tField59_1 tIs59 tSize60 tBytes60 tAgg60 tZero60 tPlaces60 tFlat60 tField60_0 tField60_1 tIs60 tSize72 tBytes72 tAgg72 tZero72 tMap72 tIs72 tSize74 tBytes74 tAgg74 tZero74 tMap74 tIs74 tSize75 tBytes75 tAgg75 tZero75 tMap75 tIs75 tSize76 tBytes76 tAgg76 tZero76 tPlaces76 tField76_0 tField76_1 tIs76 tSize77 tBytes77 tAgg77 tZero77 tPlaces77 tFlat77 tField77_0 tField77_1 tIs77 tSize85 tBytes85 tAgg85 tZero85 tInt85 tIs85 tSize88 tBytes88 tAgg88 tZero88 tInt88 tIs88 tSize96 tBytes96 tAgg96 tZero96 tInt96 tIs96 tSize98 tBytes98 tAgg98 tZero98 tInt98 tIs98 tSize105 tBytes105 tAgg105 tZero105 tInt105 tIs105 tSize109 tBytes109 tAgg109 tZero109 tIs109 tSize114 tBytes114 tAgg114 tZero114 tIs114 tSize119 tBytes119 tAgg119 tZero119 tPlaces119 tField119_0 tField119_1 tField119_2 tField119_3 tIs119 tSize120 tBytes120 tAgg120 tZero120 tPlaces120 tField120_0 tField120_1 tField120_2 tField120_3 tIs120 tSize121 tBytes121 tAgg121 tZero121 tPlaces121 tArr121 tIs121 tSize122 tBytes122 tAgg122 tZero122 tPlaces122 tIs122 tSize123 tBytes123 tAgg123 tZero123 tPlaces123 tIs123 tSize125 tBytes125 tAgg125 tZero125 tInt125 tIs125 tSize126 tBytes126 tAgg126 tZero126 tInt126 tIs126 tSize128 tBytes128 tAgg128 tZero128 tIs128 tSize129 tBytes129 tAgg129 tZero129 tInt129 tIs129 tSize130 tBytes130 tAgg130 tZero130 tInt130 tIs130 tSize131 tBytes131 tAgg131 tZero131 tPlaces131 tField131_0 tField131_1 tField131_2 tField131_3 tField131_4 tField131_5 tField131_6 tField131_8 tField131_9 tField131_10 tIs131 tSize132 tBytes132 tAgg132 tZero132 tPlaces132 tField132_0 tField132_1 tField132_2 tField132_3 tField132_4 tField132_5 tField132_6 tField132_8 tField132_9 tField132_10 tIs132 tSize133 tBytes133 tAgg133 tZero133 tPlaces133 tField133_0 tField133_1 tIs133 tSize134 tBytes134 tAgg134 tZero134 tPlaces134 tFlat134 tField134_0 tField134_1 tIs134 tSize135 tBytes135 tAgg135 tZero135 tPlaces135 tField135_0 tField135_1 tIs135 tSize136 tBytes136 tAgg136 tZero136 tPlaces136 tFlat136 tField136_0 tField136_1 tIs136
end Go.Proofs.Ytckoolpjphhfdaa
