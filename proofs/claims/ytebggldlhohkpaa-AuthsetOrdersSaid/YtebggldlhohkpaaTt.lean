/- Facts on the types of the translation, each read off its table. No condition. -/
import Derived.Test.YtebggldlhohkpaaTa
import Derived.Test.YtebggldlhohkpaaChecked
import Derived.KernelRfl
namespace Go.Proofs.Ytebggldlhohkpaa
open Go Go.Abs
theorem tSize2 : tSize Try.prog 2 = some 1 := by kernel_rfl
theorem tBytes2 : tBytes Try.prog 2 = some 8 := by kernel_rfl
theorem tAgg2 : tAgg Try.prog 2 = some false := by kernel_rfl
theorem tZero2 : tZero Try.prog 2 = some (Value.int IntKind.i64 0) := by kernel_rfl
theorem tInt2 : tInt Try.prog 2 = some IntKind.i64 := by kernel_rfl
theorem tIs2 : (Try.prog.underlying 2).isSome = true := by kernel_rfl
theorem tSize3 : tSize Try.prog 3 = some 1 := by kernel_rfl
theorem tBytes3 : tBytes Try.prog 3 = some 8 := by kernel_rfl
theorem tAgg3 : tAgg Try.prog 3 = some false := by kernel_rfl
theorem tZero3 : tZero Try.prog 3 = some (Value.int IntKind.i64 0) := by kernel_rfl
theorem tInt3 : tInt Try.prog 3 = some IntKind.i64 := by kernel_rfl
theorem tIs3 : (Try.prog.underlying 3).isSome = true := by kernel_rfl
theorem tSize4 : tSize Try.prog 4 = some 1 := by kernel_rfl
theorem tBytes4 : tBytes Try.prog 4 = some 1 := by kernel_rfl
theorem tAgg4 : tAgg Try.prog 4 = some false := by kernel_rfl
theorem tZero4 : tZero Try.prog 4 = some (Value.bool false) := by kernel_rfl
theorem tIs4 : (Try.prog.underlying 4).isSome = true := by kernel_rfl
theorem tSize5 : tSize Try.prog 5 = some 1 := by kernel_rfl
theorem tBytes5 : tBytes Try.prog 5 = some 1 := by kernel_rfl
theorem tAgg5 : tAgg Try.prog 5 = some false := by kernel_rfl
theorem tZero5 : tZero Try.prog 5 = some (Value.int IntKind.u8 0) := by kernel_rfl
theorem tInt5 : tInt Try.prog 5 = some IntKind.u8 := by kernel_rfl
theorem tIs5 : (Try.prog.underlying 5).isSome = true := by kernel_rfl
theorem tSize6 : tSize Try.prog 6 = some 1 := by kernel_rfl
theorem tBytes6 : tBytes Try.prog 6 = some 1 := by kernel_rfl
theorem tAgg6 : tAgg Try.prog 6 = some false := by kernel_rfl
theorem tZero6 : tZero Try.prog 6 = some (Value.int IntKind.u8 0) := by kernel_rfl
theorem tInt6 : tInt Try.prog 6 = some IntKind.u8 := by kernel_rfl
theorem tIs6 : (Try.prog.underlying 6).isSome = true := by kernel_rfl
theorem tSize7 : tSize Try.prog 7 = some 4 := by kernel_rfl
theorem tBytes7 : tBytes Try.prog 7 = some 24 := by kernel_rfl
theorem tAgg7 : tAgg Try.prog 7 = some true := by kernel_rfl
theorem tZero7 : tZero Try.prog 7 = some (Value.agg #[(Value.int IntKind.i64 0), (Value.int IntKind.i64 0), (Value.bool false), (Value.int IntKind.u8 0)]) := by kernel_rfl
theorem tPlaces7 : tPlaces Try.prog 7 = some [(0, 1), (1, 1), (2, 1), (3, 1)] := by kernel_rfl
theorem tField7_0 : tField Try.prog 7 0 = some (0, 2) := by kernel_rfl
theorem tField7_1 : tField Try.prog 7 1 = some (1, 3) := by kernel_rfl
theorem tField7_2 : tField Try.prog 7 2 = some (2, 4) := by kernel_rfl
theorem tField7_3 : tField Try.prog 7 3 = some (3, 6) := by kernel_rfl
theorem tIs7 : (Try.prog.underlying 7).isSome = true := by kernel_rfl
theorem tSize8 : tSize Try.prog 8 = some 4 := by kernel_rfl
theorem tBytes8 : tBytes Try.prog 8 = some 24 := by kernel_rfl
theorem tAgg8 : tAgg Try.prog 8 = some true := by kernel_rfl
theorem tZero8 : tZero Try.prog 8 = some (Value.agg #[(Value.int IntKind.i64 0), (Value.int IntKind.i64 0), (Value.bool false), (Value.int IntKind.u8 0)]) := by kernel_rfl
theorem tPlaces8 : tPlaces Try.prog 8 = some [(0, 1), (1, 1), (2, 1), (3, 1)] := by kernel_rfl
theorem tField8_0 : tField Try.prog 8 0 = some (0, 2) := by kernel_rfl
theorem tField8_1 : tField Try.prog 8 1 = some (1, 3) := by kernel_rfl
theorem tField8_2 : tField Try.prog 8 2 = some (2, 4) := by kernel_rfl
theorem tField8_3 : tField Try.prog 8 3 = some (3, 6) := by kernel_rfl
theorem tIs8 : (Try.prog.underlying 8).isSome = true := by kernel_rfl
theorem tSize9 : tSize Try.prog 9 = some 1 := by kernel_rfl
theorem tBytes9 : tBytes Try.prog 9 = some 16 := by kernel_rfl
theorem tAgg9 : tAgg Try.prog 9 = some false := by kernel_rfl
theorem tZero9 : tZero Try.prog 9 = some (Value.string ⟨#[]⟩) := by kernel_rfl
theorem tStr9 : tStr Try.prog 9 = true := by kernel_rfl
theorem tIs9 : (Try.prog.underlying 9).isSome = true := by kernel_rfl
theorem tSize10 : tSize Try.prog 10 = some 1 := by kernel_rfl
theorem tBytes10 : tBytes Try.prog 10 = some 16 := by kernel_rfl
theorem tAgg10 : tAgg Try.prog 10 = some false := by kernel_rfl
theorem tZero10 : tZero Try.prog 10 = some (Value.string ⟨#[]⟩) := by kernel_rfl
theorem tStr10 : tStr Try.prog 10 = true := by kernel_rfl
theorem tIs10 : (Try.prog.underlying 10).isSome = true := by kernel_rfl
theorem tSize11 : tSize Try.prog 11 = some 1 := by kernel_rfl
theorem tBytes11 : tBytes Try.prog 11 = some 16 := by kernel_rfl
theorem tAgg11 : tAgg Try.prog 11 = some false := by kernel_rfl
theorem tZero11 : tZero Try.prog 11 = some (Value.string ⟨#[]⟩) := by kernel_rfl
theorem tStr11 : tStr Try.prog 11 = true := by kernel_rfl
theorem tIs11 : (Try.prog.underlying 11).isSome = true := by kernel_rfl
theorem tSize12 : tSize Try.prog 12 = some 1 := by kernel_rfl
theorem tBytes12 : tBytes Try.prog 12 = some 8 := by kernel_rfl
theorem tAgg12 : tAgg Try.prog 12 = some false := by kernel_rfl
theorem tZero12 : tZero Try.prog 12 = some (Value.int IntKind.u64 0) := by kernel_rfl
theorem tInt12 : tInt Try.prog 12 = some IntKind.u64 := by kernel_rfl
theorem tIs12 : (Try.prog.underlying 12).isSome = true := by kernel_rfl
theorem tSize13 : tSize Try.prog 13 = some 2 := by kernel_rfl
theorem tBytes13 : tBytes Try.prog 13 = some 24 := by kernel_rfl
theorem tAgg13 : tAgg Try.prog 13 = some true := by kernel_rfl
theorem tZero13 : tZero Try.prog 13 = some (Value.agg #[(Value.string ⟨#[]⟩), (Value.int IntKind.u64 0)]) := by kernel_rfl
theorem tPlaces13 : tPlaces Try.prog 13 = some [(0, 1), (1, 1)] := by kernel_rfl
theorem tField13_0 : tField Try.prog 13 0 = some (0, 9) := by kernel_rfl
theorem tField13_1 : tField Try.prog 13 1 = some (1, 12) := by kernel_rfl
theorem tIs13 : (Try.prog.underlying 13).isSome = true := by kernel_rfl
theorem tSize14 : tSize Try.prog 14 = some 2 := by kernel_rfl
theorem tBytes14 : tBytes Try.prog 14 = some 24 := by kernel_rfl
theorem tAgg14 : tAgg Try.prog 14 = some true := by kernel_rfl
theorem tZero14 : tZero Try.prog 14 = some (Value.agg #[(Value.string ⟨#[]⟩), (Value.int IntKind.u64 0)]) := by kernel_rfl
theorem tPlaces14 : tPlaces Try.prog 14 = some [(0, 1), (1, 1)] := by kernel_rfl
theorem tField14_0 : tField Try.prog 14 0 = some (0, 9) := by kernel_rfl
theorem tField14_1 : tField Try.prog 14 1 = some (1, 12) := by kernel_rfl
theorem tIs14 : (Try.prog.underlying 14).isSome = true := by kernel_rfl
theorem tSize15 : tSize Try.prog 15 = some 1 := by kernel_rfl
theorem tBytes15 : tBytes Try.prog 15 = some 8 := by kernel_rfl
theorem tAgg15 : tAgg Try.prog 15 = some false := by kernel_rfl
theorem tZero15 : tZero Try.prog 15 = some (Value.pointer none) := by kernel_rfl
theorem tIs15 : (Try.prog.underlying 15).isSome = true := by kernel_rfl
theorem tSize16 : tSize Try.prog 16 = some 1 := by kernel_rfl
theorem tBytes16 : tBytes Try.prog 16 = some 8 := by kernel_rfl
theorem tAgg16 : tAgg Try.prog 16 = some false := by kernel_rfl
theorem tZero16 : tZero Try.prog 16 = some (Value.pointer none) := by kernel_rfl
theorem tIs16 : (Try.prog.underlying 16).isSome = true := by kernel_rfl
theorem tSize17 : tSize Try.prog 17 = some 1 := by kernel_rfl
theorem tBytes17 : tBytes Try.prog 17 = some 8 := by kernel_rfl
theorem tAgg17 : tAgg Try.prog 17 = some false := by kernel_rfl
theorem tZero17 : tZero Try.prog 17 = some (Value.pointer none) := by kernel_rfl
theorem tIs17 : (Try.prog.underlying 17).isSome = true := by kernel_rfl
theorem tSize18 : tSize Try.prog 18 = some 1 := by kernel_rfl
theorem tBytes18 : tBytes Try.prog 18 = some 8 := by kernel_rfl
theorem tAgg18 : tAgg Try.prog 18 = some true := by kernel_rfl
theorem tZero18 : tZero Try.prog 18 = some (Value.agg #[(Value.pointer none)]) := by kernel_rfl
theorem tPlaces18 : tPlaces Try.prog 18 = some [(0, 1)] := by kernel_rfl
theorem tField18_0 : tField Try.prog 18 0 = some (0, 17) := by kernel_rfl
theorem tIs18 : (Try.prog.underlying 18).isSome = true := by kernel_rfl
theorem tSize19 : tSize Try.prog 19 = some 1 := by kernel_rfl
theorem tBytes19 : tBytes Try.prog 19 = some 8 := by kernel_rfl
theorem tAgg19 : tAgg Try.prog 19 = some true := by kernel_rfl
theorem tZero19 : tZero Try.prog 19 = some (Value.agg #[(Value.pointer none)]) := by kernel_rfl
theorem tPlaces19 : tPlaces Try.prog 19 = some [(0, 1)] := by kernel_rfl
theorem tField19_0 : tField Try.prog 19 0 = some (0, 17) := by kernel_rfl
theorem tIs19 : (Try.prog.underlying 19).isSome = true := by kernel_rfl
theorem tSize21 : tSize Try.prog 21 = some 1 := by kernel_rfl
theorem tBytes21 : tBytes Try.prog 21 = some 4 := by kernel_rfl
theorem tAgg21 : tAgg Try.prog 21 = some false := by kernel_rfl
theorem tZero21 : tZero Try.prog 21 = some (Value.int IntKind.i32 0) := by kernel_rfl
theorem tInt21 : tInt Try.prog 21 = some IntKind.i32 := by kernel_rfl
theorem tIs21 : (Try.prog.underlying 21).isSome = true := by kernel_rfl
theorem tSize22 : tSize Try.prog 22 = some 1 := by kernel_rfl
theorem tBytes22 : tBytes Try.prog 22 = some 8 := by kernel_rfl
theorem tAgg22 : tAgg Try.prog 22 = some false := by kernel_rfl
theorem tZero22 : tZero Try.prog 22 = some (Value.int IntKind.i64 0) := by kernel_rfl
theorem tInt22 : tInt Try.prog 22 = some IntKind.i64 := by kernel_rfl
theorem tIs22 : (Try.prog.underlying 22).isSome = true := by kernel_rfl
theorem tSize23 : tSize Try.prog 23 = some 1 := by kernel_rfl
theorem tBytes23 : tBytes Try.prog 23 = some 24 := by kernel_rfl
theorem tAgg23 : tAgg Try.prog 23 = some false := by kernel_rfl
theorem tZero23 : tZero Try.prog 23 = some (Value.slice none 0 0) := by kernel_rfl
theorem tElem23 : tElem Try.prog 23 = some 3 := by kernel_rfl
theorem tIs23 : (Try.prog.underlying 23).isSome = true := by kernel_rfl
theorem tSize24 : tSize Try.prog 24 = some 1 := by kernel_rfl
theorem tBytes24 : tBytes Try.prog 24 = some 24 := by kernel_rfl
theorem tAgg24 : tAgg Try.prog 24 = some false := by kernel_rfl
theorem tZero24 : tZero Try.prog 24 = some (Value.slice none 0 0) := by kernel_rfl
theorem tElem24 : tElem Try.prog 24 = some 9 := by kernel_rfl
theorem tIs24 : (Try.prog.underlying 24).isSome = true := by kernel_rfl
theorem tSize25 : tSize Try.prog 25 = some 1 := by kernel_rfl
theorem tBytes25 : tBytes Try.prog 25 = some 24 := by kernel_rfl
theorem tAgg25 : tAgg Try.prog 25 = some false := by kernel_rfl
theorem tZero25 : tZero Try.prog 25 = some (Value.slice none 0 0) := by kernel_rfl
theorem tElem25 : tElem Try.prog 25 = some 60 := by kernel_rfl
theorem tIs25 : (Try.prog.underlying 25).isSome = true := by kernel_rfl
theorem tSize26 : tSize Try.prog 26 = some 1 := by kernel_rfl
theorem tBytes26 : tBytes Try.prog 26 = some 24 := by kernel_rfl
theorem tAgg26 : tAgg Try.prog 26 = some false := by kernel_rfl
theorem tZero26 : tZero Try.prog 26 = some (Value.slice none 0 0) := by kernel_rfl
theorem tElem26 : tElem Try.prog 26 = some 103 := by kernel_rfl
theorem tIs26 : (Try.prog.underlying 26).isSome = true := by kernel_rfl
theorem tSize27 : tSize Try.prog 27 = some 9 := by kernel_rfl
theorem tBytes27 : tBytes Try.prog 27 = some 104 := by kernel_rfl
theorem tAgg27 : tAgg Try.prog 27 = some true := by kernel_rfl
theorem tZero27 : tZero Try.prog 27 = some (Value.agg #[(Value.slice none 0 0), (Value.slice none 0 0), (Value.int IntKind.i64 0), (Value.int IntKind.i64 0), (Value.int IntKind.i64 0), (Value.int IntKind.i64 0), (Value.int IntKind.i64 0), (Value.int IntKind.i64 0), (Value.int IntKind.i64 0)]) := by kernel_rfl
theorem tPlaces27 : tPlaces Try.prog 27 = some [(0, 1), (1, 1), (2, 1), (3, 1), (4, 1), (5, 1), (6, 1), (7, 1), (8, 1)] := by kernel_rfl
theorem tField27_0 : tField Try.prog 27 0 = some (0, 25) := by kernel_rfl
theorem tField27_1 : tField Try.prog 27 1 = some (1, 26) := by kernel_rfl
theorem tField27_2 : tField Try.prog 27 2 = some (2, 3) := by kernel_rfl
theorem tField27_3 : tField Try.prog 27 3 = some (3, 3) := by kernel_rfl
theorem tField27_4 : tField Try.prog 27 4 = some (4, 3) := by kernel_rfl
theorem tField27_5 : tField Try.prog 27 5 = some (5, 3) := by kernel_rfl
theorem tField27_6 : tField Try.prog 27 6 = some (6, 3) := by kernel_rfl
theorem tField27_7 : tField Try.prog 27 7 = some (7, 3) := by kernel_rfl
theorem tField27_8 : tField Try.prog 27 8 = some (8, 3) := by kernel_rfl
theorem tIs27 : (Try.prog.underlying 27).isSome = true := by kernel_rfl
theorem tSize28 : tSize Try.prog 28 = some 9 := by kernel_rfl
theorem tBytes28 : tBytes Try.prog 28 = some 104 := by kernel_rfl
theorem tAgg28 : tAgg Try.prog 28 = some true := by kernel_rfl
theorem tZero28 : tZero Try.prog 28 = some (Value.agg #[(Value.slice none 0 0), (Value.slice none 0 0), (Value.int IntKind.i64 0), (Value.int IntKind.i64 0), (Value.int IntKind.i64 0), (Value.int IntKind.i64 0), (Value.int IntKind.i64 0), (Value.int IntKind.i64 0), (Value.int IntKind.i64 0)]) := by kernel_rfl
theorem tPlaces28 : tPlaces Try.prog 28 = some [(0, 1), (1, 1), (2, 1), (3, 1), (4, 1), (5, 1), (6, 1), (7, 1), (8, 1)] := by kernel_rfl
theorem tField28_0 : tField Try.prog 28 0 = some (0, 25) := by kernel_rfl
theorem tField28_1 : tField Try.prog 28 1 = some (1, 26) := by kernel_rfl
theorem tField28_2 : tField Try.prog 28 2 = some (2, 3) := by kernel_rfl
theorem tField28_3 : tField Try.prog 28 3 = some (3, 3) := by kernel_rfl
theorem tField28_4 : tField Try.prog 28 4 = some (4, 3) := by kernel_rfl
theorem tField28_5 : tField Try.prog 28 5 = some (5, 3) := by kernel_rfl
theorem tField28_6 : tField Try.prog 28 6 = some (6, 3) := by kernel_rfl
theorem tField28_7 : tField Try.prog 28 7 = some (7, 3) := by kernel_rfl
theorem tField28_8 : tField Try.prog 28 8 = some (8, 3) := by kernel_rfl
theorem tIs28 : (Try.prog.underlying 28).isSome = true := by kernel_rfl
theorem tSize29 : tSize Try.prog 29 = some 16 := by kernel_rfl
theorem tBytes29 : tBytes Try.prog 29 = some 208 := by kernel_rfl
theorem tAgg29 : tAgg Try.prog 29 = some true := by kernel_rfl
theorem tZero29 : tZero Try.prog 29 = some (Value.agg #[(Value.string ⟨#[]⟩), (Value.int IntKind.i64 0), (Value.int IntKind.i64 0), (Value.bool false), (Value.string ⟨#[]⟩), (Value.slice none 0 0), (Value.slice none 0 0), (Value.slice none 0 0), (Value.slice none 0 0), (Value.int IntKind.i64 0), (Value.int IntKind.i64 0), (Value.int IntKind.i64 0), (Value.int IntKind.i64 0), (Value.int IntKind.i64 0), (Value.int IntKind.i64 0), (Value.int IntKind.i64 0)]) := by kernel_rfl
theorem tPlaces29 : tPlaces Try.prog 29 = some [(0, 1), (1, 1), (2, 1), (3, 1), (4, 1), (5, 1), (6, 1), (7, 9)] := by kernel_rfl
theorem tField29_0 : tField Try.prog 29 0 = some (0, 9) := by kernel_rfl
theorem tField29_1 : tField Try.prog 29 1 = some (1, 3) := by kernel_rfl
theorem tField29_2 : tField Try.prog 29 2 = some (2, 3) := by kernel_rfl
theorem tField29_3 : tField Try.prog 29 3 = some (3, 4) := by kernel_rfl
theorem tField29_4 : tField Try.prog 29 4 = some (4, 9) := by kernel_rfl
theorem tField29_5 : tField Try.prog 29 5 = some (5, 24) := by kernel_rfl
theorem tField29_6 : tField Try.prog 29 6 = some (6, 24) := by kernel_rfl
theorem tField29_7 : tField Try.prog 29 7 = some (7, 28) := by kernel_rfl
theorem tIs29 : (Try.prog.underlying 29).isSome = true := by kernel_rfl
theorem tSize30 : tSize Try.prog 30 = some 16 := by kernel_rfl
theorem tBytes30 : tBytes Try.prog 30 = some 208 := by kernel_rfl
theorem tAgg30 : tAgg Try.prog 30 = some true := by kernel_rfl
theorem tZero30 : tZero Try.prog 30 = some (Value.agg #[(Value.string ⟨#[]⟩), (Value.int IntKind.i64 0), (Value.int IntKind.i64 0), (Value.bool false), (Value.string ⟨#[]⟩), (Value.slice none 0 0), (Value.slice none 0 0), (Value.slice none 0 0), (Value.slice none 0 0), (Value.int IntKind.i64 0), (Value.int IntKind.i64 0), (Value.int IntKind.i64 0), (Value.int IntKind.i64 0), (Value.int IntKind.i64 0), (Value.int IntKind.i64 0), (Value.int IntKind.i64 0)]) := by kernel_rfl
theorem tPlaces30 : tPlaces Try.prog 30 = some [(0, 1), (1, 1), (2, 1), (3, 1), (4, 1), (5, 1), (6, 1), (7, 9)] := by kernel_rfl
theorem tField30_0 : tField Try.prog 30 0 = some (0, 9) := by kernel_rfl
theorem tField30_1 : tField Try.prog 30 1 = some (1, 3) := by kernel_rfl
theorem tField30_2 : tField Try.prog 30 2 = some (2, 3) := by kernel_rfl
theorem tField30_3 : tField Try.prog 30 3 = some (3, 4) := by kernel_rfl
theorem tField30_4 : tField Try.prog 30 4 = some (4, 9) := by kernel_rfl
theorem tField30_5 : tField Try.prog 30 5 = some (5, 24) := by kernel_rfl
theorem tField30_6 : tField Try.prog 30 6 = some (6, 24) := by kernel_rfl
theorem tField30_7 : tField Try.prog 30 7 = some (7, 28) := by kernel_rfl
theorem tIs30 : (Try.prog.underlying 30).isSome = true := by kernel_rfl
theorem tSize31 : tSize Try.prog 31 = some 2 := by kernel_rfl
theorem tBytes31 : tBytes Try.prog 31 = some 24 := by kernel_rfl
theorem tAgg31 : tAgg Try.prog 31 = some true := by kernel_rfl
theorem tZero31 : tZero Try.prog 31 = some (Value.agg #[(Value.string ⟨#[]⟩), (Value.int IntKind.i64 0)]) := by kernel_rfl
theorem tPlaces31 : tPlaces Try.prog 31 = some [(0, 1), (1, 1)] := by kernel_rfl
theorem tField31_0 : tField Try.prog 31 0 = some (0, 9) := by kernel_rfl
theorem tField31_1 : tField Try.prog 31 1 = some (1, 3) := by kernel_rfl
theorem tIs31 : (Try.prog.underlying 31).isSome = true := by kernel_rfl
theorem tSize32 : tSize Try.prog 32 = some 2 := by kernel_rfl
theorem tBytes32 : tBytes Try.prog 32 = some 24 := by kernel_rfl
theorem tAgg32 : tAgg Try.prog 32 = some true := by kernel_rfl
theorem tZero32 : tZero Try.prog 32 = some (Value.agg #[(Value.string ⟨#[]⟩), (Value.int IntKind.i64 0)]) := by kernel_rfl
theorem tPlaces32 : tPlaces Try.prog 32 = some [(0, 1), (1, 1)] := by kernel_rfl
theorem tFlat32 : tFlat Try.prog 32 = some [1, 0] := by kernel_rfl
theorem tField32_0 : tField Try.prog 32 0 = some (0, 9) := by kernel_rfl
theorem tField32_1 : tField Try.prog 32 1 = some (1, 3) := by kernel_rfl
theorem tIs32 : (Try.prog.underlying 32).isSome = true := by kernel_rfl
theorem tSize33 : tSize Try.prog 33 = some 29 := by kernel_rfl
theorem tBytes33 : tBytes Try.prog 33 = some 376 := by kernel_rfl
theorem tAgg33 : tAgg Try.prog 33 = some true := by kernel_rfl
theorem tZero33 : tZero Try.prog 33 = some (Value.agg #[(Value.int IntKind.i64 0), (Value.string ⟨#[]⟩), (Value.string ⟨#[]⟩), (Value.int IntKind.i64 0), (Value.bool false), (Value.string ⟨#[]⟩), (Value.int IntKind.i64 0), (Value.int IntKind.i64 0), (Value.slice none 0 0), (Value.slice none 0 0), (Value.string ⟨#[]⟩), (Value.int IntKind.i64 0), (Value.int IntKind.i64 0), (Value.bool false), (Value.string ⟨#[]⟩), (Value.slice none 0 0), (Value.slice none 0 0), (Value.slice none 0 0), (Value.slice none 0 0), (Value.int IntKind.i64 0), (Value.int IntKind.i64 0), (Value.int IntKind.i64 0), (Value.int IntKind.i64 0), (Value.int IntKind.i64 0), (Value.int IntKind.i64 0), (Value.int IntKind.i64 0), (Value.int IntKind.i64 0), (Value.string ⟨#[]⟩), (Value.int IntKind.i64 0)]) := by kernel_rfl
theorem tPlaces33 : tPlaces Try.prog 33 = some [(0, 1), (1, 1), (2, 1), (3, 1), (4, 1), (5, 1), (6, 1), (7, 1), (8, 1), (9, 1), (10, 16), (26, 1), (27, 2)] := by kernel_rfl
theorem tField33_0 : tField Try.prog 33 0 = some (0, 3) := by kernel_rfl
theorem tField33_1 : tField Try.prog 33 1 = some (1, 9) := by kernel_rfl
theorem tField33_2 : tField Try.prog 33 2 = some (2, 9) := by kernel_rfl
theorem tField33_3 : tField Try.prog 33 3 = some (3, 22) := by kernel_rfl
theorem tField33_4 : tField Try.prog 33 4 = some (4, 4) := by kernel_rfl
theorem tField33_5 : tField Try.prog 33 5 = some (5, 9) := by kernel_rfl
theorem tField33_6 : tField Try.prog 33 6 = some (6, 3) := by kernel_rfl
theorem tField33_7 : tField Try.prog 33 7 = some (7, 3) := by kernel_rfl
theorem tField33_8 : tField Try.prog 33 8 = some (8, 23) := by kernel_rfl
theorem tField33_9 : tField Try.prog 33 9 = some (9, 23) := by kernel_rfl
theorem tField33_10 : tField Try.prog 33 10 = some (10, 30) := by kernel_rfl
theorem tField33_11 : tField Try.prog 33 11 = some (26, 3) := by kernel_rfl
theorem tField33_12 : tField Try.prog 33 12 = some (27, 32) := by kernel_rfl
theorem tIs33 : (Try.prog.underlying 33).isSome = true := by kernel_rfl
theorem tSize34 : tSize Try.prog 34 = some 29 := by kernel_rfl
theorem tBytes34 : tBytes Try.prog 34 = some 376 := by kernel_rfl
theorem tAgg34 : tAgg Try.prog 34 = some true := by kernel_rfl
theorem tZero34 : tZero Try.prog 34 = some (Value.agg #[(Value.int IntKind.i64 0), (Value.string ⟨#[]⟩), (Value.string ⟨#[]⟩), (Value.int IntKind.i64 0), (Value.bool false), (Value.string ⟨#[]⟩), (Value.int IntKind.i64 0), (Value.int IntKind.i64 0), (Value.slice none 0 0), (Value.slice none 0 0), (Value.string ⟨#[]⟩), (Value.int IntKind.i64 0), (Value.int IntKind.i64 0), (Value.bool false), (Value.string ⟨#[]⟩), (Value.slice none 0 0), (Value.slice none 0 0), (Value.slice none 0 0), (Value.slice none 0 0), (Value.int IntKind.i64 0), (Value.int IntKind.i64 0), (Value.int IntKind.i64 0), (Value.int IntKind.i64 0), (Value.int IntKind.i64 0), (Value.int IntKind.i64 0), (Value.int IntKind.i64 0), (Value.int IntKind.i64 0), (Value.string ⟨#[]⟩), (Value.int IntKind.i64 0)]) := by kernel_rfl
theorem tPlaces34 : tPlaces Try.prog 34 = some [(0, 1), (1, 1), (2, 1), (3, 1), (4, 1), (5, 1), (6, 1), (7, 1), (8, 1), (9, 1), (10, 16), (26, 1), (27, 2)] := by kernel_rfl
theorem tField34_0 : tField Try.prog 34 0 = some (0, 3) := by kernel_rfl
theorem tField34_1 : tField Try.prog 34 1 = some (1, 9) := by kernel_rfl
theorem tField34_2 : tField Try.prog 34 2 = some (2, 9) := by kernel_rfl
theorem tField34_3 : tField Try.prog 34 3 = some (3, 22) := by kernel_rfl
theorem tField34_4 : tField Try.prog 34 4 = some (4, 4) := by kernel_rfl
theorem tField34_5 : tField Try.prog 34 5 = some (5, 9) := by kernel_rfl
theorem tField34_6 : tField Try.prog 34 6 = some (6, 3) := by kernel_rfl
theorem tField34_7 : tField Try.prog 34 7 = some (7, 3) := by kernel_rfl
theorem tField34_8 : tField Try.prog 34 8 = some (8, 23) := by kernel_rfl
theorem tField34_9 : tField Try.prog 34 9 = some (9, 23) := by kernel_rfl
theorem tField34_10 : tField Try.prog 34 10 = some (10, 30) := by kernel_rfl
theorem tField34_11 : tField Try.prog 34 11 = some (26, 3) := by kernel_rfl
theorem tField34_12 : tField Try.prog 34 12 = some (27, 32) := by kernel_rfl
theorem tIs34 : (Try.prog.underlying 34).isSome = true := by kernel_rfl
theorem tSize37 : tSize Try.prog 37 = some 1 := by kernel_rfl
theorem tBytes37 : tBytes Try.prog 37 = some 24 := by kernel_rfl
theorem tAgg37 : tAgg Try.prog 37 = some false := by kernel_rfl
theorem tZero37 : tZero Try.prog 37 = some (Value.slice none 0 0) := by kernel_rfl
theorem tElem37 : tElem Try.prog 37 = some 56 := by kernel_rfl
theorem tIs37 : (Try.prog.underlying 37).isSome = true := by kernel_rfl
theorem tSize40 : tSize Try.prog 40 = some 1 := by kernel_rfl
theorem tBytes40 : tBytes Try.prog 40 = some 24 := by kernel_rfl
theorem tAgg40 : tAgg Try.prog 40 = some false := by kernel_rfl
theorem tZero40 : tZero Try.prog 40 = some (Value.slice none 0 0) := by kernel_rfl
theorem tElem40 : tElem Try.prog 40 = some 56 := by kernel_rfl
theorem tIs40 : (Try.prog.underlying 40).isSome = true := by kernel_rfl
theorem tSize44 : tSize Try.prog 44 = some 1 := by kernel_rfl
theorem tBytes44 : tBytes Try.prog 44 = some 24 := by kernel_rfl
theorem tAgg44 : tAgg Try.prog 44 = some false := by kernel_rfl
theorem tZero44 : tZero Try.prog 44 = some (Value.slice none 0 0) := by kernel_rfl
theorem tElem44 : tElem Try.prog 44 = some 34 := by kernel_rfl
theorem tIs44 : (Try.prog.underlying 44).isSome = true := by kernel_rfl
theorem tSize46 : tSize Try.prog 46 = some 1 := by kernel_rfl
theorem tBytes46 : tBytes Try.prog 46 = some 8 := by kernel_rfl
theorem tAgg46 : tAgg Try.prog 46 = some false := by kernel_rfl
theorem tZero46 : tZero Try.prog 46 = some (Value.int IntKind.i64 0) := by kernel_rfl
theorem tInt46 : tInt Try.prog 46 = some IntKind.i64 := by kernel_rfl
theorem tIs46 : (Try.prog.underlying 46).isSome = true := by kernel_rfl
theorem tSize55 : tSize Try.prog 55 = some 3 := by kernel_rfl
theorem tBytes55 : tBytes Try.prog 55 = some 32 := by kernel_rfl
theorem tAgg55 : tAgg Try.prog 55 = some true := by kernel_rfl
theorem tZero55 : tZero Try.prog 55 = some (Value.agg #[(Value.int IntKind.i64 0), (Value.string ⟨#[]⟩), (Value.int IntKind.i64 0)]) := by kernel_rfl
theorem tPlaces55 : tPlaces Try.prog 55 = some [(0, 1), (1, 1), (2, 1)] := by kernel_rfl
theorem tField55_0 : tField Try.prog 55 0 = some (0, 22) := by kernel_rfl
theorem tField55_1 : tField Try.prog 55 1 = some (1, 9) := by kernel_rfl
theorem tField55_2 : tField Try.prog 55 2 = some (2, 3) := by kernel_rfl
theorem tIs55 : (Try.prog.underlying 55).isSome = true := by kernel_rfl
theorem tSize56 : tSize Try.prog 56 = some 3 := by kernel_rfl
theorem tBytes56 : tBytes Try.prog 56 = some 32 := by kernel_rfl
theorem tAgg56 : tAgg Try.prog 56 = some true := by kernel_rfl
theorem tZero56 : tZero Try.prog 56 = some (Value.agg #[(Value.int IntKind.i64 0), (Value.string ⟨#[]⟩), (Value.int IntKind.i64 0)]) := by kernel_rfl
theorem tPlaces56 : tPlaces Try.prog 56 = some [(0, 1), (1, 1), (2, 1)] := by kernel_rfl
theorem tFlat56 : tFlat Try.prog 56 = some [0, 1, 0] := by kernel_rfl
theorem tField56_0 : tField Try.prog 56 0 = some (0, 22) := by kernel_rfl
theorem tField56_1 : tField Try.prog 56 1 = some (1, 9) := by kernel_rfl
theorem tField56_2 : tField Try.prog 56 2 = some (2, 3) := by kernel_rfl
theorem tIs56 : (Try.prog.underlying 56).isSome = true := by kernel_rfl
theorem tSize59 : tSize Try.prog 59 = some 2 := by kernel_rfl
theorem tBytes59 : tBytes Try.prog 59 = some 24 := by kernel_rfl
theorem tAgg59 : tAgg Try.prog 59 = some true := by kernel_rfl
theorem tZero59 : tZero Try.prog 59 = some (Value.agg #[(Value.string ⟨#[]⟩), (Value.int IntKind.i64 0)]) := by kernel_rfl
theorem tPlaces59 : tPlaces Try.prog 59 = some [(0, 1), (1, 1)] := by kernel_rfl
theorem tField59_0 : tField Try.prog 59 0 = some (0, 9) := by kernel_rfl
theorem tField59_1 : tField Try.prog 59 1 = some (1, 3) := by kernel_rfl
theorem tIs59 : (Try.prog.underlying 59).isSome = true := by kernel_rfl
theorem tSize60 : tSize Try.prog 60 = some 2 := by kernel_rfl
theorem tBytes60 : tBytes Try.prog 60 = some 24 := by kernel_rfl
theorem tAgg60 : tAgg Try.prog 60 = some true := by kernel_rfl
theorem tZero60 : tZero Try.prog 60 = some (Value.agg #[(Value.string ⟨#[]⟩), (Value.int IntKind.i64 0)]) := by kernel_rfl
theorem tPlaces60 : tPlaces Try.prog 60 = some [(0, 1), (1, 1)] := by kernel_rfl
theorem tFlat60 : tFlat Try.prog 60 = some [1, 0] := by kernel_rfl
theorem tField60_0 : tField Try.prog 60 0 = some (0, 9) := by kernel_rfl
theorem tField60_1 : tField Try.prog 60 1 = some (1, 3) := by kernel_rfl
theorem tIs60 : (Try.prog.underlying 60).isSome = true := by kernel_rfl
theorem tSize65 : tSize Try.prog 65 = some 2 := by kernel_rfl
theorem tBytes65 : tBytes Try.prog 65 = some 24 := by kernel_rfl
theorem tAgg65 : tAgg Try.prog 65 = some true := by kernel_rfl
theorem tZero65 : tZero Try.prog 65 = some (Value.agg #[(Value.int IntKind.i64 0), (Value.string ⟨#[]⟩)]) := by kernel_rfl
theorem tPlaces65 : tPlaces Try.prog 65 = some [(0, 1), (1, 1)] := by kernel_rfl
theorem tField65_0 : tField Try.prog 65 0 = some (0, 22) := by kernel_rfl
theorem tField65_1 : tField Try.prog 65 1 = some (1, 9) := by kernel_rfl
theorem tIs65 : (Try.prog.underlying 65).isSome = true := by kernel_rfl
theorem tSize66 : tSize Try.prog 66 = some 2 := by kernel_rfl
theorem tBytes66 : tBytes Try.prog 66 = some 24 := by kernel_rfl
theorem tAgg66 : tAgg Try.prog 66 = some true := by kernel_rfl
theorem tZero66 : tZero Try.prog 66 = some (Value.agg #[(Value.int IntKind.i64 0), (Value.string ⟨#[]⟩)]) := by kernel_rfl
theorem tPlaces66 : tPlaces Try.prog 66 = some [(0, 1), (1, 1)] := by kernel_rfl
theorem tFlat66 : tFlat Try.prog 66 = some [0, 1] := by kernel_rfl
theorem tField66_0 : tField Try.prog 66 0 = some (0, 22) := by kernel_rfl
theorem tField66_1 : tField Try.prog 66 1 = some (1, 9) := by kernel_rfl
theorem tIs66 : (Try.prog.underlying 66).isSome = true := by kernel_rfl
theorem tSize67 : tSize Try.prog 67 = some 1 := by kernel_rfl
theorem tBytes67 : tBytes Try.prog 67 = some 24 := by kernel_rfl
theorem tAgg67 : tAgg Try.prog 67 = some false := by kernel_rfl
theorem tZero67 : tZero Try.prog 67 = some (Value.slice none 0 0) := by kernel_rfl
theorem tElem67 : tElem Try.prog 67 = some 66 := by kernel_rfl
theorem tIs67 : (Try.prog.underlying 67).isSome = true := by kernel_rfl
theorem tSize86 : tSize Try.prog 86 = some 1 := by kernel_rfl
theorem tBytes86 : tBytes Try.prog 86 = some 8 := by kernel_rfl
theorem tAgg86 : tAgg Try.prog 86 = some false := by kernel_rfl
theorem tZero86 : tZero Try.prog 86 = some (Value.int IntKind.u64 0) := by kernel_rfl
theorem tInt86 : tInt Try.prog 86 = some IntKind.u64 := by kernel_rfl
theorem tIs86 : (Try.prog.underlying 86).isSome = true := by kernel_rfl
theorem tSize91 : tSize Try.prog 91 = some 1 := by kernel_rfl
theorem tBytes91 : tBytes Try.prog 91 = some 8 := by kernel_rfl
theorem tAgg91 : tAgg Try.prog 91 = some false := by kernel_rfl
theorem tZero91 : tZero Try.prog 91 = some (Value.int IntKind.i64 0) := by kernel_rfl
theorem tInt91 : tInt Try.prog 91 = some IntKind.i64 := by kernel_rfl
theorem tIs91 : (Try.prog.underlying 91).isSome = true := by kernel_rfl
theorem tSize99 : tSize Try.prog 99 = some 1 := by kernel_rfl
theorem tBytes99 : tBytes Try.prog 99 = some 4 := by kernel_rfl
theorem tAgg99 : tAgg Try.prog 99 = some false := by kernel_rfl
theorem tZero99 : tZero Try.prog 99 = some (Value.int IntKind.u32 0) := by kernel_rfl
theorem tInt99 : tInt Try.prog 99 = some IntKind.u32 := by kernel_rfl
theorem tIs99 : (Try.prog.underlying 99).isSome = true := by kernel_rfl
theorem tSize101 : tSize Try.prog 101 = some 1 := by kernel_rfl
theorem tBytes101 : tBytes Try.prog 101 = some 8 := by kernel_rfl
theorem tAgg101 : tAgg Try.prog 101 = some false := by kernel_rfl
theorem tZero101 : tZero Try.prog 101 = some (Value.int IntKind.u64 0) := by kernel_rfl
theorem tInt101 : tInt Try.prog 101 = some IntKind.u64 := by kernel_rfl
theorem tIs101 : (Try.prog.underlying 101).isSome = true := by kernel_rfl
theorem tSize102 : tSize Try.prog 102 = some 2 := by kernel_rfl
theorem tBytes102 : tBytes Try.prog 102 = some 16 := by kernel_rfl
theorem tAgg102 : tAgg Try.prog 102 = some true := by kernel_rfl
theorem tZero102 : tZero Try.prog 102 = some (Value.agg #[(Value.int IntKind.i64 0), (Value.int IntKind.i64 0)]) := by kernel_rfl
theorem tPlaces102 : tPlaces Try.prog 102 = some [(0, 1), (1, 1)] := by kernel_rfl
theorem tField102_0 : tField Try.prog 102 0 = some (0, 22) := by kernel_rfl
theorem tField102_1 : tField Try.prog 102 1 = some (1, 3) := by kernel_rfl
theorem tIs102 : (Try.prog.underlying 102).isSome = true := by kernel_rfl
theorem tSize103 : tSize Try.prog 103 = some 2 := by kernel_rfl
theorem tBytes103 : tBytes Try.prog 103 = some 16 := by kernel_rfl
theorem tAgg103 : tAgg Try.prog 103 = some true := by kernel_rfl
theorem tZero103 : tZero Try.prog 103 = some (Value.agg #[(Value.int IntKind.i64 0), (Value.int IntKind.i64 0)]) := by kernel_rfl
theorem tPlaces103 : tPlaces Try.prog 103 = some [(0, 1), (1, 1)] := by kernel_rfl
theorem tFlat103 : tFlat Try.prog 103 = some [0, 0] := by kernel_rfl
theorem tField103_0 : tField Try.prog 103 0 = some (0, 22) := by kernel_rfl
theorem tField103_1 : tField Try.prog 103 1 = some (1, 3) := by kernel_rfl
theorem tIs103 : (Try.prog.underlying 103).isSome = true := by kernel_rfl
theorem tSize104 : tSize Try.prog 104 = some 1 := by kernel_rfl
theorem tBytes104 : tBytes Try.prog 104 = some 8 := by kernel_rfl
theorem tAgg104 : tAgg Try.prog 104 = some false := by kernel_rfl
theorem tZero104 : tZero Try.prog 104 = some (Value.int IntKind.u64 0) := by kernel_rfl
theorem tInt104 : tInt Try.prog 104 = some IntKind.u64 := by kernel_rfl
theorem tIs104 : (Try.prog.underlying 104).isSome = true := by kernel_rfl
theorem tSize108 : tSize Try.prog 108 = some 1 := by kernel_rfl
theorem tBytes108 : tBytes Try.prog 108 = some 8 := by kernel_rfl
theorem tAgg108 : tAgg Try.prog 108 = some false := by kernel_rfl
theorem tZero108 : tZero Try.prog 108 = some (Value.pointer none) := by kernel_rfl
theorem tIs108 : (Try.prog.underlying 108).isSome = true := by kernel_rfl
theorem tSize111 : tSize Try.prog 111 = some 1 := by kernel_rfl
theorem tBytes111 : tBytes Try.prog 111 = some 8 := by kernel_rfl
theorem tAgg111 : tAgg Try.prog 111 = some false := by kernel_rfl
theorem tZero111 : tZero Try.prog 111 = some (Value.pointer none) := by kernel_rfl
theorem tIs111 : (Try.prog.underlying 111).isSome = true := by kernel_rfl
theorem tSize115 : tSize Try.prog 115 = some 4 := by kernel_rfl
theorem tBytes115 : tBytes Try.prog 115 = some 40 := by kernel_rfl
theorem tAgg115 : tAgg Try.prog 115 = some true := by kernel_rfl
theorem tZero115 : tZero Try.prog 115 = some (Value.agg #[(Value.pointer none), (Value.pointer none), (Value.pointer none), (Value.string ⟨#[]⟩)]) := by kernel_rfl
theorem tPlaces115 : tPlaces Try.prog 115 = some [(0, 1), (1, 1), (2, 1), (3, 1)] := by kernel_rfl
theorem tField115_0 : tField Try.prog 115 0 = some (0, 17) := by kernel_rfl
theorem tField115_1 : tField Try.prog 115 1 = some (1, 17) := by kernel_rfl
theorem tField115_2 : tField Try.prog 115 2 = some (2, 17) := by kernel_rfl
theorem tField115_3 : tField Try.prog 115 3 = some (3, 9) := by kernel_rfl
theorem tIs115 : (Try.prog.underlying 115).isSome = true := by kernel_rfl
theorem tSize116 : tSize Try.prog 116 = some 4 := by kernel_rfl
theorem tBytes116 : tBytes Try.prog 116 = some 40 := by kernel_rfl
theorem tAgg116 : tAgg Try.prog 116 = some true := by kernel_rfl
theorem tZero116 : tZero Try.prog 116 = some (Value.agg #[(Value.pointer none), (Value.pointer none), (Value.pointer none), (Value.string ⟨#[]⟩)]) := by kernel_rfl
theorem tPlaces116 : tPlaces Try.prog 116 = some [(0, 1), (1, 1), (2, 1), (3, 1)] := by kernel_rfl
theorem tField116_0 : tField Try.prog 116 0 = some (0, 17) := by kernel_rfl
theorem tField116_1 : tField Try.prog 116 1 = some (1, 17) := by kernel_rfl
theorem tField116_2 : tField Try.prog 116 2 = some (2, 17) := by kernel_rfl
theorem tField116_3 : tField Try.prog 116 3 = some (3, 9) := by kernel_rfl
theorem tIs116 : (Try.prog.underlying 116).isSome = true := by kernel_rfl
theorem tSize117 : tSize Try.prog 117 = some 0 := by kernel_rfl
theorem tBytes117 : tBytes Try.prog 117 = some 0 := by kernel_rfl
theorem tAgg117 : tAgg Try.prog 117 = some true := by kernel_rfl
theorem tZero117 : tZero Try.prog 117 = some (Value.agg #[]) := by kernel_rfl
theorem tPlaces117 : tPlaces Try.prog 117 = none := by kernel_rfl
theorem tArr117 : tArr Try.prog 117 = some (0, 1) := by kernel_rfl
theorem tIs117 : (Try.prog.underlying 117).isSome = true := by kernel_rfl
theorem tSize118 : tSize Try.prog 118 = some 0 := by kernel_rfl
theorem tBytes118 : tBytes Try.prog 118 = some 0 := by kernel_rfl
theorem tAgg118 : tAgg Try.prog 118 = some true := by kernel_rfl
theorem tZero118 : tZero Try.prog 118 = some (Value.agg #[]) := by kernel_rfl
theorem tPlaces118 : tPlaces Try.prog 118 = some [(0, 0)] := by kernel_rfl
theorem tIs118 : (Try.prog.underlying 118).isSome = true := by kernel_rfl
theorem tSize119 : tSize Try.prog 119 = some 0 := by kernel_rfl
theorem tBytes119 : tBytes Try.prog 119 = some 0 := by kernel_rfl
theorem tAgg119 : tAgg Try.prog 119 = some true := by kernel_rfl
theorem tZero119 : tZero Try.prog 119 = some (Value.agg #[]) := by kernel_rfl
theorem tPlaces119 : tPlaces Try.prog 119 = some [(0, 0)] := by kernel_rfl
theorem tIs119 : (Try.prog.underlying 119).isSome = true := by kernel_rfl
theorem tSize121 : tSize Try.prog 121 = some 1 := by kernel_rfl
theorem tBytes121 : tBytes Try.prog 121 = some 1 := by kernel_rfl
theorem tAgg121 : tAgg Try.prog 121 = some false := by kernel_rfl
theorem tZero121 : tZero Try.prog 121 = some (Value.int IntKind.u8 0) := by kernel_rfl
theorem tInt121 : tInt Try.prog 121 = some IntKind.u8 := by kernel_rfl
theorem tIs121 : (Try.prog.underlying 121).isSome = true := by kernel_rfl
theorem tSize122 : tSize Try.prog 122 = some 1 := by kernel_rfl
theorem tBytes122 : tBytes Try.prog 122 = some 1 := by kernel_rfl
theorem tAgg122 : tAgg Try.prog 122 = some false := by kernel_rfl
theorem tZero122 : tZero Try.prog 122 = some (Value.int IntKind.u8 0) := by kernel_rfl
theorem tInt122 : tInt Try.prog 122 = some IntKind.u8 := by kernel_rfl
theorem tIs122 : (Try.prog.underlying 122).isSome = true := by kernel_rfl
theorem tSize124 : tSize Try.prog 124 = some 1 := by kernel_rfl
theorem tBytes124 : tBytes Try.prog 124 = some 8 := by kernel_rfl
theorem tAgg124 : tAgg Try.prog 124 = some false := by kernel_rfl
theorem tZero124 : tZero Try.prog 124 = some (Value.pointer none) := by kernel_rfl
theorem tIs124 : (Try.prog.underlying 124).isSome = true := by kernel_rfl
theorem tSize125 : tSize Try.prog 125 = some 1 := by kernel_rfl
theorem tBytes125 : tBytes Try.prog 125 = some 4 := by kernel_rfl
theorem tAgg125 : tAgg Try.prog 125 = some false := by kernel_rfl
theorem tZero125 : tZero Try.prog 125 = some (Value.int IntKind.i32 0) := by kernel_rfl
theorem tInt125 : tInt Try.prog 125 = some IntKind.i32 := by kernel_rfl
theorem tIs125 : (Try.prog.underlying 125).isSome = true := by kernel_rfl
theorem tSize126 : tSize Try.prog 126 = some 1 := by kernel_rfl
theorem tBytes126 : tBytes Try.prog 126 = some 4 := by kernel_rfl
theorem tAgg126 : tAgg Try.prog 126 = some false := by kernel_rfl
theorem tZero126 : tZero Try.prog 126 = some (Value.int IntKind.i32 0) := by kernel_rfl
theorem tInt126 : tInt Try.prog 126 = some IntKind.i32 := by kernel_rfl
theorem tIs126 : (Try.prog.underlying 126).isSome = true := by kernel_rfl
theorem tSize127 : tSize Try.prog 127 = some 11 := by kernel_rfl
theorem tBytes127 : tBytes Try.prog 127 = some 48 := by kernel_rfl
theorem tAgg127 : tAgg Try.prog 127 = some true := by kernel_rfl
theorem tZero127 : tZero Try.prog 127 = some (Value.agg #[(Value.int IntKind.u64 0), (Value.int IntKind.u64 0), (Value.int IntKind.u32 0), (Value.int IntKind.u8 0), (Value.int IntKind.u8 0), (Value.int IntKind.u8 0), (Value.int IntKind.u8 0), Value.nilFunc, (Value.pointer none), (Value.int IntKind.i32 0), (Value.int IntKind.i32 0)]) := by kernel_rfl
theorem tPlaces127 : tPlaces Try.prog 127 = some [(0, 1), (1, 1), (2, 1), (3, 1), (4, 1), (5, 1), (6, 1), (7, 1), (8, 1), (9, 1), (10, 1)] := by kernel_rfl
theorem tField127_0 : tField Try.prog 127 0 = some (0, 12) := by kernel_rfl
theorem tField127_1 : tField Try.prog 127 1 = some (1, 12) := by kernel_rfl
theorem tField127_2 : tField Try.prog 127 2 = some (2, 99) := by kernel_rfl
theorem tField127_3 : tField Try.prog 127 3 = some (3, 121) := by kernel_rfl
theorem tField127_4 : tField Try.prog 127 4 = some (4, 5) := by kernel_rfl
theorem tField127_5 : tField Try.prog 127 5 = some (5, 5) := by kernel_rfl
theorem tField127_6 : tField Try.prog 127 6 = some (6, 122) := by kernel_rfl
theorem tField127_8 : tField Try.prog 127 8 = some (8, 124) := by kernel_rfl
theorem tField127_9 : tField Try.prog 127 9 = some (9, 125) := by kernel_rfl
theorem tField127_10 : tField Try.prog 127 10 = some (10, 126) := by kernel_rfl
theorem tIs127 : (Try.prog.underlying 127).isSome = true := by kernel_rfl
theorem tSize128 : tSize Try.prog 128 = some 11 := by kernel_rfl
theorem tBytes128 : tBytes Try.prog 128 = some 48 := by kernel_rfl
theorem tAgg128 : tAgg Try.prog 128 = some true := by kernel_rfl
theorem tZero128 : tZero Try.prog 128 = some (Value.agg #[(Value.int IntKind.u64 0), (Value.int IntKind.u64 0), (Value.int IntKind.u32 0), (Value.int IntKind.u8 0), (Value.int IntKind.u8 0), (Value.int IntKind.u8 0), (Value.int IntKind.u8 0), Value.nilFunc, (Value.pointer none), (Value.int IntKind.i32 0), (Value.int IntKind.i32 0)]) := by kernel_rfl
theorem tPlaces128 : tPlaces Try.prog 128 = some [(0, 1), (1, 1), (2, 1), (3, 1), (4, 1), (5, 1), (6, 1), (7, 1), (8, 1), (9, 1), (10, 1)] := by kernel_rfl
theorem tField128_0 : tField Try.prog 128 0 = some (0, 12) := by kernel_rfl
theorem tField128_1 : tField Try.prog 128 1 = some (1, 12) := by kernel_rfl
theorem tField128_2 : tField Try.prog 128 2 = some (2, 99) := by kernel_rfl
theorem tField128_3 : tField Try.prog 128 3 = some (3, 121) := by kernel_rfl
theorem tField128_4 : tField Try.prog 128 4 = some (4, 5) := by kernel_rfl
theorem tField128_5 : tField Try.prog 128 5 = some (5, 5) := by kernel_rfl
theorem tField128_6 : tField Try.prog 128 6 = some (6, 122) := by kernel_rfl
theorem tField128_8 : tField Try.prog 128 8 = some (8, 124) := by kernel_rfl
theorem tField128_9 : tField Try.prog 128 9 = some (9, 125) := by kernel_rfl
theorem tField128_10 : tField Try.prog 128 10 = some (10, 126) := by kernel_rfl
theorem tIs128 : (Try.prog.underlying 128).isSome = true := by kernel_rfl
attribute [go_sem] tSize2 tBytes2 tAgg2 tZero2 tInt2 tIs2 tSize3 tBytes3 tAgg3 tZero3 tInt3 tIs3 tSize4 tBytes4 tAgg4 tZero4 tIs4 tSize5 tBytes5 tAgg5 tZero5 tInt5 tIs5 tSize6 tBytes6 tAgg6 tZero6 tInt6 tIs6 tSize7 tBytes7 tAgg7 tZero7 tPlaces7 tField7_0 tField7_1 tField7_2 tField7_3 tIs7 tSize8 tBytes8 tAgg8 tZero8 tPlaces8 tField8_0 tField8_1 tField8_2 tField8_3 tIs8 tSize9 tBytes9 tAgg9 tZero9 tStr9 tIs9 tSize10 tBytes10 tAgg10 tZero10 tStr10 tIs10 tSize11 tBytes11 tAgg11 tZero11 tStr11 tIs11 tSize12 tBytes12 tAgg12 tZero12 tInt12 tIs12 tSize13 tBytes13 tAgg13 tZero13 tPlaces13 tField13_0 tField13_1 tIs13 tSize14 tBytes14 tAgg14 tZero14 tPlaces14 tField14_0 tField14_1 tIs14 tSize15 tBytes15 tAgg15 tZero15 tIs15 tSize16 tBytes16 tAgg16 tZero16 tIs16 tSize17 tBytes17 tAgg17 tZero17 tIs17 tSize18 tBytes18 tAgg18 tZero18 tPlaces18 tField18_0 tIs18 tSize19 tBytes19 tAgg19 tZero19 tPlaces19 tField19_0 tIs19 tSize21 tBytes21 tAgg21 tZero21 tInt21 tIs21 tSize22 tBytes22 tAgg22 tZero22 tInt22 tIs22 tSize23 tBytes23 tAgg23 tZero23 tElem23 tIs23 tSize24 tBytes24 tAgg24 tZero24 tElem24 tIs24 tSize25 tBytes25 tAgg25 tZero25 tElem25 tIs25 tSize26 tBytes26 tAgg26 tZero26 tElem26 tIs26 tSize27 tBytes27 tAgg27 tZero27 tPlaces27 tField27_0 tField27_1 tField27_2 tField27_3 tField27_4 tField27_5 tField27_6 tField27_7 tField27_8 tIs27 tSize28 tBytes28 tAgg28 tZero28 tPlaces28 tField28_0 tField28_1 tField28_2 tField28_3 tField28_4 tField28_5 tField28_6 tField28_7 tField28_8 tIs28 tSize29 tBytes29 tAgg29 tZero29 tPlaces29 tField29_0 tField29_1 tField29_2 tField29_3 tField29_4 tField29_5 tField29_6 tField29_7 tIs29 tSize30 tBytes30 tAgg30 tZero30 tPlaces30 tField30_0 tField30_1 tField30_2 tField30_3 tField30_4 tField30_5 tField30_6 tField30_7 tIs30 tSize31 tBytes31 tAgg31 tZero31 tPlaces31 tField31_0 tField31_1 tIs31 tSize32 tBytes32 tAgg32 tZero32 tPlaces32 tFlat32 tField32_0 tField32_1 tIs32 tSize33 tBytes33 tAgg33 tZero33 tPlaces33 tField33_0 tField33_1 tField33_2 tField33_3 tField33_4 tField33_5 tField33_6 tField33_7 tField33_8 tField33_9 tField33_10 tField33_11 tField33_12 tIs33 tSize34 tBytes34 tAgg34 tZero34 tPlaces34 tField34_0 tField34_1 tField34_2 tField34_3 tField34_4 tField34_5 tField34_6 tField34_7 tField34_8 tField34_9 tField34_10 tField34_11 tField34_12 tIs34 tSize37 tBytes37 tAgg37 tZero37 tElem37 tIs37 tSize40 tBytes40 tAgg40 tZero40 tElem40 tIs40 tSize44 tBytes44 tAgg44 tZero44 tElem44 tIs44 tSize46 tBytes46 tAgg46 tZero46 tInt46 tIs46 tSize55 tBytes55 tAgg55 tZero55 tPlaces55 tField55_0 tField55_1 tField55_2 tIs55 tSize56 tBytes56 tAgg56 tZero56 tPlaces56 tFlat56 tField56_0 tField56_1 tField56_2 tIs56 tSize59 tBytes59 tAgg59 tZero59 tPlaces59 tField59_0 tField59_1 tIs59 tSize60 tBytes60 tAgg60 tZero60 tPlaces60 tFlat60 tField60_0 tField60_1 tIs60 tSize65 tBytes65 tAgg65 tZero65 tPlaces65 tField65_0 tField65_1 tIs65 tSize66 tBytes66 tAgg66 tZero66 tPlaces66 tFlat66 tField66_0 tField66_1 tIs66 tSize67 tBytes67 tAgg67 tZero67 tElem67 tIs67 tSize86 tBytes86 tAgg86 tZero86 tInt86 tIs86 tSize91 tBytes91 tAgg91 tZero91 tInt91 tIs91 tSize99 tBytes99 tAgg99 tZero99 tInt99 tIs99 tSize101 tBytes101 tAgg101 tZero101 tInt101 tIs101 tSize102 tBytes102 tAgg102 tZero102 tPlaces102 tField102_0 tField102_1 tIs102 tSize103 tBytes103 tAgg103 tZero103 tPlaces103 tFlat103 tField103_0 tField103_1 tIs103 tSize104 tBytes104 tAgg104 tZero104 tInt104 tIs104 tSize108 tBytes108 tAgg108 tZero108 tIs108 tSize111 tBytes111 tAgg111 tZero111 tIs111 tSize115 tBytes115 tAgg115 tZero115 tPlaces115 tField115_0 tField115_1 tField115_2 tField115_3 tIs115 tSize116 tBytes116 tAgg116 tZero116 tPlaces116 tField116_0 tField116_1 tField116_2 tField116_3 tIs116 tSize117 tBytes117 tAgg117 tZero117 tPlaces117 tArr117 tIs117 tSize118 tBytes118 tAgg118 tZero118 tPlaces118 tIs118 tSize119 tBytes119 tAgg119 tZero119 tPlaces119 tIs119 tSize121 tBytes121 tAgg121 tZero121 tInt121 tIs121 tSize122 tBytes122 tAgg122 tZero122 tInt122 tIs122 tSize124 tBytes124 tAgg124 tZero124 tIs124 tSize125 tBytes125 tAgg125 tZero125 tInt125 tIs125 tSize126 tBytes126 tAgg126 tZero126 tInt126 tIs126 tSize127 tBytes127 tAgg127 tZero127 tPlaces127 tField127_0 tField127_1 tField127_2 tField127_3 tField127_4 tField127_5 tField127_6 tField127_8 tField127_9 tField127_10 tIs127 tSize128 tBytes128 tAgg128 tZero128 tPlaces128 tField128_0 tField128_1 tField128_2 tField128_3 tField128_4 tField128_5 tField128_6 tField128_8 tField128_9 tField128_10 tIs128
end Go.Proofs.Ytebggldlhohkpaa
