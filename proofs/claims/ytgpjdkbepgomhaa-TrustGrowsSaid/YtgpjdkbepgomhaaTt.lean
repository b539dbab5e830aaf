/- Facts on the types of the translation, each read off its table. No condition. -/
import Derived.Test.YtgpjdkbepgomhaaTa
import Derived.Test.YtgpjdkbepgomhaaChecked
import Derived.KernelRfl
namespace Go.Proofs.Ytgpjdkbepgomhaa
open Go Go.Abs
theorem tSize2 : tSize Try.prog 2 = some 1 := by kernel_rfl
theorem tBytes2 : tBytes Try.prog 2 = some 8 := by kernel_rfl
theorem tAgg2 : tAgg Try.prog 2 = some false := by kernel_rfl
theorem tZero2 : tZero Try.prog 2 = some (Value.int IntKind.i64 0) := by kernel_rfl
theorem tInt2 : tInt Try.prog 2 = some IntKind.i64 := by kernel_rfl
theorem tIs2 : (Try.prog.underlying 2).isSome = true := by kernel_rfl
theorem tSize3 : tSize Try.prog 3 = some 1 := by kernel_rfl
theorem tBytes3 : tBytes Try.prog 3 = some 8 := by kernel_rfl
theorem tAgg3 : tAgg Try.prog 3 = some false := by kernel_rfl
theorem tZero3 : tZero Try.prog 3 = some (Value.int IntKind.i64 0) := by kernel_rfl
theorem tInt3 : tInt Try.prog 3 = some IntKind.i64 := by kernel_rfl
theorem tIs3 : (Try.prog.underlying 3).isSome = true := by kernel_rfl
theorem tSize4 : tSize Try.prog 4 = some 1 := by kernel_rfl
theorem tBytes4 : tBytes Try.prog 4 = some 1 := by kernel_rfl
theorem tAgg4 : tAgg Try.prog 4 = some false := by kernel_rfl
theorem tZero4 : tZero Try.prog 4 = some (Value.bool false) := by kernel_rfl
theorem tIs4 : (Try.prog.underlying 4).isSome = true := by kernel_rfl
theorem tSize5 : tSize Try.prog 5 = some 1 := by kernel_rfl
theorem tBytes5 : tBytes Try.prog 5 = some 1 := by kernel_rfl
theorem tAgg5 : tAgg Try.prog 5 = some false := by kernel_rfl
theorem tZero5 : tZero Try.prog 5 = some (Value.int IntKind.u8 0) := by kernel_rfl
theorem tInt5 : tInt Try.prog 5 = some IntKind.u8 := by kernel_rfl
theorem tIs5 : (Try.prog.underlying 5).isSome = true := by kernel_rfl
theorem tSize6 : tSize Try.prog 6 = some 1 := by kernel_rfl
theorem tBytes6 : tBytes Try.prog 6 = some 1 := by kernel_rfl
theorem tAgg6 : tAgg Try.prog 6 = some false := by kernel_rfl
theorem tZero6 : tZero Try.prog 6 = some (Value.int IntKind.u8 0) := by kernel_rfl
theorem tInt6 : tInt Try.prog 6 = some IntKind.u8 := by kernel_rfl
theorem tIs6 : (Try.prog.underlying 6).isSome = true := by kernel_rfl
theorem tSize7 : tSize Try.prog 7 = some 4 := by kernel_rfl
theorem tBytes7 : tBytes Try.prog 7 = some 24 := by kernel_rfl
theorem tAgg7 : tAgg Try.prog 7 = some true := by kernel_rfl
theorem tZero7 : tZero Try.prog 7 = some (Value.agg #[(Value.int IntKind.i64 0), (Value.int IntKind.i64 0), (Value.bool false), (Value.int IntKind.u8 0)]) := by kernel_rfl
theorem tPlaces7 : tPlaces Try.prog 7 = some [(0, 1), (1, 1), (2, 1), (3, 1)] := by kernel_rfl
theorem tField7_0 : tField Try.prog 7 0 = some (0, 2) := by kernel_rfl
theorem tField7_1 : tField Try.prog 7 1 = some (1, 3) := by kernel_rfl
theorem tField7_2 : tField Try.prog 7 2 = some (2, 4) := by kernel_rfl
theorem tField7_3 : tField Try.prog 7 3 = some (3, 6) := by kernel_rfl
theorem tIs7 : (Try.prog.underlying 7).isSome = true := by kernel_rfl
theorem tSize8 : tSize Try.prog 8 = some 4 := by kernel_rfl
theorem tBytes8 : tBytes Try.prog 8 = some 24 := by kernel_rfl
theorem tAgg8 : tAgg Try.prog 8 = some true := by kernel_rfl
theorem tZero8 : tZero Try.prog 8 = some (Value.agg #[(Value.int IntKind.i64 0), (Value.int IntKind.i64 0), (Value.bool false), (Value.int IntKind.u8 0)]) := by kernel_rfl
theorem tPlaces8 : tPlaces Try.prog 8 = some [(0, 1), (1, 1), (2, 1), (3, 1)] := by kernel_rfl
theorem tField8_0 : tField Try.prog 8 0 = some (0, 2) := by kernel_rfl
theorem tField8_1 : tField Try.prog 8 1 = some (1, 3) := by kernel_rfl
theorem tField8_2 : tField Try.prog 8 2 = some (2, 4) := by kernel_rfl
theorem tField8_3 : tField Try.prog 8 3 = some (3, 6) := by kernel_rfl
theorem tIs8 : (Try.prog.underlying 8).isSome = true := by kernel_rfl
theorem tSize9 : tSize Try.prog 9 = some 1 := by kernel_rfl
theorem tBytes9 : tBytes Try.prog 9 = some 16 := by kernel_rfl
theorem tAgg9 : tAgg Try.prog 9 = some false := by kernel_rfl
theorem tZero9 : tZero Try.prog 9 = some (Value.string ⟨#[]⟩) := by kernel_rfl
theorem tStr9 : tStr Try.prog 9 = true := by kernel_rfl
theorem tIs9 : (Try.prog.underlying 9).isSome = true := by kernel_rfl
theorem tSize10 : tSize Try.prog 10 = some 1 := by kernel_rfl
theorem tBytes10 : tBytes Try.prog 10 = some 16 := by kernel_rfl
theorem tAgg10 : tAgg Try.prog 10 = some false := by kernel_rfl
theorem tZero10 : tZero Try.prog 10 = some (Value.string ⟨#[]⟩) := by kernel_rfl
theorem tStr10 : tStr Try.prog 10 = true := by kernel_rfl
theorem tIs10 : (Try.prog.underlying 10).isSome = true := by kernel_rfl
theorem tSize11 : tSize Try.prog 11 = some 1 := by kernel_rfl
theorem tBytes11 : tBytes Try.prog 11 = some 16 := by kernel_rfl
theorem tAgg11 : tAgg Try.prog 11 = some false := by kernel_rfl
theorem tZero11 : tZero Try.prog 11 = some (Value.string ⟨#[]⟩) := by kernel_rfl
theorem tStr11 : tStr Try.prog 11 = true := by kernel_rfl
theorem tIs11 : (Try.prog.underlying 11).isSome = true := by kernel_rfl
theorem tSize12 : tSize Try.prog 12 = some 1 := by kernel_rfl
theorem tBytes12 : tBytes Try.prog 12 = some 8 := by kernel_rfl
theorem tAgg12 : tAgg Try.prog 12 = some false := by kernel_rfl
theorem tZero12 : tZero Try.prog 12 = some (Value.int IntKind.u64 0) := by kernel_rfl
theorem tInt12 : tInt Try.prog 12 = some IntKind.u64 := by kernel_rfl
theorem tIs12 : (Try.prog.underlying 12).isSome = true := by kernel_rfl
theorem tSize13 : tSize Try.prog 13 = some 2 := by kernel_rfl
theorem tBytes13 : tBytes Try.prog 13 = some 24 := by kernel_rfl
theorem tAgg13 : tAgg Try.prog 13 = some true := by kernel_rfl
theorem tZero13 : tZero Try.prog 13 = some (Value.agg #[(Value.string ⟨#[]⟩), (Value.int IntKind.u64 0)]) := by kernel_rfl
theorem tPlaces13 : tPlaces Try.prog 13 = some [(0, 1), (1, 1)] := by kernel_rfl
theorem tField13_0 : tField Try.prog 13 0 = some (0, 9) := by kernel_rfl
theorem tField13_1 : tField Try.prog 13 1 = some (1, 12) := by kernel_rfl
theorem tIs13 : (Try.prog.underlying 13).isSome = true := by kernel_rfl
theorem tSize14 : tSize Try.prog 14 = some 2 := by kernel_rfl
theorem tBytes14 : tBytes Try.prog 14 = some 24 := by kernel_rfl
theorem tAgg14 : tAgg Try.prog 14 = some true := by kernel_rfl
theorem tZero14 : tZero Try.prog 14 = some (Value.agg #[(Value.string ⟨#[]⟩), (Value.int IntKind.u64 0)]) := by kernel_rfl
theorem tPlaces14 : tPlaces Try.prog 14 = some [(0, 1), (1, 1)] := by kernel_rfl
theorem tField14_0 : tField Try.prog 14 0 = some (0, 9) := by kernel_rfl
theorem tField14_1 : tField Try.prog 14 1 = some (1, 12) := by kernel_rfl
theorem tIs14 : (Try.prog.underlying 14).isSome = true := by kernel_rfl
theorem tSize15 : tSize Try.prog 15 = some 1 := by kernel_rfl
theorem tBytes15 : tBytes Try.prog 15 = some 8 := by kernel_rfl
theorem tAgg15 : tAgg Try.prog 15 = some false := by kernel_rfl
theorem tZero15 : tZero Try.prog 15 = some (Value.pointer none) := by kernel_rfl
theorem tIs15 : (Try.prog.underlying 15).isSome = true := by kernel_rfl
theorem tSize16 : tSize Try.prog 16 = some 1 := by kernel_rfl
theorem tBytes16 : tBytes Try.prog 16 = some 8 := by kernel_rfl
theorem tAgg16 : tAgg Try.prog 16 = some false := by kernel_rfl
theorem tZero16 : tZero Try.prog 16 = some (Value.pointer none) := by kernel_rfl
theorem tIs16 : (Try.prog.underlying 16).isSome = true := by kernel_rfl
theorem tSize17 : tSize Try.prog 17 = some 1 := by kernel_rfl
theorem tBytes17 : tBytes Try.prog 17 = some 8 := by kernel_rfl
theorem tAgg17 : tAgg Try.prog 17 = some false := by kernel_rfl
theorem tZero17 : tZero Try.prog 17 = some (Value.pointer none) := by kernel_rfl
theorem tIs17 : (Try.prog.underlying 17).isSome = true := by kernel_rfl
theorem tSize18 : tSize Try.prog 18 = some 1 := by kernel_rfl
theorem tBytes18 : tBytes Try.prog 18 = some 8 := by kernel_rfl
theorem tAgg18 : tAgg Try.prog 18 = some true := by kernel_rfl
theorem tZero18 : tZero Try.prog 18 = some (Value.agg #[(Value.pointer none)]) := by kernel_rfl
theorem tPlaces18 : tPlaces Try.prog 18 = some [(0, 1)] := by kernel_rfl
theorem tField18_0 : tField Try.prog 18 0 = some (0, 17) := by kernel_rfl
theorem tIs18 : (Try.prog.underlying 18).isSome = true := by kernel_rfl
theorem tSize19 : tSize Try.prog 19 = some 1 := by kernel_rfl
theorem tBytes19 : tBytes Try.prog 19 = some 8 := by kernel_rfl
theorem tAgg19 : tAgg Try.prog 19 = some true := by kernel_rfl
theorem tZero19 : tZero Try.prog 19 = some (Value.agg #[(Value.pointer none)]) := by kernel_rfl
theorem tPlaces19 : tPlaces Try.prog 19 = some [(0, 1)] := by kernel_rfl
theorem tField19_0 : tField Try.prog 19 0 = some (0, 17) := by kernel_rfl
theorem tIs19 : (Try.prog.underlying 19).isSome = true := by kernel_rfl
theorem tSize21 : tSize Try.prog 21 = some 1 := by kernel_rfl
theorem tBytes21 : tBytes Try.prog 21 = some 4 := by kernel_rfl
theorem tAgg21 : tAgg Try.prog 21 = some false := by kernel_rfl
theorem tZero21 : tZero Try.prog 21 = some (Value.int IntKind.i32 0) := by kernel_rfl
theorem tInt21 : tInt Try.prog 21 = some IntKind.i32 := by kernel_rfl
theorem tIs21 : (Try.prog.underlying 21).isSome = true := by kernel_rfl
theorem tSize22 : tSize Try.prog 22 = some 1 := by kernel_rfl
theorem tBytes22 : tBytes Try.prog 22 = some 24 := by kernel_rfl
theorem tAgg22 : tAgg Try.prog 22 = some false := by kernel_rfl
theorem tZero22 : tZero Try.prog 22 = some (Value.slice none 0 0) := by kernel_rfl
theorem tElem22 : tElem Try.prog 22 = some 43 := by kernel_rfl
theorem tIs22 : (Try.prog.underlying 22).isSome = true := by kernel_rfl
theorem tSize23 : tSize Try.prog 23 = some 4 := by kernel_rfl
theorem tBytes23 : tBytes Try.prog 23 = some 56 := by kernel_rfl
theorem tAgg23 : tAgg Try.prog 23 = some true := by kernel_rfl
theorem tZero23 : tZero Try.prog 23 = some (Value.agg #[(Value.string ⟨#[]⟩), (Value.int IntKind.i64 0), (Value.int IntKind.i64 0), (Value.slice none 0 0)]) := by kernel_rfl
theorem tPlaces23 : tPlaces Try.prog 23 = some [(0, 1), (1, 1), (2, 1), (3, 1)] := by kernel_rfl
theorem tField23_0 : tField Try.prog 23 0 = some (0, 9) := by kernel_rfl
theorem tField23_1 : tField Try.prog 23 1 = some (1, 3) := by kernel_rfl
theorem tField23_2 : tField Try.prog 23 2 = some (2, 3) := by kernel_rfl
theorem tField23_3 : tField Try.prog 23 3 = some (3, 22) := by kernel_rfl
theorem tIs23 : (Try.prog.underlying 23).isSome = true := by kernel_rfl
theorem tSize24 : tSize Try.prog 24 = some 4 := by kernel_rfl
theorem tBytes24 : tBytes Try.prog 24 = some 56 := by kernel_rfl
theorem tAgg24 : tAgg Try.prog 24 = some true := by kernel_rfl
theorem tZero24 : tZero Try.prog 24 = some (Value.agg #[(Value.string ⟨#[]⟩), (Value.int IntKind.i64 0), (Value.int IntKind.i64 0), (Value.slice none 0 0)]) := by kernel_rfl
theorem tPlaces24 : tPlaces Try.prog 24 = some [(0, 1), (1, 1), (2, 1), (3, 1)] := by kernel_rfl
theorem tField24_0 : tField Try.prog 24 0 = some (0, 9) := by kernel_rfl
theorem tField24_1 : tField Try.prog 24 1 = some (1, 3) := by kernel_rfl
theorem tField24_2 : tField Try.prog 24 2 = some (2, 3) := by kernel_rfl
theorem tField24_3 : tField Try.prog 24 3 = some (3, 22) := by kernel_rfl
theorem tIs24 : (Try.prog.underlying 24).isSome = true := by kernel_rfl
theorem tSize25 : tSize Try.prog 25 = some 1 := by kernel_rfl
theorem tBytes25 : tBytes Try.prog 25 = some 24 := by kernel_rfl
theorem tAgg25 : tAgg Try.prog 25 = some false := by kernel_rfl
theorem tZero25 : tZero Try.prog 25 = some (Value.slice none 0 0) := by kernel_rfl
theorem tElem25 : tElem Try.prog 25 = some 3 := by kernel_rfl
theorem tIs25 : (Try.prog.underlying 25).isSome = true := by kernel_rfl
theorem tSize26 : tSize Try.prog 26 = some 1 := by kernel_rfl
theorem tBytes26 : tBytes Try.prog 26 = some 24 := by kernel_rfl
theorem tAgg26 : tAgg Try.prog 26 = some false := by kernel_rfl
theorem tZero26 : tZero Try.prog 26 = some (Value.slice none 0 0) := by kernel_rfl
theorem tElem26 : tElem Try.prog 26 = some 9 := by kernel_rfl
theorem tIs26 : (Try.prog.underlying 26).isSome = true := by kernel_rfl
theorem tSize27 : tSize Try.prog 27 = some 12 := by kernel_rfl
theorem tBytes27 : tBytes Try.prog 27 = some 184 := by kernel_rfl
theorem tAgg27 : tAgg Try.prog 27 = some true := by kernel_rfl
theorem tZero27 : tZero Try.prog 27 = some (Value.agg #[(Value.string ⟨#[]⟩), (Value.int IntKind.i64 0), (Value.int IntKind.i64 0), (Value.slice none 0 0), (Value.string ⟨#[]⟩), (Value.int IntKind.i64 0), (Value.int IntKind.i64 0), (Value.slice none 0 0), (Value.string ⟨#[]⟩), (Value.slice none 0 0), (Value.slice none 0 0), (Value.bool false)]) := by kernel_rfl
theorem tPlaces27 : tPlaces Try.prog 27 = some [(0, 4), (4, 4), (8, 1), (9, 1), (10, 1), (11, 1)] := by kernel_rfl
theorem tField27_0 : tField Try.prog 27 0 = some (0, 24) := by kernel_rfl
theorem tField27_1 : tField Try.prog 27 1 = some (4, 24) := by kernel_rfl
theorem tField27_2 : tField Try.prog 27 2 = some (8, 9) := by kernel_rfl
theorem tField27_3 : tField Try.prog 27 3 = some (9, 25) := by kernel_rfl
theorem tField27_4 : tField Try.prog 27 4 = some (10, 26) := by kernel_rfl
theorem tField27_5 : tField Try.prog 27 5 = some (11, 4) := by kernel_rfl
theorem tIs27 : (Try.prog.underlying 27).isSome = true := by kernel_rfl
theorem tSize28 : tSize Try.prog 28 = some 12 := by kernel_rfl
theorem tBytes28 : tBytes Try.prog 28 = some 184 := by kernel_rfl
theorem tAgg28 : tAgg Try.prog 28 = some true := by kernel_rfl
theorem tZero28 : tZero Try.prog 28 = some (Value.agg #[(Value.string ⟨#[]⟩), (Value.int IntKind.i64 0), (Value.int IntKind.i64 0), (Value.slice none 0 0), (Value.string ⟨#[]⟩), (Value.int IntKind.i64 0), (Value.int IntKind.i64 0), (Value.slice none 0 0), (Value.string ⟨#[]⟩), (Value.slice none 0 0), (Value.slice none 0 0), (Value.bool false)]) := by kernel_rfl
theorem tPlaces28 : tPlaces Try.prog 28 = some [(0, 4), (4, 4), (8, 1), (9, 1), (10, 1), (11, 1)] := by kernel_rfl
theorem tField28_0 : tField Try.prog 28 0 = some (0, 24) := by kernel_rfl
theorem tField28_1 : tField Try.prog 28 1 = some (4, 24) := by kernel_rfl
theorem tField28_2 : tField Try.prog 28 2 = some (8, 9) := by kernel_rfl
theorem tField28_3 : tField Try.prog 28 3 = some (9, 25) := by kernel_rfl
theorem tField28_4 : tField Try.prog 28 4 = some (10, 26) := by kernel_rfl
theorem tField28_5 : tField Try.prog 28 5 = some (11, 4) := by kernel_rfl
theorem tIs28 : (Try.prog.underlying 28).isSome = true := by kernel_rfl
theorem tSize31 : tSize Try.prog 31 = some 1 := by kernel_rfl
theorem tBytes31 : tBytes Try.prog 31 = some 8 := by kernel_rfl
theorem tAgg31 : tAgg Try.prog 31 = some false := by kernel_rfl
theorem tZero31 : tZero Try.prog 31 = some (Value.int IntKind.i64 0) := by kernel_rfl
theorem tInt31 : tInt Try.prog 31 = some IntKind.i64 := by kernel_rfl
theorem tIs31 : (Try.prog.underlying 31).isSome = true := by kernel_rfl
theorem tSize34 : tSize Try.prog 34 = some 1 := by kernel_rfl
theorem tBytes34 : tBytes Try.prog 34 = some 24 := by kernel_rfl
theorem tAgg34 : tAgg Try.prog 34 = some false := by kernel_rfl
theorem tZero34 : tZero Try.prog 34 = some (Value.slice none 0 0) := by kernel_rfl
theorem tElem34 : tElem Try.prog 34 = some 31 := by kernel_rfl
theorem tIs34 : (Try.prog.underlying 34).isSome = true := by kernel_rfl
theorem tSize42 : tSize Try.prog 42 = some 3 := by kernel_rfl
theorem tBytes42 : tBytes Try.prog 42 = some 32 := by kernel_rfl
theorem tAgg42 : tAgg Try.prog 42 = some true := by kernel_rfl
theorem tZero42 : tZero Try.prog 42 = some (Value.agg #[(Value.string ⟨#[]⟩), (Value.int IntKind.i64 0), (Value.bool false)]) := by kernel_rfl
theorem tPlaces42 : tPlaces Try.prog 42 = some [(0, 1), (1, 1), (2, 1)] := by kernel_rfl
theorem tField42_0 : tField Try.prog 42 0 = some (0, 9) := by kernel_rfl
theorem tField42_1 : tField Try.prog 42 1 = some (1, 3) := by kernel_rfl
theorem tField42_2 : tField Try.prog 42 2 = some (2, 4) := by kernel_rfl
theorem tIs42 : (Try.prog.underlying 42).isSome = true := by kernel_rfl
theorem tSize43 : tSize Try.prog 43 = some 3 := by kernel_rfl
theorem tBytes43 : tBytes Try.prog 43 = some 32 := by kernel_rfl
theorem tAgg43 : tAgg Try.prog 43 = some true := by kernel_rfl
theorem tZero43 : tZero Try.prog 43 = some (Value.agg #[(Value.string ⟨#[]⟩), (Value.int IntKind.i64 0), (Value.bool false)]) := by kernel_rfl
theorem tPlaces43 : tPlaces Try.prog 43 = some [(0, 1), (1, 1), (2, 1)] := by kernel_rfl
theorem tFlat43 : tFlat Try.prog 43 = some [1, 0, 2] := by kernel_rfl
theorem tField43_0 : tField Try.prog 43 0 = some (0, 9) := by kernel_rfl
theorem tField43_1 : tField Try.prog 43 1 = some (1, 3) := by kernel_rfl
theorem tField43_2 : tField Try.prog 43 2 = some (2, 4) := by kernel_rfl
theorem tIs43 : (Try.prog.underlying 43).isSome = true := by kernel_rfl
theorem tSize47 : tSize Try.prog 47 = some 1 := by kernel_rfl
theorem tBytes47 : tBytes Try.prog 47 = some 8 := by kernel_rfl
theorem tAgg47 : tAgg Try.prog 47 = some false := by kernel_rfl
theorem tZero47 : tZero Try.prog 47 = some (Value.int IntKind.i64 0) := by kernel_rfl
theorem tInt47 : tInt Try.prog 47 = some IntKind.i64 := by kernel_rfl
theorem tIs47 : (Try.prog.underlying 47).isSome = true := by kernel_rfl
theorem tSize58 : tSize Try.prog 58 = some 1 := by kernel_rfl
theorem tBytes58 : tBytes Try.prog 58 = some 8 := by kernel_rfl
theorem tAgg58 : tAgg Try.prog 58 = some false := by kernel_rfl
theorem tZero58 : tZero Try.prog 58 = some (Value.int IntKind.u64 0) := by kernel_rfl
theorem tInt58 : tInt Try.prog 58 = some IntKind.u64 := by kernel_rfl
theorem tIs58 : (Try.prog.underlying 58).isSome = true := by kernel_rfl
theorem tSize61 : tSize Try.prog 61 = some 1 := by kernel_rfl
theorem tBytes61 : tBytes Try.prog 61 = some 8 := by kernel_rfl
theorem tAgg61 : tAgg Try.prog 61 = some false := by kernel_rfl
theorem tZero61 : tZero Try.prog 61 = some (Value.int IntKind.i64 0) := by kernel_rfl
theorem tInt61 : tInt Try.prog 61 = some IntKind.i64 := by kernel_rfl
theorem tIs61 : (Try.prog.underlying 61).isSome = true := by kernel_rfl
theorem tSize70 : tSize Try.prog 70 = some 1 := by kernel_rfl
theorem tBytes70 : tBytes Try.prog 70 = some 4 := by kernel_rfl
theorem tAgg70 : tAgg Try.prog 70 = some false := by kernel_rfl
theorem tZero70 : tZero Try.prog 70 = some (Value.int IntKind.u32 0) := by kernel_rfl
theorem tInt70 : tInt Try.prog 70 = some IntKind.u32 := by kernel_rfl
theorem tIs70 : (Try.prog.underlying 70).isSome = true := by kernel_rfl
theorem tSize72 : tSize Try.prog 72 = some 1 := by kernel_rfl
theorem tBytes72 : tBytes Try.prog 72 = some 8 := by kernel_rfl
theorem tAgg72 : tAgg Try.prog 72 = some false := by kernel_rfl
theorem tZero72 : tZero Try.prog 72 = some (Value.int IntKind.u64 0) := by kernel_rfl
theorem tInt72 : tInt Try.prog 72 = some IntKind.u64 := by kernel_rfl
theorem tIs72 : (Try.prog.underlying 72).isSome = true := by kernel_rfl
theorem tSize74 : tSize Try.prog 74 = some 1 := by kernel_rfl
theorem tBytes74 : tBytes Try.prog 74 = some 8 := by kernel_rfl
theorem tAgg74 : tAgg Try.prog 74 = some false := by kernel_rfl
theorem tZero74 : tZero Try.prog 74 = some (Value.int IntKind.u64 0) := by kernel_rfl
theorem tInt74 : tInt Try.prog 74 = some IntKind.u64 := by kernel_rfl
theorem tIs74 : (Try.prog.underlying 74).isSome = true := by kernel_rfl
theorem tSize78 : tSize Try.prog 78 = some 1 := by kernel_rfl
theorem tBytes78 : tBytes Try.prog 78 = some 8 := by kernel_rfl
theorem tAgg78 : tAgg Try.prog 78 = some false := by kernel_rfl
theorem tZero78 : tZero Try.prog 78 = some (Value.pointer none) := by kernel_rfl
theorem tIs78 : (Try.prog.underlying 78).isSome = true := by kernel_rfl
theorem tSize81 : tSize Try.prog 81 = some 1 := by kernel_rfl
theorem tBytes81 : tBytes Try.prog 81 = some 8 := by kernel_rfl
theorem tAgg81 : tAgg Try.prog 81 = some false := by kernel_rfl
theorem tZero81 : tZero Try.prog 81 = some (Value.pointer none) := by kernel_rfl
theorem tIs81 : (Try.prog.underlying 81).isSome = true := by kernel_rfl
theorem tSize85 : tSize Try.prog 85 = some 4 := by kernel_rfl
theorem tBytes85 : tBytes Try.prog 85 = some 40 := by kernel_rfl
theorem tAgg85 : tAgg Try.prog 85 = some true := by kernel_rfl
theorem tZero85 : tZero Try.prog 85 = some (Value.agg #[(Value.pointer none), (Value.pointer none), (Value.pointer none), (Value.string ⟨#[]⟩)]) := by kernel_rfl
theorem tPlaces85 : tPlaces Try.prog 85 = some [(0, 1), (1, 1), (2, 1), (3, 1)] := by kernel_rfl
theorem tField85_0 : tField Try.prog 85 0 = some (0, 17) := by kernel_rfl
theorem tField85_1 : tField Try.prog 85 1 = some (1, 17) := by kernel_rfl
theorem tField85_2 : tField Try.prog 85 2 = some (2, 17) := by kernel_rfl
theorem tField85_3 : tField Try.prog 85 3 = some (3, 9) := by kernel_rfl
theorem tIs85 : (Try.prog.underlying 85).isSome = true := by kernel_rfl
theorem tSize86 : tSize Try.prog 86 = some 4 := by kernel_rfl
theorem tBytes86 : tBytes Try.prog 86 = some 40 := by kernel_rfl
theorem tAgg86 : tAgg Try.prog 86 = some true := by kernel_rfl
theorem tZero86 : tZero Try.prog 86 = some (Value.agg #[(Value.pointer none), (Value.pointer none), (Value.pointer none), (Value.string ⟨#[]⟩)]) := by kernel_rfl
theorem tPlaces86 : tPlaces Try.prog 86 = some [(0, 1), (1, 1), (2, 1), (3, 1)] := by kernel_rfl
theorem tField86_0 : tField Try.prog 86 0 = some (0, 17) := by kernel_rfl
theorem tField86_1 : tField Try.prog 86 1 = some (1, 17) := by kernel_rfl
theorem tField86_2 : tField Try.prog 86 2 = some (2, 17) := by kernel_rfl
theorem tField86_3 : tField Try.prog 86 3 = some (3, 9) := by kernel_rfl
theorem tIs86 : (Try.prog.underlying 86).isSome = true := by kernel_rfl
theorem tSize87 : tSize Try.prog 87 = some 0 := by kernel_rfl
theorem tBytes87 : tBytes Try.prog 87 = some 0 := by kernel_rfl
theorem tAgg87 : tAgg Try.prog 87 = some true := by kernel_rfl
theorem tZero87 : tZero Try.prog 87 = some (Value.agg #[]) := by kernel_rfl
theorem tPlaces87 : tPlaces Try.prog 87 = none := by kernel_rfl
theorem tArr87 : tArr Try.prog 87 = some (0, 1) := by kernel_rfl
theorem tIs87 : (Try.prog.underlying 87).isSome = true := by kernel_rfl
theorem tSize88 : tSize Try.prog 88 = some 0 := by kernel_rfl
theorem tBytes88 : tBytes Try.prog 88 = some 0 := by kernel_rfl
theorem tAgg88 : tAgg Try.prog 88 = some true := by kernel_rfl
theorem tZero88 : tZero Try.prog 88 = some (Value.agg #[]) := by kernel_rfl
theorem tPlaces88 : tPlaces Try.prog 88 = some [(0, 0)] := by kernel_rfl
theorem tIs88 : (Try.prog.underlying 88).isSome = true := by kernel_rfl
theorem tSize89 : tSize Try.prog 89 = some 0 := by kernel_rfl
theorem tBytes89 : tBytes Try.prog 89 = some 0 := by kernel_rfl
theorem tAgg89 : tAgg Try.prog 89 = some true := by kernel_rfl
theorem tZero89 : tZero Try.prog 89 = some (Value.agg #[]) := by kernel_rfl
theorem tPlaces89 : tPlaces Try.prog 89 = some [(0, 0)] := by kernel_rfl
theorem tIs89 : (Try.prog.underlying 89).isSome = true := by kernel_rfl
theorem tSize91 : tSize Try.prog 91 = some 1 := by kernel_rfl
theorem tBytes91 : tBytes Try.prog 91 = some 1 := by kernel_rfl
theorem tAgg91 : tAgg Try.prog 91 = some false := by kernel_rfl
theorem tZero91 : tZero Try.prog 91 = some (Value.int IntKind.u8 0) := by kernel_rfl
theorem tInt91 : tInt Try.prog 91 = some IntKind.u8 := by kernel_rfl
theorem tIs91 : (Try.prog.underlying 91).isSome = true := by kernel_rfl
theorem tSize92 : tSize Try.prog 92 = some 1 := by kernel_rfl
theorem tBytes92 : tBytes Try.prog 92 = some 1 := by kernel_rfl
theorem tAgg92 : tAgg Try.prog 92 = some false := by kernel_rfl
theorem tZero92 : tZero Try.prog 92 = some (Value.int IntKind.u8 0) := by kernel_rfl
theorem tInt92 : tInt Try.prog 92 = some IntKind.u8 := by kernel_rfl
theorem tIs92 : (Try.prog.underlying 92).isSome = true := by kernel_rfl
theorem tSize94 : tSize Try.prog 94 = some 1 := by kernel_rfl
theorem tBytes94 : tBytes Try.prog 94 = some 8 := by kernel_rfl
theorem tAgg94 : tAgg Try.prog 94 = some false := by kernel_rfl
theorem tZero94 : tZero Try.prog 94 = some (Value.pointer none) := by kernel_rfl
theorem tIs94 : (Try.prog.underlying 94).isSome = true := by kernel_rfl
theorem tSize95 : tSize Try.prog 95 = some 1 := by kernel_rfl
theorem tBytes95 : tBytes Try.prog 95 = some 4 := by kernel_rfl
theorem tAgg95 : tAgg Try.prog 95 = some false := by kernel_rfl
theorem tZero95 : tZero Try.prog 95 = some (Value.int IntKind.i32 0) := by kernel_rfl
theorem tInt95 : tInt Try.prog 95 = some IntKind.i32 := by kernel_rfl
theorem tIs95 : (Try.prog.underlying 95).isSome = true := by kernel_rfl
theorem tSize96 : tSize Try.prog 96 = some 1 := by kernel_rfl
theorem tBytes96 : tBytes Try.prog 96 = some 4 := by kernel_rfl
theorem tAgg96 : tAgg Try.prog 96 = some false := by kernel_rfl
theorem tZero96 : tZero Try.prog 96 = some (Value.int IntKind.i32 0) := by kernel_rfl
theorem tInt96 : tInt Try.prog 96 = some IntKind.i32 := by kernel_rfl
theorem tIs96 : (Try.prog.underlying 96).isSome = true := by kernel_rfl
theorem tSize97 : tSize Try.prog 97 = some 11 := by kernel_rfl
theorem tBytes97 : tBytes Try.prog 97 = some 48 := by kernel_rfl
theorem tAgg97 : tAgg Try.prog 97 = some true := by kernel_rfl
theorem tZero97 : tZero Try.prog 97 = some (Value.agg #[(Value.int IntKind.u64 0), (Value.int IntKind.u64 0), (Value.int IntKind.u32 0), (Value.int IntKind.u8 0), (Value.int IntKind.u8 0), (Value.int IntKind.u8 0), (Value.int IntKind.u8 0), Value.nilFunc, (Value.pointer none), (Value.int IntKind.i32 0), (Value.int IntKind.i32 0)]) := by kernel_rfl
theorem tPlaces97 : tPlaces Try.prog 97 = some [(0, 1), (1, 1), (2, 1), (3, 1), (4, 1), (5, 1), (6, 1), (7, 1), (8, 1), (9, 1), (10, 1)] := by kernel_rfl
theorem tField97_0 : tField Try.prog 97 0 = some (0, 12) := by kernel_rfl
theorem tField97_1 : tField Try.prog 97 1 = some (1, 12) := by kernel_rfl
theorem tField97_2 : tField Try.prog 97 2 = some (2, 70) := by kernel_rfl
theorem tField97_3 : tField Try.prog 97 3 = some (3, 91) := by kernel_rfl
theorem tField97_4 : tField Try.prog 97 4 = some (4, 5) := by kernel_rfl
theorem tField97_5 : tField Try.prog 97 5 = some (5, 5) := by kernel_rfl
theorem tField97_6 : tField Try.prog 97 6 = some (6, 92) := by kernel_rfl
theorem tField97_8 : tField Try.prog 97 8 = some (8, 94) := by kernel_rfl
theorem tField97_9 : tField Try.prog 97 9 = some (9, 95) := by kernel_rfl
theorem tField97_10 : tField Try.prog 97 10 = some (10, 96) := by kernel_rfl
theorem tIs97 : (Try.prog.underlying 97).isSome = true := by kernel_rfl
theorem tSize98 : tSize Try.prog 98 = some 11 := by kernel_rfl
theorem tBytes98 : tBytes Try.prog 98 = some 48 := by kernel_rfl
theorem tAgg98 : tAgg Try.prog 98 = some true := by kernel_rfl
theorem tZero98 : tZero Try.prog 98 = some (Value.agg #[(Value.int IntKind.u64 0), (Value.int IntKind.u64 0), (Value.int IntKind.u32 0), (Value.int IntKind.u8 0), (Value.int IntKind.u8 0), (Value.int IntKind.u8 0), (Value.int IntKind.u8 0), Value.nilFunc, (Value.pointer none), (Value.int IntKind.i32 0), (Value.int IntKind.i32 0)]) := by kernel_rfl
theorem tPlaces98 : tPlaces Try.prog 98 = some [(0, 1), (1, 1), (2, 1), (3, 1), (4, 1), (5, 1), (6, 1), (7, 1), (8, 1), (9, 1), (10, 1)] := by kernel_rfl
theorem tField98_0 : tField Try.prog 98 0 = some (0, 12) := by kernel_rfl
theorem tField98_1 : tField Try.prog 98 1 = some (1, 12) := by kernel_rfl
theorem tField98_2 : tField Try.prog 98 2 = some (2, 70) := by kernel_rfl
theorem tField98_3 : tField Try.prog 98 3 = some (3, 91) := by kernel_rfl
theorem tField98_4 : tField Try.prog 98 4 = some (4, 5) := by kernel_rfl
theorem tField98_5 : tField Try.prog 98 5 = some (5, 5) := by kernel_rfl
theorem tField98_6 : tField Try.prog 98 6 = some (6, 92) := by kernel_rfl
theorem tField98_8 : tField Try.prog 98 8 = some (8, 94) := by kernel_rfl
theorem tField98_9 : tField Try.prog 98 9 = some (9, 95) := by kernel_rfl
theorem tField98_10 : tField Try.prog 98 10 = some (10, 96) := by kernel_rfl
theorem tIs98 : (Try.prog.underlying 98).isSome = true := by kernel_rfl
attribute [go_sem] tSize2 tBytes2 tAgg2 tZero2 tInt2 tIs2 tSize3 tBytes3 tAgg3 tZero3 tInt3 tIs3 tSize4 tBytes4 tAgg4 tZero4 tIs4 tSize5 tBytes5 tAgg5 tZero5 tInt5 tIs5 tSize6 tBytes6 tAgg6 tZero6 tInt6 tIs6 tSize7 tBytes7 tAgg7 tZero7 tPlaces7 tField7_0 tField7_1 tField7_2 tField7_3 tIs7 tSize8 tBytes8 tAgg8 tZero8 tPlaces8 tField8_0 tField8_1 tField8_2 tField8_3 tIs8 tSize9 tBytes9 tAgg9 tZero9 tStr9 tIs9 tSize10 tBytes10 tAgg10 tZero10 tStr10 tIs10 tSize11 tBytes11 tAgg11 tZero11 tStr11 tIs11 tSize12 tBytes12 tAgg12 tZero12 tInt12 tIs12 tSize13 tBytes13 tAgg13 tZero13 tPlaces13 tField13_0 tField13_1 tIs13 tSize14 tBytes14 tAgg14 tZero14 tPlaces14 tField14_0 tField14_1 tIs14 tSize15 tBytes15 tAgg15 tZero15 tIs15 tSize16 tBytes16 tAgg16 tZero16 tIs16 tSize17 tBytes17 tAgg17 tZero17 tIs17 tSize18 tBytes18 tAgg18 tZero18 tPlaces18 tField18_0 tIs18 tSize19 tBytes19 tAgg19 tZero19 tPlaces19 tField19_0 tIs19 tSize21 tBytes21 tAgg21 tZero21 tInt21 tIs21 tSize22 tBytes22 tAgg22 tZero22 tElem22 tIs22 tSize23 tBytes23 tAgg23 tZero23 tPlaces23 tField23_0 tField23_1 tField23_2 tField23_3 tIs23 tSize24 tBytes24 tAgg24 tZero24 tPlaces24 tField24_0 tField24_1 tField24_2 tField24_3 tIs24 tSize25 tBytes25 tAgg25 tZero25 tElem25 tIs25 tSize26 tBytes26 tAgg26 tZero26 tElem26 tIs26 tSize27 tBytes27 tAgg27 tZero27 tPlaces27 tField27_0 tField27_1 tField27_2 tField27_3 tField27_4 tField27_5 tIs27 tSize28 tBytes28 tAgg28 tZero28 tPlaces28 tField28_0 tField28_1 tField28_2 tField28_3 tField28_4 tField28_5 tIs28 tSize31 tBytes31 tAgg31 tZero31 tInt31 tIs31 tSize34 tBytes34 tAgg34 tZero34 tElem34 tIs34 tSize42 tBytes42 tAgg42 tZero42 tPlaces42 tField42_0 tField42_1 tField42_2 tIs42 tSize43 tBytes43 tAgg43 tZero43 tPlaces43 tFlat43 tField43_0 tField43_1 tField43_2 tIs43 tSize47 tBytes47 tAgg47 tZero47 tInt47 tIs47 tSize58 tBytes58 tAgg58 tZero58 tInt58 tIs58 tSize61 tBytes61 tAgg61 tZero61 tInt61 tIs61 tSize70 tBytes70 tAgg70 tZero70 tInt70 tIs70 tSize72 tBytes72 tAgg72 tZero72 tInt72 tIs72 tSize74 tBytes74 tAgg74 tZero74 tInt74 tIs74 tSize78 tBytes78 tAgg78 tZero78 tIs78 tSize81 tBytes81 tAgg81 tZero81 tIs81 tSize85 tBytes85 tAgg85 tZero85 tPlaces85 tField85_0 tField85_1 tField85_2 tField85_3 tIs85 tSize86 tBytes86 tAgg86 tZero86 tPlaces86 tField86_0 tField86_1 tField86_2 tField86_3 tIs86 tSize87 tBytes87 tAgg87 tZero87 tPlaces87 tArr87 tIs87 tSize88 tBytes88 tAgg88 tZero88 tPlaces88 tIs88 tSize89 tBytes89 tAgg89 tZero89 tPlaces89 tIs89 tSize91 tBytes91 tAgg91 tZero91 tInt91 tIs91 tSize92 tBytes92 tAgg92 tZero92 tInt92 tIs92 tSize94 tBytes94 tAgg94 tZero94 tIs94 tSize95 tBytes95 tAgg95 tZero95 tInt95 tIs95 tSize96 tBytes96 tAgg96 tZero96 tInt96 tIs96 tSize97 tBytes97 tAgg97 tZero97 tPlaces97 tField97_0 tField97_1 tField97_2 tField97_3 tField97_4 tField97_5 tField97_6 tField97_8 tField97_9 tField97_10 tIs97 tSize98 tBytes98 tAgg98 tZero98 tPlaces98 tField98_0 tField98_1 tField98_2 tField98_3 tField98_4 tField98_5 tField98_6 tField98_8 tField98_9 tField98_10 tIs98
end Go.Proofs.Ytgpjdkbepgomhaa
