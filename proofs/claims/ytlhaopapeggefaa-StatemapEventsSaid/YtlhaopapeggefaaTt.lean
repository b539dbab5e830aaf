/- Facts on the types of the translation, each read off its table. No condition. -/
import Derived.Test.YtlhaopapeggefaaTa
import Derived.Test.YtlhaopapeggefaaChecked
import Derived.KernelRfl
namespace Go.Proofs.Ytlhaopapeggefaa
open Go Go.Abs
theorem tSize2 : tSize Try.prog 2 = some 1 := by kernel_rfl
theorem tBytes2 : tBytes Try.prog 2 = some 8 := by kernel_rfl
theorem tAgg2 : tAgg Try.prog 2 = some false := by kernel_rfl
theorem tZero2 : tZero Try.prog 2 = some (Value.int IntKind.i64 0) := by kernel_rfl
theorem tInt2 : tInt Try.prog 2 = some IntKind.i64 := by kernel_rfl
theorem tIs2 : (Try.prog.underlying 2).isSome = true := by kernel_rfl
theorem tSize3 : tSize Try.prog 3 = some 1 := by kernel_rfl
theorem tBytes3 : tBytes Try.prog 3 = some 8 := by kernel_rfl
theorem tAgg3 : tAgg Try.prog 3 = some false := by kernel_rfl
theorem tZero3 : tZero Try.prog 3 = some (Value.int IntKind.i64 0) := by kernel_rfl
theorem tInt3 : tInt Try.prog 3 = some IntKind.i64 := by kernel_rfl
theorem tIs3 : (Try.prog.underlying 3).isSome = true := by kernel_rfl
theorem tSize4 : tSize Try.prog 4 = some 1 := by kernel_rfl
theorem tBytes4 : tBytes Try.prog 4 = some 1 := by kernel_rfl
theorem tAgg4 : tAgg Try.prog 4 = some false := by kernel_rfl
theorem tZero4 : tZero Try.prog 4 = some (Value.bool false) := by kernel_rfl
theorem tIs4 : (Try.prog.underlying 4).isSome = true := by kernel_rfl
theorem tSize5 : tSize Try.prog 5 = some 1 := by kernel_rfl
theorem tBytes5 : tBytes Try.prog 5 = some 1 := by kernel_rfl
theorem tAgg5 : tAgg Try.prog 5 = some false := by kernel_rfl
theorem tZero5 : tZero Try.prog 5 = some (Value.int IntKind.u8 0) := by kernel_rfl
theorem tInt5 : tInt Try.prog 5 = some IntKind.u8 := by kernel_rfl
theorem tIs5 : (Try.prog.underlying 5).isSome = true := by kernel_rfl
theorem tSize6 : tSize Try.prog 6 = some 1 := by kernel_rfl
theorem tBytes6 : tBytes Try.prog 6 = some 1 := by kernel_rfl
theorem tAgg6 : tAgg Try.prog 6 = some false := by kernel_rfl
theorem tZero6 : tZero Try.prog 6 = some (Value.int IntKind.u8 0) := by kernel_rfl
theorem tInt6 : tInt Try.prog 6 = some IntKind.u8 := by kernel_rfl
theorem tIs6 : (Try.prog.underlying 6).isSome = true := by kernel_rfl
theorem tSize7 : tSize Try.prog 7 = some 4 := by kernel_rfl
theorem tBytes7 : tBytes Try.prog 7 = some 24 := by kernel_rfl
theorem tAgg7 : tAgg Try.prog 7 = some true := by kernel_rfl
theorem tZero7 : tZero Try.prog 7 = some (Value.agg #[(Value.int IntKind.i64 0), (Value.int IntKind.i64 0), (Value.bool false), (Value.int IntKind.u8 0)]) := by kernel_rfl
theorem tPlaces7 : tPlaces Try.prog 7 = some [(0, 1), (1, 1), (2, 1), (3, 1)] := by kernel_rfl
theorem tField7_0 : tField Try.prog 7 0 = some (0, 2) := by kernel_rfl
theorem tField7_1 : tField Try.prog 7 1 = some (1, 3) := by kernel_rfl
theorem tField7_2 : tField Try.prog 7 2 = some (2, 4) := by kernel_rfl
theorem tField7_3 : tField Try.prog 7 3 = some (3, 6) := by kernel_rfl
theorem tIs7 : (Try.prog.underlying 7).isSome = true := by kernel_rfl
theorem tSize8 : tSize Try.prog 8 = some 4 := by kernel_rfl
theorem tBytes8 : tBytes Try.prog 8 = some 24 := by kernel_rfl
theorem tAgg8 : tAgg Try.prog 8 = some true := by kernel_rfl
theorem tZero8 : tZero Try.prog 8 = some (Value.agg #[(Value.int IntKind.i64 0), (Value.int IntKind.i64 0), (Value.bool false), (Value.int IntKind.u8 0)]) := by kernel_rfl
theorem tPlaces8 : tPlaces Try.prog 8 = some [(0, 1), (1, 1), (2, 1), (3, 1)] := by kernel_rfl
theorem tField8_0 : tField Try.prog 8 0 = some (0, 2) := by kernel_rfl
theorem tField8_1 : tField Try.prog 8 1 = some (1, 3) := by kernel_rfl
theorem tField8_2 : tField Try.prog 8 2 = some (2, 4) := by kernel_rfl
theorem tField8_3 : tField Try.prog 8 3 = some (3, 6) := by kernel_rfl
theorem tIs8 : (Try.prog.underlying 8).isSome = true := by kernel_rfl
theorem tSize9 : tSize Try.prog 9 = some 1 := by kernel_rfl
theorem tBytes9 : tBytes Try.prog 9 = some 16 := by kernel_rfl
theorem tAgg9 : tAgg Try.prog 9 = some false := by kernel_rfl
theorem tZero9 : tZero Try.prog 9 = some (Value.string ⟨#[]⟩) := by kernel_rfl
theorem tStr9 : tStr Try.prog 9 = true := by kernel_rfl
theorem tIs9 : (Try.prog.underlying 9).isSome = true := by kernel_rfl
theorem tSize10 : tSize Try.prog 10 = some 1 := by kernel_rfl
theorem tBytes10 : tBytes Try.prog 10 = some 16 := by kernel_rfl
theorem tAgg10 : tAgg Try.prog 10 = some false := by kernel_rfl
theorem tZero10 : tZero Try.prog 10 = some (Value.string ⟨#[]⟩) := by kernel_rfl
theorem tStr10 : tStr Try.prog 10 = true := by kernel_rfl
theorem tIs10 : (Try.prog.underlying 10).isSome = true := by kernel_rfl
theorem tSize11 : tSize Try.prog 11 = some 1 := by kernel_rfl
theorem tBytes11 : tBytes Try.prog 11 = some 16 := by kernel_rfl
theorem tAgg11 : tAgg Try.prog 11 = some false := by kernel_rfl
theorem tZero11 : tZero Try.prog 11 = some (Value.string ⟨#[]⟩) := by kernel_rfl
theorem tStr11 : tStr Try.prog 11 = true := by kernel_rfl
theorem tIs11 : (Try.prog.underlying 11).isSome = true := by kernel_rfl
theorem tSize12 : tSize Try.prog 12 = some 1 := by kernel_rfl
theorem tBytes12 : tBytes Try.prog 12 = some 8 := by kernel_rfl
theorem tAgg12 : tAgg Try.prog 12 = some false := by kernel_rfl
theorem tZero12 : tZero Try.prog 12 = some (Value.int IntKind.u64 0) := by kernel_rfl
theorem tInt12 : tInt Try.prog 12 = some IntKind.u64 := by kernel_rfl
theorem tIs12 : (Try.prog.underlying 12).isSome = true := by kernel_rfl
theorem tSize13 : tSize Try.prog 13 = some 2 := by kernel_rfl
theorem tBytes13 : tBytes Try.prog 13 = some 24 := by kernel_rfl
theorem tAgg13 : tAgg Try.prog 13 = some true := by kernel_rfl
theorem tZero13 : tZero Try.prog 13 = some (Value.agg #[(Value.string ⟨#[]⟩), (Value.int IntKind.u64 0)]) := by kernel_rfl
theorem tPlaces13 : tPlaces Try.prog 13 = some [(0, 1), (1, 1)] := by kernel_rfl
theorem tField13_0 : tField Try.prog 13 0 = some (0, 9) := by kernel_rfl
theorem tField13_1 : tField Try.prog 13 1 = some (1, 12) := by kernel_rfl
theorem tIs13 : (Try.prog.underlying 13).isSome = true := by kernel_rfl
theorem tSize14 : tSize Try.prog 14 = some 2 := by kernel_rfl
theorem tBytes14 : tBytes Try.prog 14 = some 24 := by kernel_rfl
theorem tAgg14 : tAgg Try.prog 14 = some true := by kernel_rfl
theorem tZero14 : tZero Try.prog 14 = some (Value.agg #[(Value.string ⟨#[]⟩), (Value.int IntKind.u64 0)]) := by kernel_rfl
theorem tPlaces14 : tPlaces Try.prog 14 = some [(0, 1), (1, 1)] := by kernel_rfl
theorem tField14_0 : tField Try.prog 14 0 = some (0, 9) := by kernel_rfl
theorem tField14_1 : tField Try.prog 14 1 = some (1, 12) := by kernel_rfl
theorem tIs14 : (Try.prog.underlying 14).isSome = true := by kernel_rfl
theorem tSize15 : tSize Try.prog 15 = some 1 := by kernel_rfl
theorem tBytes15 : tBytes Try.prog 15 = some 8 := by kernel_rfl
theorem tAgg15 : tAgg Try.prog 15 = some false := by kernel_rfl
theorem tZero15 : tZero Try.prog 15 = some (Value.pointer none) := by kernel_rfl
theorem tIs15 : (Try.prog.underlying 15).isSome = true := by kernel_rfl
theorem tSize16 : tSize Try.prog 16 = some 1 := by kernel_rfl
theorem tBytes16 : tBytes Try.prog 16 = some 8 := by kernel_rfl
theorem tAgg16 : tAgg Try.prog 16 = some false := by kernel_rfl
theorem tZero16 : tZero Try.prog 16 = some (Value.pointer none) := by kernel_rfl
theorem tIs16 : (Try.prog.underlying 16).isSome = true := by kernel_rfl
theorem tSize17 : tSize Try.prog 17 = some 1 := by kernel_rfl
theorem tBytes17 : tBytes Try.prog 17 = some 8 := by kernel_rfl
theorem tAgg17 : tAgg Try.prog 17 = some false := by kernel_rfl
theorem tZero17 : tZero Try.prog 17 = some (Value.pointer none) := by kernel_rfl
theorem tIs17 : (Try.prog.underlying 17).isSome = true := by kernel_rfl
theorem tSize18 : tSize Try.prog 18 = some 1 := by kernel_rfl
theorem tBytes18 : tBytes Try.prog 18 = some 8 := by kernel_rfl
theorem tAgg18 : tAgg Try.prog 18 = some true := by kernel_rfl
theorem tZero18 : tZero Try.prog 18 = some (Value.agg #[(Value.pointer none)]) := by kernel_rfl
theorem tPlaces18 : tPlaces Try.prog 18 = some [(0, 1)] := by kernel_rfl
theorem tField18_0 : tField Try.prog 18 0 = some (0, 17) := by kernel_rfl
theorem tIs18 : (Try.prog.underlying 18).isSome = true := by kernel_rfl
theorem tSize19 : tSize Try.prog 19 = some 1 := by kernel_rfl
theorem tBytes19 : tBytes Try.prog 19 = some 8 := by kernel_rfl
theorem tAgg19 : tAgg Try.prog 19 = some true := by kernel_rfl
theorem tZero19 : tZero Try.prog 19 = some (Value.agg #[(Value.pointer none)]) := by kernel_rfl
theorem tPlaces19 : tPlaces Try.prog 19 = some [(0, 1)] := by kernel_rfl
theorem tField19_0 : tField Try.prog 19 0 = some (0, 17) := by kernel_rfl
theorem tIs19 : (Try.prog.underlying 19).isSome = true := by kernel_rfl
theorem tSize21 : tSize Try.prog 21 = some 1 := by kernel_rfl
theorem tBytes21 : tBytes Try.prog 21 = some 4 := by kernel_rfl
theorem tAgg21 : tAgg Try.prog 21 = some false := by kernel_rfl
theorem tZero21 : tZero Try.prog 21 = some (Value.int IntKind.i32 0) := by kernel_rfl
theorem tInt21 : tInt Try.prog 21 = some IntKind.i32 := by kernel_rfl
theorem tIs21 : (Try.prog.underlying 21).isSome = true := by kernel_rfl
theorem tSize22 : tSize Try.prog 22 = some 1 := by kernel_rfl
theorem tBytes22 : tBytes Try.prog 22 = some 24 := by kernel_rfl
theorem tAgg22 : tAgg Try.prog 22 = some false := by kernel_rfl
theorem tZero22 : tZero Try.prog 22 = some (Value.slice none 0 0) := by kernel_rfl
theorem tElem22 : tElem Try.prog 22 = some 30 := by kernel_rfl
theorem tIs22 : (Try.prog.underlying 22).isSome = true := by kernel_rfl
theorem tSize23 : tSize Try.prog 23 = some 1 := by kernel_rfl
theorem tBytes23 : tBytes Try.prog 23 = some 24 := by kernel_rfl
theorem tAgg23 : tAgg Try.prog 23 = some false := by kernel_rfl
theorem tZero23 : tZero Try.prog 23 = some (Value.slice none 0 0) := by kernel_rfl
theorem tElem23 : tElem Try.prog 23 = some 30 := by kernel_rfl
theorem tIs23 : (Try.prog.underlying 23).isSome = true := by kernel_rfl
theorem tSize25 : tSize Try.prog 25 = some 1 := by kernel_rfl
theorem tBytes25 : tBytes Try.prog 25 = some 8 := by kernel_rfl
theorem tAgg25 : tAgg Try.prog 25 = some false := by kernel_rfl
theorem tZero25 : tZero Try.prog 25 = some (Value.int IntKind.i64 0) := by kernel_rfl
theorem tInt25 : tInt Try.prog 25 = some IntKind.i64 := by kernel_rfl
theorem tIs25 : (Try.prog.underlying 25).isSome = true := by kernel_rfl
theorem tSize28 : tSize Try.prog 28 = some 1 := by kernel_rfl
theorem tBytes28 : tBytes Try.prog 28 = some 8 := by kernel_rfl
theorem tAgg28 : tAgg Try.prog 28 = some false := by kernel_rfl
theorem tZero28 : tZero Try.prog 28 = some (Value.int IntKind.i64 0) := by kernel_rfl
theorem tInt28 : tInt Try.prog 28 = some IntKind.i64 := by kernel_rfl
theorem tIs28 : (Try.prog.underlying 28).isSome = true := by kernel_rfl
theorem tSize29 : tSize Try.prog 29 = some 3 := by kernel_rfl
theorem tBytes29 : tBytes Try.prog 29 = some 32 := by kernel_rfl
theorem tAgg29 : tAgg Try.prog 29 = some true := by kernel_rfl
theorem tZero29 : tZero Try.prog 29 = some (Value.agg #[(Value.int IntKind.i64 0), (Value.string ⟨#[]⟩), (Value.int IntKind.i64 0)]) := by kernel_rfl
theorem tPlaces29 : tPlaces Try.prog 29 = some [(0, 1), (1, 1), (2, 1)] := by kernel_rfl
theorem tField29_0 : tField Try.prog 29 0 = some (0, 28) := by kernel_rfl
theorem tField29_1 : tField Try.prog 29 1 = some (1, 9) := by kernel_rfl
theorem tField29_2 : tField Try.prog 29 2 = some (2, 3) := by kernel_rfl
theorem tIs29 : (Try.prog.underlying 29).isSome = true := by kernel_rfl
theorem tSize30 : tSize Try.prog 30 = some 3 := by kernel_rfl
theorem tBytes30 : tBytes Try.prog 30 = some 32 := by kernel_rfl
theorem tAgg30 : tAgg Try.prog 30 = some true := by kernel_rfl
theorem tZero30 : tZero Try.prog 30 = some (Value.agg #[(Value.int IntKind.i64 0), (Value.string ⟨#[]⟩), (Value.int IntKind.i64 0)]) := by kernel_rfl
theorem tPlaces30 : tPlaces Try.prog 30 = some [(0, 1), (1, 1), (2, 1)] := by kernel_rfl
theorem tFlat30 : tFlat Try.prog 30 = some [0, 1, 0] := by kernel_rfl
theorem tField30_0 : tField Try.prog 30 0 = some (0, 28) := by kernel_rfl
theorem tField30_1 : tField Try.prog 30 1 = some (1, 9) := by kernel_rfl
theorem tField30_2 : tField Try.prog 30 2 = some (2, 3) := by kernel_rfl
theorem tIs30 : (Try.prog.underlying 30).isSome = true := by kernel_rfl
theorem tSize39 : tSize Try.prog 39 = some 1 := by kernel_rfl
theorem tBytes39 : tBytes Try.prog 39 = some 24 := by kernel_rfl
theorem tAgg39 : tAgg Try.prog 39 = some false := by kernel_rfl
theorem tZero39 : tZero Try.prog 39 = some (Value.slice none 0 0) := by kernel_rfl
theorem tElem39 : tElem Try.prog 39 = some 23 := by kernel_rfl
theorem tIs39 : (Try.prog.underlying 39).isSome = true := by kernel_rfl
theorem tSize41 : tSize Try.prog 41 = some 1 := by kernel_rfl
theorem tBytes41 : tBytes Try.prog 41 = some 24 := by kernel_rfl
theorem tAgg41 : tAgg Try.prog 41 = some false := by kernel_rfl
theorem tZero41 : tZero Try.prog 41 = some (Value.slice none 0 0) := by kernel_rfl
theorem tElem41 : tElem Try.prog 41 = some 3 := by kernel_rfl
theorem tIs41 : (Try.prog.underlying 41).isSome = true := by kernel_rfl
theorem tSize47 : tSize Try.prog 47 = some 1 := by kernel_rfl
theorem tBytes47 : tBytes Try.prog 47 = some 24 := by kernel_rfl
theorem tAgg47 : tAgg Try.prog 47 = some false := by kernel_rfl
theorem tZero47 : tZero Try.prog 47 = some (Value.slice none 0 0) := by kernel_rfl
theorem tElem47 : tElem Try.prog 47 = some 58 := by kernel_rfl
theorem tIs47 : (Try.prog.underlying 47).isSome = true := by kernel_rfl
theorem tSize48 : tSize Try.prog 48 = some 1 := by kernel_rfl
theorem tBytes48 : tBytes Try.prog 48 = some 24 := by kernel_rfl
theorem tAgg48 : tAgg Try.prog 48 = some false := by kernel_rfl
theorem tZero48 : tZero Try.prog 48 = some (Value.slice none 0 0) := by kernel_rfl
theorem tElem48 : tElem Try.prog 48 = some 9 := by kernel_rfl
theorem tIs48 : (Try.prog.underlying 48).isSome = true := by kernel_rfl
theorem tSize49 : tSize Try.prog 49 = some 1 := by kernel_rfl
theorem tBytes49 : tBytes Try.prog 49 = some 24 := by kernel_rfl
theorem tAgg49 : tAgg Try.prog 49 = some false := by kernel_rfl
theorem tZero49 : tZero Try.prog 49 = some (Value.slice none 0 0) := by kernel_rfl
theorem tElem49 : tElem Try.prog 49 = some 98 := by kernel_rfl
theorem tIs49 : (Try.prog.underlying 49).isSome = true := by kernel_rfl
theorem tSize50 : tSize Try.prog 50 = some 1 := by kernel_rfl
theorem tBytes50 : tBytes Try.prog 50 = some 24 := by kernel_rfl
theorem tAgg50 : tAgg Try.prog 50 = some false := by kernel_rfl
theorem tZero50 : tZero Try.prog 50 = some (Value.slice none 0 0) := by kernel_rfl
theorem tElem50 : tElem Try.prog 50 = some 100 := by kernel_rfl
theorem tIs50 : (Try.prog.underlying 50).isSome = true := by kernel_rfl
theorem tSize51 : tSize Try.prog 51 = some 9 := by kernel_rfl
theorem tBytes51 : tBytes Try.prog 51 = some 104 := by kernel_rfl
theorem tAgg51 : tAgg Try.prog 51 = some true := by kernel_rfl
theorem tZero51 : tZero Try.prog 51 = some (Value.agg #[(Value.slice none 0 0), (Value.slice none 0 0), (Value.int IntKind.i64 0), (Value.int IntKind.i64 0), (Value.int IntKind.i64 0), (Value.int IntKind.i64 0), (Value.int IntKind.i64 0), (Value.int IntKind.i64 0), (Value.int IntKind.i64 0)]) := by kernel_rfl
theorem tPlaces51 : tPlaces Try.prog 51 = some [(0, 1), (1, 1), (2, 1), (3, 1), (4, 1), (5, 1), (6, 1), (7, 1), (8, 1)] := by kernel_rfl
theorem tField51_0 : tField Try.prog 51 0 = some (0, 49) := by kernel_rfl
theorem tField51_1 : tField Try.prog 51 1 = some (1, 50) := by kernel_rfl
theorem tField51_2 : tField Try.prog 51 2 = some (2, 3) := by kernel_rfl
theorem tField51_3 : tField Try.prog 51 3 = some (3, 3) := by kernel_rfl
theorem tField51_4 : tField Try.prog 51 4 = some (4, 3) := by kernel_rfl
theorem tField51_5 : tField Try.prog 51 5 = some (5, 3) := by kernel_rfl
theorem tField51_6 : tField Try.prog 51 6 = some (6, 3) := by kernel_rfl
theorem tField51_7 : tField Try.prog 51 7 = some (7, 3) := by kernel_rfl
theorem tField51_8 : tField Try.prog 51 8 = some (8, 3) := by kernel_rfl
theorem tIs51 : (Try.prog.underlying 51).isSome = true := by kernel_rfl
theorem tSize52 : tSize Try.prog 52 = some 9 := by kernel_rfl
theorem tBytes52 : tBytes Try.prog 52 = some 104 := by kernel_rfl
theorem tAgg52 : tAgg Try.prog 52 = some true := by kernel_rfl
theorem tZero52 : tZero Try.prog 52 = some (Value.agg #[(Value.slice none 0 0), (Value.slice none 0 0), (Value.int IntKind.i64 0), (Value.int IntKind.i64 0), (Value.int IntKind.i64 0), (Value.int IntKind.i64 0), (Value.int IntKind.i64 0), (Value.int IntKind.i64 0), (Value.int IntKind.i64 0)]) := by kernel_rfl
theorem tPlaces52 : tPlaces Try.prog 52 = some [(0, 1), (1, 1), (2, 1), (3, 1), (4, 1), (5, 1), (6, 1), (7, 1), (8, 1)] := by kernel_rfl
theorem tField52_0 : tField Try.prog 52 0 = some (0, 49) := by kernel_rfl
theorem tField52_1 : tField Try.prog 52 1 = some (1, 50) := by kernel_rfl
theorem tField52_2 : tField Try.prog 52 2 = some (2, 3) := by kernel_rfl
theorem tField52_3 : tField Try.prog 52 3 = some (3, 3) := by kernel_rfl
theorem tField52_4 : tField Try.prog 52 4 = some (4, 3) := by kernel_rfl
theorem tField52_5 : tField Try.prog 52 5 = some (5, 3) := by kernel_rfl
theorem tField52_6 : tField Try.prog 52 6 = some (6, 3) := by kernel_rfl
theorem tField52_7 : tField Try.prog 52 7 = some (7, 3) := by kernel_rfl
theorem tField52_8 : tField Try.prog 52 8 = some (8, 3) := by kernel_rfl
theorem tIs52 : (Try.prog.underlying 52).isSome = true := by kernel_rfl
theorem tSize53 : tSize Try.prog 53 = some 16 := by kernel_rfl
theorem tBytes53 : tBytes Try.prog 53 = some 208 := by kernel_rfl
theorem tAgg53 : tAgg Try.prog 53 = some true := by kernel_rfl
theorem tZero53 : tZero Try.prog 53 = some (Value.agg #[(Value.string ⟨#[]⟩), (Value.int IntKind.i64 0), (Value.int IntKind.i64 0), (Value.bool false), (Value.string ⟨#[]⟩), (Value.slice none 0 0), (Value.slice none 0 0), (Value.slice none 0 0), (Value.slice none 0 0), (Value.int IntKind.i64 0), (Value.int IntKind.i64 0), (Value.int IntKind.i64 0), (Value.int IntKind.i64 0), (Value.int IntKind.i64 0), (Value.int IntKind.i64 0), (Value.int IntKind.i64 0)]) := by kernel_rfl
theorem tPlaces53 : tPlaces Try.prog 53 = some [(0, 1), (1, 1), (2, 1), (3, 1), (4, 1), (5, 1), (6, 1), (7, 9)] := by kernel_rfl
theorem tField53_0 : tField Try.prog 53 0 = some (0, 9) := by kernel_rfl
theorem tField53_1 : tField Try.prog 53 1 = some (1, 3) := by kernel_rfl
theorem tField53_2 : tField Try.prog 53 2 = some (2, 3) := by kernel_rfl
theorem tField53_3 : tField Try.prog 53 3 = some (3, 4) := by kernel_rfl
theorem tField53_4 : tField Try.prog 53 4 = some (4, 9) := by kernel_rfl
theorem tField53_5 : tField Try.prog 53 5 = some (5, 48) := by kernel_rfl
theorem tField53_6 : tField Try.prog 53 6 = some (6, 48) := by kernel_rfl
theorem tField53_7 : tField Try.prog 53 7 = some (7, 52) := by kernel_rfl
theorem tIs53 : (Try.prog.underlying 53).isSome = true := by kernel_rfl
theorem tSize54 : tSize Try.prog 54 = some 16 := by kernel_rfl
theorem tBytes54 : tBytes Try.prog 54 = some 208 := by kernel_rfl
theorem tAgg54 : tAgg Try.prog 54 = some true := by kernel_rfl
theorem tZero54 : tZero Try.prog 54 = some (Value.agg #[(Value.string ⟨#[]⟩), (Value.int IntKind.i64 0), (Value.int IntKind.i64 0), (Value.bool false), (Value.string ⟨#[]⟩), (Value.slice none 0 0), (Value.slice none 0 0), (Value.slice none 0 0), (Value.slice none 0 0), (Value.int IntKind.i64 0), (Value.int IntKind.i64 0), (Value.int IntKind.i64 0), (Value.int IntKind.i64 0), (Value.int IntKind.i64 0), (Value.int IntKind.i64 0), (Value.int IntKind.i64 0)]) := by kernel_rfl
theorem tPlaces54 : tPlaces Try.prog 54 = some [(0, 1), (1, 1), (2, 1), (3, 1), (4, 1), (5, 1), (6, 1), (7, 9)] := by kernel_rfl
theorem tField54_0 : tField Try.prog 54 0 = some (0, 9) := by kernel_rfl
theorem tField54_1 : tField Try.prog 54 1 = some (1, 3) := by kernel_rfl
theorem tField54_2 : tField Try.prog 54 2 = some (2, 3) := by kernel_rfl
theorem tField54_3 : tField Try.prog 54 3 = some (3, 4) := by kernel_rfl
theorem tField54_4 : tField Try.prog 54 4 = some (4, 9) := by kernel_rfl
theorem tField54_5 : tField Try.prog 54 5 = some (5, 48) := by kernel_rfl
theorem tField54_6 : tField Try.prog 54 6 = some (6, 48) := by kernel_rfl
theorem tField54_7 : tField Try.prog 54 7 = some (7, 52) := by kernel_rfl
theorem tIs54 : (Try.prog.underlying 54).isSome = true := by kernel_rfl
theorem tSize55 : tSize Try.prog 55 = some 2 := by kernel_rfl
theorem tBytes55 : tBytes Try.prog 55 = some 24 := by kernel_rfl
theorem tAgg55 : tAgg Try.prog 55 = some true := by kernel_rfl
theorem tZero55 : tZero Try.prog 55 = some (Value.agg #[(Value.string ⟨#[]⟩), (Value.int IntKind.i64 0)]) := by kernel_rfl
theorem tPlaces55 : tPlaces Try.prog 55 = some [(0, 1), (1, 1)] := by kernel_rfl
theorem tField55_0 : tField Try.prog 55 0 = some (0, 9) := by kernel_rfl
theorem tField55_1 : tField Try.prog 55 1 = some (1, 3) := by kernel_rfl
theorem tIs55 : (Try.prog.underlying 55).isSome = true := by kernel_rfl
theorem tSize56 : tSize Try.prog 56 = some 2 := by kernel_rfl
theorem tBytes56 : tBytes Try.prog 56 = some 24 := by kernel_rfl
theorem tAgg56 : tAgg Try.prog 56 = some true := by kernel_rfl
theorem tZero56 : tZero Try.prog 56 = some (Value.agg #[(Value.string ⟨#[]⟩), (Value.int IntKind.i64 0)]) := by kernel_rfl
theorem tPlaces56 : tPlaces Try.prog 56 = some [(0, 1), (1, 1)] := by kernel_rfl
theorem tFlat56 : tFlat Try.prog 56 = some [1, 0] := by kernel_rfl
theorem tField56_0 : tField Try.prog 56 0 = some (0, 9) := by kernel_rfl
theorem tField56_1 : tField Try.prog 56 1 = some (1, 3) := by kernel_rfl
theorem tIs56 : (Try.prog.underlying 56).isSome = true := by kernel_rfl
theorem tSize57 : tSize Try.prog 57 = some 29 := by kernel_rfl
theorem tBytes57 : tBytes Try.prog 57 = some 376 := by kernel_rfl
theorem tAgg57 : tAgg Try.prog 57 = some true := by kernel_rfl
theorem tZero57 : tZero Try.prog 57 = some (Value.agg #[(Value.int IntKind.i64 0), (Value.string ⟨#[]⟩), (Value.string ⟨#[]⟩), (Value.int IntKind.i64 0), (Value.bool false), (Value.string ⟨#[]⟩), (Value.int IntKind.i64 0), (Value.int IntKind.i64 0), (Value.slice none 0 0), (Value.slice none 0 0), (Value.string ⟨#[]⟩), (Value.int IntKind.i64 0), (Value.int IntKind.i64 0), (Value.bool false), (Value.string ⟨#[]⟩), (Value.slice none 0 0), (Value.slice none 0 0), (Value.slice none 0 0), (Value.slice none 0 0), (Value.int IntKind.i64 0), (Value.int IntKind.i64 0), (Value.int IntKind.i64 0), (Value.int IntKind.i64 0), (Value.int IntKind.i64 0), (Value.int IntKind.i64 0), (Value.int IntKind.i64 0), (Value.int IntKind.i64 0), (Value.string ⟨#[]⟩), (Value.int IntKind.i64 0)]) := by kernel_rfl
theorem tPlaces57 : tPlaces Try.prog 57 = some [(0, 1), (1, 1), (2, 1), (3, 1), (4, 1), (5, 1), (6, 1), (7, 1), (8, 1), (9, 1), (10, 16), (26, 1), (27, 2)] := by kernel_rfl
theorem tField57_0 : tField Try.prog 57 0 = some (0, 3) := by kernel_rfl
theorem tField57_1 : tField Try.prog 57 1 = some (1, 9) := by kernel_rfl
theorem tField57_2 : tField Try.prog 57 2 = some (2, 9) := by kernel_rfl
theorem tField57_3 : tField Try.prog 57 3 = some (3, 28) := by kernel_rfl
theorem tField57_4 : tField Try.prog 57 4 = some (4, 4) := by kernel_rfl
theorem tField57_5 : tField Try.prog 57 5 = some (5, 9) := by kernel_rfl
theorem tField57_6 : tField Try.prog 57 6 = some (6, 3) := by kernel_rfl
theorem tField57_7 : tField Try.prog 57 7 = some (7, 3) := by kernel_rfl
theorem tField57_8 : tField Try.prog 57 8 = some (8, 41) := by kernel_rfl
theorem tField57_9 : tField Try.prog 57 9 = some (9, 41) := by kernel_rfl
theorem tField57_10 : tField Try.prog 57 10 = some (10, 54) := by kernel_rfl
theorem tField57_11 : tField Try.prog 57 11 = some (26, 3) := by kernel_rfl
theorem tField57_12 : tField Try.prog 57 12 = some (27, 56) := by kernel_rfl
theorem tIs57 : (Try.prog.underlying 57).isSome = true := by kernel_rfl
theorem tSize58 : tSize Try.prog 58 = some 29 := by kernel_rfl
theorem tBytes58 : tBytes Try.prog 58 = some 376 := by kernel_rfl
theorem tAgg58 : tAgg Try.prog 58 = some true := by kernel_rfl
theorem tZero58 : tZero Try.prog 58 = some (Value.agg #[(Value.int IntKind.i64 0), (Value.string ⟨#[]⟩), (Value.string ⟨#[]⟩), (Value.int IntKind.i64 0), (Value.bool false), (Value.string ⟨#[]⟩), (Value.int IntKind.i64 0), (Value.int IntKind.i64 0), (Value.slice none 0 0), (Value.slice none 0 0), (Value.string ⟨#[]⟩), (Value.int IntKind.i64 0), (Value.int IntKind.i64 0), (Value.bool false), (Value.string ⟨#[]⟩), (Value.slice none 0 0), (Value.slice none 0 0), (Value.slice none 0 0), (Value.slice none 0 0), (Value.int IntKind.i64 0), (Value.int IntKind.i64 0), (Value.int IntKind.i64 0), (Value.int IntKind.i64 0), (Value.int IntKind.i64 0), (Value.int IntKind.i64 0), (Value.int IntKind.i64 0), (Value.int IntKind.i64 0), (Value.string ⟨#[]⟩), (Value.int IntKind.i64 0)]) := by kernel_rfl
theorem tPlaces58 : tPlaces Try.prog 58 = some [(0, 1), (1, 1), (2, 1), (3, 1), (4, 1), (5, 1), (6, 1), (7, 1), (8, 1), (9, 1), (10, 16), (26, 1), (27, 2)] := by kernel_rfl
theorem tField58_0 : tField Try.prog 58 0 = some (0, 3) := by kernel_rfl
theorem tField58_1 : tField Try.prog 58 1 = some (1, 9) := by kernel_rfl
theorem tField58_2 : tField Try.prog 58 2 = some (2, 9) := by kernel_rfl
theorem tField58_3 : tField Try.prog 58 3 = some (3, 28) := by kernel_rfl
theorem tField58_4 : tField Try.prog 58 4 = some (4, 4) := by kernel_rfl
theorem tField58_5 : tField Try.prog 58 5 = some (5, 9) := by kernel_rfl
theorem tField58_6 : tField Try.prog 58 6 = some (6, 3) := by kernel_rfl
theorem tField58_7 : tField Try.prog 58 7 = some (7, 3) := by kernel_rfl
theorem tField58_8 : tField Try.prog 58 8 = some (8, 41) := by kernel_rfl
theorem tField58_9 : tField Try.prog 58 9 = some (9, 41) := by kernel_rfl
theorem tField58_10 : tField Try.prog 58 10 = some (10, 54) := by kernel_rfl
theorem tField58_11 : tField Try.prog 58 11 = some (26, 3) := by kernel_rfl
theorem tField58_12 : tField Try.prog 58 12 = some (27, 56) := by kernel_rfl
theorem tIs58 : (Try.prog.underlying 58).isSome = true := by kernel_rfl
theorem tSize80 : tSize Try.prog 80 = some 1 := by kernel_rfl
theorem tBytes80 : tBytes Try.prog 80 = some 8 := by kernel_rfl
theorem tAgg80 : tAgg Try.prog 80 = some false := by kernel_rfl
theorem tZero80 : tZero Try.prog 80 = some (Value.int IntKind.u64 0) := by kernel_rfl
theorem tInt80 : tInt Try.prog 80 = some IntKind.u64 := by kernel_rfl
theorem tIs80 : (Try.prog.underlying 80).isSome = true := by kernel_rfl
theorem tSize86 : tSize Try.prog 86 = some 1 := by kernel_rfl
theorem tBytes86 : tBytes Try.prog 86 = some 8 := by kernel_rfl
theorem tAgg86 : tAgg Try.prog 86 = some false := by kernel_rfl
theorem tZero86 : tZero Try.prog 86 = some (Value.int IntKind.i64 0) := by kernel_rfl
theorem tInt86 : tInt Try.prog 86 = some IntKind.i64 := by kernel_rfl
theorem tIs86 : (Try.prog.underlying 86).isSome = true := by kernel_rfl
theorem tSize94 : tSize Try.prog 94 = some 1 := by kernel_rfl
theorem tBytes94 : tBytes Try.prog 94 = some 4 := by kernel_rfl
theorem tAgg94 : tAgg Try.prog 94 = some false := by kernel_rfl
theorem tZero94 : tZero Try.prog 94 = some (Value.int IntKind.u32 0) := by kernel_rfl
theorem tInt94 : tInt Try.prog 94 = some IntKind.u32 := by kernel_rfl
theorem tIs94 : (Try.prog.underlying 94).isSome = true := by kernel_rfl
theorem tSize96 : tSize Try.prog 96 = some 1 := by kernel_rfl
theorem tBytes96 : tBytes Try.prog 96 = some 8 := by kernel_rfl
theorem tAgg96 : tAgg Try.prog 96 = some false := by kernel_rfl
theorem tZero96 : tZero Try.prog 96 = some (Value.int IntKind.u64 0) := by kernel_rfl
theorem tInt96 : tInt Try.prog 96 = some IntKind.u64 := by kernel_rfl
theorem tIs96 : (Try.prog.underlying 96).isSome = true := by kernel_rfl
theorem tSize97 : tSize Try.prog 97 = some 2 := by kernel_rfl
theorem tBytes97 : tBytes Try.prog 97 = some 24 := by kernel_rfl
theorem tAgg97 : tAgg Try.prog 97 = some true := by kernel_rfl
theorem tZero97 : tZero Try.prog 97 = some (Value.agg #[(Value.string ⟨#[]⟩), (Value.int IntKind.i64 0)]) := by kernel_rfl
theorem tPlaces97 : tPlaces Try.prog 97 = some [(0, 1), (1, 1)] := by kernel_rfl
theorem tField97_0 : tField Try.prog 97 0 = some (0, 9) := by kernel_rfl
theorem tField97_1 : tField Try.prog 97 1 = some (1, 3) := by kernel_rfl
theorem tIs97 : (Try.prog.underlying 97).isSome = true := by kernel_rfl
theorem tSize98 : tSize Try.prog 98 = some 2 := by kernel_rfl
theorem tBytes98 : tBytes Try.prog 98 = some 24 := by kernel_rfl
theorem tAgg98 : tAgg Try.prog 98 = some true := by kernel_rfl
theorem tZero98 : tZero Try.prog 98 = some (Value.agg #[(Value.string ⟨#[]⟩), (Value.int IntKind.i64 0)]) := by kernel_rfl
theorem tPlaces98 : tPlaces Try.prog 98 = some [(0, 1), (1, 1)] := by kernel_rfl
theorem tFlat98 : tFlat Try.prog 98 = some [1, 0] := by kernel_rfl
theorem tField98_0 : tField Try.prog 98 0 = some (0, 9) := by kernel_rfl
theorem tField98_1 : tField Try.prog 98 1 = some (1, 3) := by kernel_rfl
theorem tIs98 : (Try.prog.underlying 98).isSome = true := by kernel_rfl
theorem tSize99 : tSize Try.prog 99 = some 2 := by kernel_rfl
theorem tBytes99 : tBytes Try.prog 99 = some 16 := by kernel_rfl
theorem tAgg99 : tAgg Try.prog 99 = some true := by kernel_rfl
theorem tZero99 : tZero Try.prog 99 = some (Value.agg #[(Value.int IntKind.i64 0), (Value.int IntKind.i64 0)]) := by kernel_rfl
theorem tPlaces99 : tPlaces Try.prog 99 = some [(0, 1), (1, 1)] := by kernel_rfl
theorem tField99_0 : tField Try.prog 99 0 = some (0, 28) := by kernel_rfl
theorem tField99_1 : tField Try.prog 99 1 = some (1, 3) := by kernel_rfl
theorem tIs99 : (Try.prog.underlying 99).isSome = true := by kernel_rfl
theorem tSize100 : tSize Try.prog 100 = some 2 := by kernel_rfl
theorem tBytes100 : tBytes Try.prog 100 = some 16 := by kernel_rfl
theorem tAgg100 : tAgg Try.prog 100 = some true := by kernel_rfl
theorem tZero100 : tZero Try.prog 100 = some (Value.agg #[(Value.int IntKind.i64 0), (Value.int IntKind.i64 0)]) := by kernel_rfl
theorem tPlaces100 : tPlaces Try.prog 100 = some [(0, 1), (1, 1)] := by kernel_rfl
theorem tFlat100 : tFlat Try.prog 100 = some [0, 0] := by kernel_rfl
theorem tField100_0 : tField Try.prog 100 0 = some (0, 28) := by kernel_rfl
theorem tField100_1 : tField Try.prog 100 1 = some (1, 3) := by kernel_rfl
theorem tIs100 : (Try.prog.underlying 100).isSome = true := by kernel_rfl
theorem tSize101 : tSize Try.prog 101 = some 1 := by kernel_rfl
theorem tBytes101 : tBytes Try.prog 101 = some 8 := by kernel_rfl
theorem tAgg101 : tAgg Try.prog 101 = some false := by kernel_rfl
theorem tZero101 : tZero Try.prog 101 = some (Value.int IntKind.u64 0) := by kernel_rfl
theorem tInt101 : tInt Try.prog 101 = some IntKind.u64 := by kernel_rfl
theorem tIs101 : (Try.prog.underlying 101).isSome = true := by kernel_rfl
theorem tSize105 : tSize Try.prog 105 = some 1 := by kernel_rfl
theorem tBytes105 : tBytes Try.prog 105 = some 8 := by kernel_rfl
theorem tAgg105 : tAgg Try.prog 105 = some false := by kernel_rfl
theorem tZero105 : tZero Try.prog 105 = some (Value.pointer none) := by kernel_rfl
theorem tIs105 : (Try.prog.underlying 105).isSome = true := by kernel_rfl
theorem tSize108 : tSize Try.prog 108 = some 1 := by kernel_rfl
theorem tBytes108 : tBytes Try.prog 108 = some 8 := by kernel_rfl
theorem tAgg108 : tAgg Try.prog 108 = some false := by kernel_rfl
theorem tZero108 : tZero Try.prog 108 = some (Value.pointer none) := by kernel_rfl
theorem tIs108 : (Try.prog.underlying 108).isSome = true := by kernel_rfl
theorem tSize112 : tSize Try.prog 112 = some 4 := by kernel_rfl
theorem tBytes112 : tBytes Try.prog 112 = some 40 := by kernel_rfl
theorem tAgg112 : tAgg Try.prog 112 = some true := by kernel_rfl
theorem tZero112 : tZero Try.prog 112 = some (Value.agg #[(Value.pointer none), (Value.pointer none), (Value.pointer none), (Value.string ⟨#[]⟩)]) := by kernel_rfl
theorem tPlaces112 : tPlaces Try.prog 112 = some [(0, 1), (1, 1), (2, 1), (3, 1)] := by kernel_rfl
theorem tField112_0 : tField Try.prog 112 0 = some (0, 17) := by kernel_rfl
theorem tField112_1 : tField Try.prog 112 1 = some (1, 17) := by kernel_rfl
theorem tField112_2 : tField Try.prog 112 2 = some (2, 17) := by kernel_rfl
theorem tField112_3 : tField Try.prog 112 3 = some (3, 9) := by kernel_rfl
theorem tIs112 : (Try.prog.underlying 112).isSome = true := by kernel_rfl
theorem tSize113 : tSize Try.prog 113 = some 4 := by kernel_rfl
theorem tBytes113 : tBytes Try.prog 113 = some 40 := by kernel_rfl
theorem tAgg113 : tAgg Try.prog 113 = some true := by kernel_rfl
theorem tZero113 : tZero Try.prog 113 = some (Value.agg #[(Value.pointer none), (Value.pointer none), (Value.pointer none), (Value.string ⟨#[]⟩)]) := by kernel_rfl
theorem tPlaces113 : tPlaces Try.prog 113 = some [(0, 1), (1, 1), (2, 1), (3, 1)] := by kernel_rfl
theorem tField113_0 : tField Try.prog 113 0 = some (0, 17) := by kernel_rfl
theorem tField113_1 : tField Try.prog 113 1 = some (1, 17) := by kernel_rfl
theorem tField113_2 : tField Try.prog 113 2 = some (2, 17) := by kernel_rfl
theorem tField113_3 : tField Try.prog 113 3 = some (3, 9) := by kernel_rfl
theorem tIs113 : (Try.prog.underlying 113).isSome = true := by kernel_rfl
theorem tSize114 : tSize Try.prog 114 = some 0 := by kernel_rfl
theorem tBytes114 : tBytes Try.prog 114 = some 0 := by kernel_rfl
theorem tAgg114 : tAgg Try.prog 114 = some true := by kernel_rfl
theorem tZero114 : tZero Try.prog 114 = some (Value.agg #[]) := by kernel_rfl
theorem tPlaces114 : tPlaces Try.prog 114 = none := by kernel_rfl
theorem tArr114 : tArr Try.prog 114 = some (0, 1) := by kernel_rfl
theorem tIs114 : (Try.prog.underlying 114).isSome = true := by kernel_rfl
theorem tSize115 : tSize Try.prog 115 = some 0 := by kernel_rfl
theorem tBytes115 : tBytes Try.prog 115 = some 0 := by kernel_rfl
theorem tAgg115 : tAgg Try.prog 115 = some true := by kernel_rfl
theorem tZero115 : tZero Try.prog 115 = some (Value.agg #[]) := by kernel_rfl
theorem tPlaces115 : tPlaces Try.prog 115 = some [(0, 0)] := by kernel_rfl
theorem tIs115 : (Try.prog.underlying 115).isSome = true := by kernel_rfl
theorem tSize116 : tSize Try.prog 116 = some 0 := by kernel_rfl
theorem tBytes116 : tBytes Try.prog 116 = some 0 := by kernel_rfl
theorem tAgg116 : tAgg Try.prog 116 = some true := by kernel_rfl
theorem tZero116 : tZero Try.prog 116 = some (Value.agg #[]) := by kernel_rfl
theorem tPlaces116 : tPlaces Try.prog 116 = some [(0, 0)] := by kernel_rfl
theorem tIs116 : (Try.prog.underlying 116).isSome = true := by kernel_rfl
theorem tSize118 : tSize Try.prog 118 = some 1 := by kernel_rfl
theorem tBytes118 : tBytes Try.prog 118 = some 1 := by kernel_rfl
theorem tAgg118 : tAgg Try.prog 118 = some false := by kernel_rfl
theorem tZero118 : tZero Try.prog 118 = some (Value.int IntKind.u8 0) := by kernel_rfl
theorem tInt118 : tInt Try.prog 118 = some IntKind.u8 := by kernel_rfl
theorem tIs118 : (Try.prog.underlying 118).isSome = true := by kernel_rfl
theorem tSize119 : tSize Try.prog 119 = some 1 := by kernel_rfl
theorem tBytes119 : tBytes Try.prog 119 = some 1 := by kernel_rfl
theorem tAgg119 : tAgg Try.prog 119 = some false := by kernel_rfl
theorem tZero119 : tZero Try.prog 119 = some (Value.int IntKind.u8 0) := by kernel_rfl
theorem tInt119 : tInt Try.prog 119 = some IntKind.u8 := by kernel_rfl
theorem tIs119 : (Try.prog.underlying 119).isSome = true := by kernel_rfl
theorem tSize121 : tSize Try.prog 121 = some 1 := by kernel_rfl
theorem tBytes121 : tBytes Try.prog 121 = some 8 := by kernel_rfl
theorem tAgg121 : tAgg Try.prog 121 = some false := by kernel_rfl
theorem tZero121 : tZero Try.prog 121 = some (Value.pointer none) := by kernel_rfl
theorem tIs121 : (Try.prog.underlying 121).isSome = true := by kernel_rfl
theorem tSize122 : tSize Try.prog 122 = some 1 := by kernel_rfl
theorem tBytes122 : tBytes Try.prog 122 = some 4 := by kernel_rfl
theorem tAgg122 : tAgg Try.prog 122 = some false := by kernel_rfl
theorem tZero122 : tZero Try.prog 122 = some (Value.int IntKind.i32 0) := by kernel_rfl
theorem tInt122 : tInt Try.prog 122 = some IntKind.i32 := by kernel_rfl
theorem tIs122 : (Try.prog.underlying 122).isSome = true := by kernel_rfl
theorem tSize123 : tSize Try.prog 123 = some 1 := by kernel_rfl
theorem tBytes123 : tBytes Try.prog 123 = some 4 := by kernel_rfl
theorem tAgg123 : tAgg Try.prog 123 = some false := by kernel_rfl
theorem tZero123 : tZero Try.prog 123 = some (Value.int IntKind.i32 0) := by kernel_rfl
theorem tInt123 : tInt Try.prog 123 = some IntKind.i32 := by kernel_rfl
theorem tIs123 : (Try.prog.underlying 123).isSome = true := by kernel_rfl
theorem tSize124 : tSize Try.prog 124 = some 11 := by kernel_rfl
theorem tBytes124 : tBytes Try.prog 124 = some 48 := by kernel_rfl
theorem tAgg124 : tAgg Try.prog 124 = some true := by kernel_rfl
theorem tZero124 : tZero Try.prog 124 = some (Value.agg #[(Value.int IntKind.u64 0), (Value.int IntKind.u64 0), (Value.int IntKind.u32 0), (Value.int IntKind.u8 0), (Value.int IntKind.u8 0), (Value.int IntKind.u8 0), (Value.int IntKind.u8 0), Value.nilFunc, (Value.pointer none), (Value.int IntKind.i32 0), (Value.int IntKind.i32 0)]) := by kernel_rfl
theorem tPlaces124 : tPlaces Try.prog 124 = some [(0, 1), (1, 1), (2, 1), (3, 1), (4, 1), (5, 1), (6, 1), (7, 1), (8, 1), (9, 1), (10, 1)] := by kernel_rfl
theorem tField124_0 : tField Try.prog 124 0 = some (0, 12) := by kernel_rfl
theorem tField124_1 : tField Try.prog 124 1 = some (1, 12) := by kernel_rfl
theorem tField124_2 : tField Try.prog 124 2 = some (2, 94) := by kernel_rfl
theorem tField124_3 : tField Try.prog 124 3 = some (3, 118) := by kernel_rfl
theorem tField124_4 : tField Try.prog 124 4 = some (4, 5) := by kernel_rfl
theorem tField124_5 : tField Try.prog 124 5 = some (5, 5) := by kernel_rfl
theorem tField124_6 : tField Try.prog 124 6 = some (6, 119) := by kernel_rfl
theorem tField124_8 : tField Try.prog 124 8 = some (8, 121) := by kernel_rfl
theorem tField124_9 : tField Try.prog 124 9 = some (9, 122) := by kernel_rfl
theorem tField124_10 : tField Try.prog 124 10 = some (10, 123) := by kernel_rfl
theorem tIs124 : (Try.prog.underlying 124).isSome = true := by kernel_rfl
theorem tSize125 : tSize Try.prog 125 = some 11 := by kernel_rfl
theorem tBytes125 : tBytes Try.prog 125 = some 48 := by kernel_rfl
theorem tAgg125 : tAgg Try.prog 125 = some true := by kernel_rfl
theorem tZero125 : tZero Try.prog 125 = some (Value.agg #[(Value.int IntKind.u64 0), (Value.int IntKind.u64 0), (Value.int IntKind.u32 0), (Value.int IntKind.u8 0), (Value.int IntKind.u8 0), (Value.int IntKind.u8 0), (Value.int IntKind.u8 0), Value.nilFunc, (Value.pointer none), (Value.int IntKind.i32 0), (Value.int IntKind.i32 0)]) := by kernel_rfl
theorem tPlaces125 : tPlaces Try.prog 125 = some [(0, 1), (1, 1), (2, 1), (3, 1), (4, 1), (5, 1), (6, 1), (7, 1), (8, 1), (9, 1), (10, 1)] := by kernel_rfl
theorem tField125_0 : tField Try.prog 125 0 = some (0, 12) := by kernel_rfl
theorem tField125_1 : tField Try.prog 125 1 = some (1, 12) := by kernel_rfl
theorem tField125_2 : tField Try.prog 125 2 = some (2, 94) := by kernel_rfl
theorem tField125_3 : tField Try.prog 125 3 = some (3, 118) := by kernel_rfl
theorem tField125_4 : tField Try.prog 125 4 = some (4, 5) := by kernel_rfl
theorem tField125_5 : tField Try.prog 125 5 = some (5, 5) := by kernel_rfl
theorem tField125_6 : tField Try.prog 125 6 = some (6, 119) := by kernel_rfl
theorem tField125_8 : tField Try.prog 125 8 = some (8, 121) := by kernel_rfl
theorem tField125_9 : tField Try.prog 125 9 = some (9, 122) := by kernel_rfl
theorem tField125_10 : tField Try.prog 125 10 = some (10, 123) := by kernel_rfl
theorem tIs125 : (Try.prog.underlying 125).isSome = true := by kernel_rfl
attribute [go_sem] tSize2 tBytes2 tAgg2 tZero2 tInt2 tIs2 tSize3 tBytes3 tAgg3 tZero3 tInt3 tIs3 tSize4 tBytes4 tAgg4 tZero4 tIs4 tSize5 tBytes5 tAgg5 tZero5 tInt5 tIs5 tSize6 tBytes6 tAgg6 tZero6 tInt6 tIs6 tSize7 tBytes7 tAgg7 tZero7 tPlaces7 tField7_0 tField7_1 tField7_2 tField7_3 tIs7 tSize8 tBytes8 tAgg8 tZero8 tPlaces8 tField8_0 tField8_1 tField8_2 tField8_3 tIs8 tSize9 tBytes9 tAgg9 tZero9 tStr9 tIs9 tSize10 tBytes10 tAgg10 tZero10 tStr10 tIs10 tSize11 tBytes11 tAgg11 tZero11 tStr11 tIs11 tSize12 tBytes12 tAgg12 tZero12 tInt12 tIs12 tSize13 tBytes13 tAgg13 tZero13 tPlaces13 tField13_0 tField13_1 tIs13 tSize14 tBytes14 tAgg14 tZero14 tPlaces14 tField14_0 tField14_1 tIs14 tSize15 tBytes15 tAgg15 tZero15 tIs15 tSize16 tBytes16 tAgg16 tZero16 tIs16 tSize17 tBytes17 tAgg17 tZero17 tIs17 tSize18 tBytes18 tAgg18 tZero18 tPlaces18 tField18_0 tIs18 tSize19 tBytes19 tAgg19 tZero19 tPlaces19 tField19_0 tIs19 tSize21 tBytes21 tAgg21 tZero21 tInt21 tIs21 tSize22 tBytes22 tAgg22 tZero22 tElem22 tIs22 tSize23 tBytes23 tAgg23 tZero23 tElem23 tIs23 tSize25 tBytes25 tAgg25 tZero25 tInt25 tIs25 tSize28 tBytes28 tAgg28 tZero28 tInt28 tIs28 tSize29 tBytes29 tAgg29 tZero29 tPlaces29 tField29_0 tField29_1 tField29_2 tIs29 tSize30 tBytes30 tAgg30 tZero30 tPlaces30 tFlat30 tField30_0 tField30_1 tField30_2 tIs30 tSize39 tBytes39 tAgg39 tZero39 tElem39 tIs39 tSize41 tBytes41 tAgg41 tZero41 tElem41 tIs41 tSize47 tBytes47 tAgg47 tZero47 tElem47 tIs47 tSize48 tBytes48 tAgg48 tZero48 tElem48 tIs48 tSize49 tBytes49 tAgg49 tZero49 tElem49 tIs49 tSize50 tBytes50 tAgg50 tZero50 tElem50 tIs50 tSize51 tBytes51 tAgg51 tZero51 tPlaces51 tField51_0 tField51_1 tField51_2 tField51_3 tField51_4 tField51_5 tField51_6 tField51_7 tField51_8 tIs51 tSize52 tBytes52 tAgg52 tZero52 tPlaces52 tField52_0 tField52_1 tField52_2 tField52_3 tField52_4 tField52_5 tField52_6 tField52_7 tField52_8 tIs52 tSize53 tBytes53 tAgg53 tZero53 tPlaces53 tField53_0 tField53_1 tField53_2 tField53_3 tField53_4 tField53_5 tField53_6 tField53_7 tIs53 tSize54 tBytes54 tAgg54 tZero54 tPlaces54 tField54_0 tField54_1 tField54_2 tField54_3 tField54_4 tField54_5 tField54_6 tField54_7 tIs54 tSize55 tBytes55 tAgg55 tZero55 tPlaces55 tField55_0 tField55_1 tIs55 tSize56 tBytes56 tAgg56 tZero56 tPlaces56 tFlat56 tField56_0 tField56_1 tIs56 tSize57 tBytes57 tAgg57 tZero57 tPlaces57 tField57_0 tField57_1 tField57_2 tField57_3 tField57_4 tField57_5 tField57_6 tField57_7 tField57_8 tField57_9 tField57_10 tField57_11 tField57_12 tIs57 tSize58 tBytes58 tAgg58 tZero58 tPlaces58 tField58_0 tField58_1 tField58_2 tField58_3 tField58_4 tField58_5 tField58_6 tField58_7 tField58_8 tField58_9 tField58_10 tField58_11 tField58_12 tIs58 tSize80 tBytes80 tAgg80 tZero80 tInt80 tIs80 tSize86 tBytes86 tAgg86 tZero86 tInt86 tIs86 tSize94 tBytes94 tAgg94 tZero94 tInt94 tIs94 tSize96 tBytes96 tAgg96 tZero96 tInt96 tIs96 tSize97 tBytes97 tAgg97 tZero97 tPlaces97 tField97_0 tField97_1 tIs97 tSize98 tBytes98 tAgg98 tZero98 tPlaces98 tFlat98 tField98_0 tField98_1 tIs98 tSize99 tBytes99 tAgg99 tZero99 tPlaces99 tField99_0 tField99_1 tIs99 tSize100 tBytes100 tAgg100 tZero100 tPlaces100 tFlat100 tField100_0 tField100_1 tIs100 tSize101 tBytes101 tAgg101 tZero101 tInt101 tIs101 tSize105 tBytes105 tAgg105 tZero105 tIs105 tSize108 tBytes108 tAgg108 tZero108 tIs108 tSize112 tBytes112 tAgg112 tZero112 tPlaces112 tField112_0 tField112_1 tField112_2 tField112_3 tIs112 tSize113 tBytes113 tAgg113 tZero113 tPlaces113 tField113_0 tField113_1 tField113_2 tField113_3 tIs113 tSize114 tBytes114 tAgg114 tZero114 tPlaces114 tArr114 tIs114 tSize115 tBytes115 tAgg115 tZero115 tPlaces115 tIs115 tSize116 tBytes116 tAgg116 tZero116 tPlaces116 tIs116 tSize118 tBytes118 tAgg118 tZero118 tInt118 tIs118 tSize119 tBytes119 tAgg119 tZero119 tInt119 tIs119 tSize121 tBytes121 tAgg121 tZero121 tIs121 tSize122 tBytes122 tAgg122 tZero122 tInt122 tIs122 tSize123 tBytes123 tAgg123 tZero123 tInt123 tIs123 tSize124 tBytes124 tAgg124 tZero124 tPlaces124 tField124_0 tField124_1 tField124_2 tField124_3 tField124_4 tField124_5 tField124_6 tField124_8 tField124_9 tField124_10 tIs124 tSize125 tBytes125 tAgg125 tZero125 tPlaces125 tField125_0 tField125_1 tField125_2 tField125_3 tField125_4 tField125_5 tField125_6 tField125_8 tField125_9 tField125_10 tIs125
end Go.Proofs.Ytlhaopapeggefaa
