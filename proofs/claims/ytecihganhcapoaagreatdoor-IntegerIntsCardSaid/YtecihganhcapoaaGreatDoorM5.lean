/- Part 5 of the proof: a small machine, its soundness against the model, and what the program's functions compute on it. -/
import Derived.Test.YtecihganhcapoaaGreatDoorM4
import Derived.Test.YtecihganhcapoaaGreatDoorProg
import Derived.KernelRfl
import Derived.Test.YtecihganhcapoaaGreatDoorM3
import Derived.Test.YtecihganhcapoaaGreatDoorM0
import Derived.RowKit
set_option linter.unusedVariables false
set_option linter.unusedSimpArgs false
set_option maxRecDepth 100000
namespace Go.AM
open Go Go.Proofs


def gantryref01_Take : CF := ⟨2, .seq (.seq (.reg [⟨some 4, .mov (.c (.z true)), none⟩] []) <|
 .keep [0, 1] []) <|
 .seq (.seq (.reg [⟨some 5, .mov (.c (.z true)), none⟩] []) <|
 .keep [0, 1, 5] []) <|
 .seq (.seq (.reg [⟨some 6, .mov (.t 5), none⟩,
 ⟨some 7, .mov (.t 0), none⟩,
 ⟨some 8, .mov (.t 0), none⟩,
 ⟨some 9, .len (.t 8), none⟩,
 ⟨some 10, .mov (.t 1), none⟩,
 ⟨some 11, .mn [(.t 9), (.t 10)], none⟩,
 ⟨some 12, .slc 1 (.t 7) none (some (.t 11)) none, none⟩,
 ⟨some 13, .app 1 8 (.t 6) (.t 12) true, none⟩,
 ⟨some 4, .mov (.t 13), none⟩] []) <|
 .keep [4] [[13]]) <|
 .ret, [.t 4]⟩

def integer_Valid : CF := ⟨1, .seq (.seq (.reg [⟨some 1, .box (.t 0), none⟩,
 ⟨some 2, .mov (.c (.v (.bool false))), none⟩] []) <|
 .keep [1] [[1]]) <|
 .seq (.seq (.seq (.reg [⟨some 3, .fad 1 (.t 1), none⟩,
 ⟨some 4, .load none (.t 3), none⟩,
 ⟨some 5, .call n_slices_ContainsFunc_int_int [(.t 4), (.f n_integer_Valid_1)] false, none⟩] []) <|
 .keep [1, 5] [[1]]) <|
 .cond (.t 5) (.seq (.seq (.reg [⟨some 2, .mov (.c (.v (.bool false))), none⟩] []) <|
 .keep [2] []) <|
 .ret) <|
 .skip) <|
 .seq (.seq (.reg [⟨some 6, .fad 1 (.t 1), none⟩,
 ⟨some 7, .load none (.t 6), none⟩,
 ⟨some 8, .len (.t 7), none⟩,
 ⟨some 9, .bin .eql (.t 8) (.c (.v (.int .i64 0))), none⟩,
 ⟨some 10, .mov (.t 9), none⟩,
 ⟨some 11, .fad 0 (.t 1), (some (10, true))⟩,
 ⟨some 12, .load none (.t 11), (some (10, true))⟩,
 ⟨some 13, .un .not (.t 12), (some (10, true))⟩,
 ⟨some 14, .pick (.t 10) (.t 13) (.c (.v (.bool false))), none⟩,
 ⟨some 15, .mov (.t 14), none⟩,
 ⟨some 16, .fad 1 (.t 1), (some (15, false))⟩,
 ⟨some 17, .load none (.t 16), (some (15, false))⟩,
 ⟨some 18, .len (.t 17), (some (15, false))⟩,
 ⟨some 19, .bin .gtr (.t 18) (.c (.v (.int .i64 0))), (some (15, false))⟩,
 ⟨some 20, .mov (.t 19), (some (15, false))⟩,
 ⟨some 21, .fad 1 (.t 1), (some (20, true))⟩,
 ⟨some 22, .load none (.t 21), (some (20, true))⟩,
 ⟨some 23, .fad 1 (.t 1), (some (20, true))⟩,
 ⟨some 24, .load none (.t 23), (some (20, true))⟩,
 ⟨some 25, .len (.t 24), (some (20, true))⟩,
 ⟨some 26, .bin .sub (.t 25) (.c (.v (.int .i64 1))), (some (20, true))⟩,
 ⟨some 27, .ixa 1 (.t 22) (.t 26), (some (20, true))⟩,
 ⟨some 28, .load none (.t 27), (some (20, true))⟩,
 ⟨some 29, .bin .neq (.t 28) (.c (.v (.int .i64 0))), (some (20, true))⟩,
 ⟨some 30, .pick (.t 20) (.t 29) (.c (.v (.bool false))), (some (15, false))⟩,
 ⟨some 31, .pick (.t 15) (.c (.v (.bool true))) (.t 30), none⟩,
 ⟨some 2, .mov (.t 31), none⟩] []) <|
 .keep [2] []) <|
 .ret, [.t 2]⟩

def gantryref04_Valid_l0 : C :=
 .seq (.seq (.seq (.seq (.reg [⟨some 4, .mov (.t 3), none⟩,
 ⟨some 5, .fad 1 (.t 1), none⟩,
 ⟨some 6, .load none (.t 5), none⟩,
 ⟨some 7, .len (.t 6), none⟩,
 ⟨some 8, .bin .lss (.t 4) (.t 7), none⟩] []) <|
 .keep [1, 3, 8] [[1]]) <|
 .cond (.t 8) (.skip) <|
 .seq (.keep [1] [[1]]) <|
 .exit 0) <|
 .seq (.seq (.blk 1 <|
 .seq (.seq (.reg [⟨some 11, .fad 1 (.t 1), none⟩,
 ⟨some 12, .load none (.t 11), none⟩,
 ⟨some 13, .mov (.t 3), none⟩,
 ⟨some 14, .ixa 1 (.t 12) (.t 13), none⟩,
 ⟨some 15, .load none (.t 14), none⟩,
 ⟨some 16, .bin .lss (.t 15) (.c (.v (.int .i64 0))), none⟩,
 ⟨some 17, .mov (.t 16), none⟩,
 ⟨some 18, .fad 1 (.t 1), (some (17, false))⟩,
 ⟨some 19, .load none (.t 18), (some (17, false))⟩,
 ⟨some 20, .mov (.t 3), (some (17, false))⟩,
 ⟨some 21, .ixa 1 (.t 19) (.t 20), (some (17, false))⟩,
 ⟨some 22, .load none (.t 21), (some (17, false))⟩,
 ⟨some 23, .bin .geq (.t 22) (.c (.v (.int .i64 1000000000))), (some (17, false))⟩,
 ⟨some 24, .pick (.t 17) (.c (.v (.bool true))) (.t 23), none⟩] []) <|
 .keep [1, 3, 24] [[1]]) <|
 .cond (.t 24) (.seq (.seq (.reg [⟨some 2, .mov (.c (.v (.bool false))), none⟩] []) <|
 .keep [2] []) <|
 .ret) <|
 .skip) <|
 .keep [1, 3] [[1]]) <|
 .seq (.reg [⟨some 9, .mov (.t 3), none⟩,
 ⟨some 10, .bin .add (.t 9) (.c (.v (.int .i64 1))), none⟩,
 ⟨some 3, .mov (.t 10), none⟩] []) <|
 .keep [1, 3] [[1]]) <|
 .keep [1, 3] [[1]]
def gantryref04_Valid : CF := ⟨1, .seq (.seq (.reg [⟨some 1, .box (.t 0), none⟩,
 ⟨some 2, .mov (.c (.v (.bool false))), none⟩] []) <|
 .keep [1] [[1]]) <|
 .seq (.seq (.seq (.reg [⟨some 3, .mov (.c (.v (.int .i64 0))), none⟩] []) <|
 .keep [1, 3] [[1]]) <|
 .seq (.blk 0 <|
 .seq (.keep [1, 3] [[1]]) <|
 .loop gantryref04_Valid_l0) <|
 .keep [1] [[1]]) <|
 .seq (.seq (.seq (.reg [⟨some 25, .fad 1 (.t 1), none⟩,
 ⟨some 26, .load none (.t 25), none⟩,
 ⟨some 27, .len (.t 26), none⟩,
 ⟨some 28, .bin .eql (.t 27) (.c (.v (.int .i64 0))), none⟩] []) <|
 .keep [1, 28] [[1]]) <|
 .cond (.t 28) (.seq (.seq (.reg [⟨some 29, .fad 0 (.t 1), none⟩,
 ⟨some 30, .load none (.t 29), none⟩,
 ⟨some 31, .un .not (.t 30), none⟩,
 ⟨some 2, .mov (.t 31), none⟩] []) <|
 .keep [2] []) <|
 .ret) <|
 .skip) <|
 .seq (.seq (.reg [⟨some 32, .fad 1 (.t 1), none⟩,
 ⟨some 33, .load none (.t 32), none⟩,
 ⟨some 34, .fad 1 (.t 1), none⟩,
 ⟨some 35, .load none (.t 34), none⟩,
 ⟨some 36, .len (.t 35), none⟩,
 ⟨some 37, .bin .sub (.t 36) (.c (.v (.int .i64 1))), none⟩,
 ⟨some 38, .ixa 1 (.t 33) (.t 37), none⟩,
 ⟨some 39, .load none (.t 38), none⟩,
 ⟨some 40, .bin .neq (.t 39) (.c (.v (.int .i64 0))), none⟩,
 ⟨some 2, .mov (.t 40), none⟩] []) <|
 .keep [2] []) <|
 .ret, [.t 2]⟩

def integer_Small_l0 : C :=
 .seq (.seq (.seq (.seq (.reg [⟨some 27, .mov (.t 5), none⟩,
 ⟨some 28, .bin .geq (.t 27) (.c (.v (.int .i64 0))), none⟩] []) <|
 .keep [1, 4, 5, 28] [[1]]) <|
 .cond (.t 28) (.skip) <|
 .seq (.keep [1, 4] [[1]]) <|
 .exit 0) <|
 .seq (.seq (.blk 1 <|
 .seq (.reg [⟨some 31, .mov (.t 4), none⟩,
 ⟨some 32, .bin .mul (.t 31) (.c (.v (.int .u64 1000000000))), none⟩,
 ⟨some 33, .fad 1 (.t 1), none⟩,
 ⟨some 34, .load none (.t 33), none⟩,
 ⟨some 35, .mov (.t 5), none⟩,
 ⟨some 36, .ixa 1 (.t 34) (.t 35), none⟩,
 ⟨some 37, .load none (.t 36), none⟩,
 ⟨some 38, .conv (.int .u64) (.t 37), none⟩,
 ⟨some 39, .bin .add (.t 32) (.t 38), none⟩,
 ⟨some 4, .mov (.t 39), none⟩] []) <|
 .keep [1, 4, 5] [[1]]) <|
 .keep [1, 4, 5] [[1]]) <|
 .seq (.reg [⟨some 29, .mov (.t 5), none⟩,
 ⟨some 30, .bin .sub (.t 29) (.c (.v (.int .i64 1))), none⟩,
 ⟨some 5, .mov (.t 30), none⟩] []) <|
 .keep [1, 4, 5] [[1]]) <|
 .keep [1, 4, 5] [[1]]
def integer_Small : CF := ⟨1, .seq (.seq (.reg [⟨some 1, .box (.t 0), none⟩,
 ⟨some 2, .mov (.c (.v (.int .i64 0))), none⟩,
 ⟨some 3, .mov (.c (.v (.bool false))), none⟩] []) <|
 .keep [1] [[1]]) <|
 .seq (.seq (.seq (.reg [⟨some 6, .fad 1 (.t 1), none⟩,
 ⟨some 7, .load none (.t 6), none⟩,
 ⟨some 8, .len (.t 7), none⟩,
 ⟨some 9, .bin .gtr (.t 8) (.c (.v (.int .i64 3))), none⟩,
 ⟨some 10, .mov (.t 9), none⟩,
 ⟨some 11, .fad 1 (.t 1), (some (10, false))⟩,
 ⟨some 12, .load none (.t 11), (some (10, false))⟩,
 ⟨some 13, .len (.t 12), (some (10, false))⟩,
 ⟨some 14, .bin .eql (.t 13) (.c (.v (.int .i64 3))), (some (10, false))⟩,
 ⟨some 15, .mov (.t 14), (some (10, false))⟩,
 ⟨some 16, .fad 1 (.t 1), (some (15, true))⟩,
 ⟨some 17, .load none (.t 16), (some (15, true))⟩,
 ⟨some 18, .ixa 1 (.t 17) (.c (.v (.int .i64 2))), (some (15, true))⟩,
 ⟨some 19, .load none (.t 18), (some (15, true))⟩,
 ⟨some 20, .bin .gtr (.t 19) (.c (.v (.int .i64 9))), (some (15, true))⟩,
 ⟨some 21, .pick (.t 15) (.t 20) (.c (.v (.bool false))), (some (10, false))⟩,
 ⟨some 22, .pick (.t 10) (.c (.v (.bool true))) (.t 21), none⟩] []) <|
 .keep [1, 22] [[1]]) <|
 .cond (.t 22) (.seq (.seq (.reg [⟨some 2, .mov (.c (.v (.int .i64 0))), none⟩,
 ⟨some 3, .mov (.c (.v (.bool false))), none⟩] []) <|
 .keep [2, 3] []) <|
 .ret) <|
 .skip) <|
 .seq (.seq (.reg [⟨some 4, .mov (.c (.v (.int .u64 0))), none⟩] []) <|
 .keep [1, 4] [[1]]) <|
 .seq (.seq (.seq (.reg [⟨some 23, .fad 1 (.t 1), none⟩,
 ⟨some 24, .load none (.t 23), none⟩,
 ⟨some 25, .len (.t 24), none⟩,
 ⟨some 26, .bin .sub (.t 25) (.c (.v (.int .i64 1))), none⟩,
 ⟨some 5, .mov (.t 26), none⟩] []) <|
 .keep [1, 4, 5] [[1]]) <|
 .seq (.blk 0 <|
 .seq (.keep [1, 4, 5] [[1]]) <|
 .loop integer_Small_l0) <|
 .keep [1, 4] [[1]]) <|
 .seq (.seq (.blk 2 <|
 .seq (.seq (.reg [⟨some 41, .fad 0 (.t 1), none⟩,
 ⟨some 42, .load none (.t 41), none⟩,
 ⟨some 43, .mov (.t 42), none⟩,
 ⟨some 44, .mov (.t 4), (some (43, true))⟩,
 ⟨some 45, .bin .leq (.t 44) (.c (.v (.int .u64 9223372036854775808))), (some (43, true))⟩,
 ⟨some 46, .pick (.t 43) (.t 45) (.c (.v (.bool false))), none⟩,
 ⟨some 40, .mov (.t 46), none⟩] []) <|
 .keep [1, 4, 40] [[1]]) <|
 .cond (.t 40) (.seq (.seq (.reg [⟨some 47, .mov (.t 4), none⟩,
 ⟨some 48, .un .neg (.t 47), none⟩,
 ⟨some 49, .conv (.int .i64) (.t 48), none⟩,
 ⟨some 2, .mov (.t 49), none⟩,
 ⟨some 3, .mov (.c (.v (.bool true))), none⟩] []) <|
 .keep [2, 3] []) <|
 .ret) <|
 .seq (.seq (.reg [⟨some 51, .fad 0 (.t 1), none⟩,
 ⟨some 52, .load none (.t 51), none⟩,
 ⟨some 53, .un .not (.t 52), none⟩,
 ⟨some 54, .mov (.t 53), none⟩,
 ⟨some 55, .mov (.t 4), (some (54, true))⟩,
 ⟨some 56, .bin .lss (.t 55) (.c (.v (.int .u64 9223372036854775808))), (some (54, true))⟩,
 ⟨some 57, .pick (.t 54) (.t 56) (.c (.v (.bool false))), none⟩,
 ⟨some 50, .mov (.t 57), none⟩] []) <|
 .keep [4, 50] []) <|
 .cond (.t 50) (.seq (.seq (.reg [⟨some 58, .mov (.t 4), none⟩,
 ⟨some 59, .conv (.int .i64) (.t 58), none⟩,
 ⟨some 2, .mov (.t 59), none⟩,
 ⟨some 3, .mov (.c (.v (.bool true))), none⟩] []) <|
 .keep [2, 3] []) <|
 .ret) <|
 .skip) <|
 .keep [] []) <|
 .seq (.seq (.reg [⟨some 2, .mov (.c (.v (.int .i64 0))), none⟩,
 ⟨some 3, .mov (.c (.v (.bool false))), none⟩] []) <|
 .keep [2, 3] []) <|
 .ret, [.t 2, .t 3]⟩

def gantryref04_Small_l0 : C :=
 .seq (.seq (.seq (.seq (.reg [⟨some 20, .mov (.t 5), none⟩,
 ⟨some 21, .bin .geq (.t 20) (.c (.v (.int .i64 0))), none⟩] []) <|
 .keep [1, 4, 5, 21] [[1]]) <|
 .cond (.t 21) (.skip) <|
 .seq (.keep [4] []) <|
 .exit 0) <|
 .seq (.seq (.blk 1 <|
 .seq (.seq (.reg [⟨some 24, .fad 0 (.t 1), none⟩,
 ⟨some 25, .load none (.t 24), none⟩] []) <|
 .keep [1, 4, 5, 25] [[1]]) <|
 .cond (.t 25) (.seq (.reg [⟨some 26, .mov (.t 4), none⟩,
 ⟨some 27, .bin .mul (.t 26) (.c (.v (.int .i64 1000000000))), none⟩,
 ⟨some 28, .fad 1 (.t 1), none⟩,
 ⟨some 29, .load none (.t 28), none⟩,
 ⟨some 30, .mov (.t 5), none⟩,
 ⟨some 31, .ixa 1 (.t 29) (.t 30), none⟩,
 ⟨some 32, .load none (.t 31), none⟩,
 ⟨some 33, .bin .sub (.t 27) (.t 32), none⟩,
 ⟨some 4, .mov (.t 33), none⟩] []) <|
 .keep [1, 4, 5] [[1]]) <|
 .seq (.reg [⟨some 34, .mov (.t 4), none⟩,
 ⟨some 35, .bin .mul (.t 34) (.c (.v (.int .i64 1000000000))), none⟩,
 ⟨some 36, .fad 1 (.t 1), none⟩,
 ⟨some 37, .load none (.t 36), none⟩,
 ⟨some 38, .mov (.t 5), none⟩,
 ⟨some 39, .ixa 1 (.t 37) (.t 38), none⟩,
 ⟨some 40, .load none (.t 39), none⟩,
 ⟨some 41, .bin .add (.t 35) (.t 40), none⟩,
 ⟨some 4, .mov (.t 41), none⟩] []) <|
 .keep [1, 4, 5] [[1]]) <|
 .keep [1, 4, 5] [[1]]) <|
 .seq (.reg [⟨some 22, .mov (.t 5), none⟩,
 ⟨some 23, .bin .sub (.t 22) (.c (.v (.int .i64 1))), none⟩,
 ⟨some 5, .mov (.t 23), none⟩] []) <|
 .keep [1, 4, 5] [[1]]) <|
 .keep [1, 4, 5] [[1]]
def gantryref04_Small : CF := ⟨1, .seq (.seq (.reg [⟨some 1, .box (.t 0), none⟩,
 ⟨some 2, .mov (.c (.v (.int .i64 0))), none⟩,
 ⟨some 3, .mov (.c (.v (.bool false))), none⟩] []) <|
 .keep [1] [[1]]) <|
 .seq (.seq (.seq (.reg [⟨some 6, .load (some 2) (.t 1), none⟩,
 ⟨some 7, .call n_gantryref04_Of [(.c (.v (.int .i64 9223372036854775807)))] false, none⟩,
 ⟨some 8, .call n_gantryref04_Compare [(.t 6), (.t 7)] false, none⟩,
 ⟨some 9, .bin .gtr (.t 8) (.c (.v (.int .i64 0))), none⟩,
 ⟨some 10, .mov (.t 9), none⟩,
 ⟨some 11, .load (some 2) (.t 1), (some (10, false))⟩,
 ⟨some 12, .call n_gantryref04_Of [(.c (.v (.int .i64 (-9223372036854775808))))] false, (some (10, false))⟩,
 ⟨some 13, .call n_gantryref04_Compare [(.t 11), (.t 12)] false, (some (10, false))⟩,
 ⟨some 14, .bin .lss (.t 13) (.c (.v (.int .i64 0))), (some (10, false))⟩,
 ⟨some 15, .pick (.t 10) (.c (.v (.bool true))) (.t 14), none⟩] []) <|
 .keep [1, 15] [[1]]) <|
 .cond (.t 15) (.seq (.seq (.reg [⟨some 2, .mov (.c (.v (.int .i64 0))), none⟩,
 ⟨some 3, .mov (.c (.v (.bool false))), none⟩] []) <|
 .keep [2, 3] []) <|
 .ret) <|
 .skip) <|
 .seq (.seq (.reg [⟨some 4, .mov (.c (.v (.int .i64 0))), none⟩] []) <|
 .keep [1, 4] [[1]]) <|
 .seq (.seq (.seq (.reg [⟨some 16, .fad 1 (.t 1), none⟩,
 ⟨some 17, .load none (.t 16), none⟩,
 ⟨some 18, .len (.t 17), none⟩,
 ⟨some 19, .bin .sub (.t 18) (.c (.v (.int .i64 1))), none⟩,
 ⟨some 5, .mov (.t 19), none⟩] []) <|
 .keep [1, 4, 5] [[1]]) <|
 .seq (.blk 0 <|
 .seq (.keep [1, 4, 5] [[1]]) <|
 .loop gantryref04_Small_l0) <|
 .keep [4] []) <|
 .seq (.seq (.reg [⟨some 42, .mov (.t 4), none⟩,
 ⟨some 2, .mov (.t 42), none⟩,
 ⟨some 3, .mov (.c (.v (.bool true))), none⟩] []) <|
 .keep [2, 3] []) <|
 .ret, [.t 2, .t 3]⟩

def integer_Parse_l0 : C :=
 .seq (.seq (.seq (.seq (.reg [⟨some 40, .mov (.t 4), none⟩,
 ⟨some 41, .lns (.t 40), none⟩,
 ⟨some 42, .bin .gtr (.t 41) (.c (.v (.int .i64 0))), none⟩] []) <|
 .keep [2, 4, 5, 6, 42] [[2], [57]]) <|
 .cond (.t 42) (.skip) <|
 .seq (.keep [2, 5, 6] [[2], [57]]) <|
 .exit 0) <|
 .seq (.blk 1 <|
 .seq (.seq (.reg [⟨some 43, .mov (.t 4), none⟩,
 ⟨some 44, .lns (.t 43), none⟩,
 ⟨some 45, .bin .sub (.t 44) (.c (.v (.int .i64 9))), none⟩,
 ⟨some 46, .mx [(.c (.v (.int .i64 0))), (.t 45)], none⟩,
 ⟨some 7, .mov (.t 46), none⟩] []) <|
 .keep [2, 4, 5, 6, 7] [[2], [57]]) <|
 .seq (.seq (.reg [⟨some 48, .mov (.t 4), none⟩,
 ⟨some 49, .mov (.t 7), none⟩,
 ⟨some 50, .sls (.t 48) (some (.t 49)) none, none⟩,
 ⟨some 51, .call n_strconv_Atoi [(.t 50)] false, none⟩,
 ⟨some 47, .mov (.t 51), none⟩,
 ⟨some 52, .ext (.t 47) 0, none⟩,
 ⟨some 53, .ext (.t 47) 1, none⟩,
 ⟨some 8, .mov (.t 52), none⟩,
 ⟨some 9, .mov (.t 53), none⟩] []) <|
 .keep [2, 4, 5, 6, 7, 8] [[2], [57]]) <|
 .seq (.reg [⟨some 54, .mov (.t 6), none⟩,
 ⟨some 55, .mov (.t 8), none⟩,
 ⟨some 56, .lit 1 1 [.v (.int .i64 0)] [(0, (.t 55))] true, none⟩,
 ⟨some 57, .app 1 8 (.t 54) (.t 56) false, none⟩,
 ⟨some 58, .mov (.t 4), none⟩,
 ⟨some 59, .mov (.t 7), none⟩,
 ⟨some 60, .sls (.t 58) none (some (.t 59)), none⟩,
 ⟨some 6, .mov (.t 57), none⟩,
 ⟨some 4, .mov (.t 60), none⟩] []) <|
 .keep [2, 4, 5, 6] [[2], [57]]) <|
 .keep [2, 4, 5, 6] [[2], [57]]) <|
 .keep [2, 4, 5, 6] [[2], [57]]
def integer_Parse : CF := ⟨1, .seq (.seq (.reg [⟨some 2, .new [.v (.bool false), .z true], none⟩,
 ⟨some 3, .mov (.c (.v (.int .i64 0))), none⟩] []) <|
 .keep [0, 2] [[2]]) <|
 .seq (.seq (.seq (.reg [⟨some 10, .mov (.t 0), none⟩,
 ⟨some 11, .lns (.t 10), none⟩,
 ⟨some 12, .bin .gtr (.t 11) (.c (.v (.int .i64 65536))), none⟩] []) <|
 .keep [0, 2, 12] [[2]]) <|
 .cond (.t 12) (.seq (.seq (.reg [⟨some 13, .build [.v (.bool false), .z true] [], none⟩,
 ⟨none, .store 2 (.t 2) (.t 13), none⟩,
 ⟨some 3, .mov (.c (.v (.int .i64 4))), none⟩] []) <|
 .keep [2, 3] [[2]]) <|
 .ret) <|
 .skip) <|
 .seq (.seq (.reg [⟨some 15, .mov (.t 0), none⟩,
 ⟨some 16, .call n_strings_CutPrefix [(.t 15), (.c (.v (.string ⟨#[45]⟩)))] false, none⟩,
 ⟨some 14, .mov (.t 16), none⟩,
 ⟨some 17, .ext (.t 14) 0, none⟩,
 ⟨some 18, .ext (.t 14) 1, none⟩,
 ⟨some 4, .mov (.t 17), none⟩,
 ⟨some 5, .mov (.t 18), none⟩] []) <|
 .keep [2, 4, 5] [[2]]) <|
 .seq (.seq (.seq (.reg [⟨some 19, .mov (.t 4), none⟩,
 ⟨some 20, .bin .eql (.t 19) (.c (.v (.string ⟨#[]⟩))), none⟩,
 ⟨some 21, .mov (.t 20), none⟩,
 ⟨some 22, .mov (.t 4), (some (21, false))⟩,
 ⟨some 23, .call n_strings_Trim [(.t 22), (.c (.v (.string ⟨#[48, 49, 50, 51, 52, 53, 54, 55, 56, 57]⟩)))] false, (some (21, false))⟩,
 ⟨some 24, .bin .neq (.t 23) (.c (.v (.string ⟨#[]⟩))), (some (21, false))⟩,
 ⟨some 25, .pick (.t 21) (.c (.v (.bool true))) (.t 24), none⟩,
 ⟨some 26, .mov (.t 25), none⟩,
 ⟨some 27, .mov (.t 4), (some (26, false))⟩,
 ⟨some 28, .ixs (.t 27) (.c (.v (.int .i64 0))), (some (26, false))⟩,
 ⟨some 29, .bin .eql (.t 28) (.c (.v (.int .u8 48))), (some (26, false))⟩,
 ⟨some 30, .mov (.t 29), (some (26, false))⟩,
 ⟨some 31, .mov (.t 5), (some (30, true))⟩,
 ⟨some 32, .mov (.t 31), (some (30, true))⟩,
 ⟨some 33, .mov (.t 4), (some (32, false))⟩,
 ⟨some 34, .lns (.t 33), (some (32, false))⟩,
 ⟨some 35, .bin .gtr (.t 34) (.c (.v (.int .i64 1))), (some (32, false))⟩,
 ⟨some 36, .pick (.t 32) (.c (.v (.bool true))) (.t 35), (some (30, true))⟩,
 ⟨some 37, .pick (.t 30) (.t 36) (.c (.v (.bool false))), (some (26, false))⟩,
 ⟨some 38, .pick (.t 26) (.c (.v (.bool true))) (.t 37), none⟩] []) <|
 .keep [2, 4, 5, 38] [[2]]) <|
 .cond (.t 38) (.seq (.seq (.reg [⟨some 39, .build [.v (.bool false), .z true] [], none⟩,
 ⟨none, .store 2 (.t 2) (.t 39), none⟩,
 ⟨some 3, .mov (.c (.v (.int .i64 2))), none⟩] []) <|
 .keep [2, 3] [[2]]) <|
 .ret) <|
 .skip) <|
 .seq (.seq (.reg [⟨some 6, .mov (.c (.z true)), none⟩] []) <|
 .keep [2, 4, 5, 6] [[2], [57]]) <|
 .seq (.seq (.blk 0 <|
 .seq (.keep [2, 4, 5, 6] [[2], [57]]) <|
 .loop integer_Parse_l0) <|
 .keep [2, 5, 6] [[2], [57]]) <|
 .seq (.seq (.frz 6) <|
 .seq (.reg [⟨some 61, .mov (.t 5), none⟩,
 ⟨some 62, .mov (.t 6), none⟩,
 ⟨some 63, .call n_integer_of [(.t 61), (.t 62)] false, none⟩,
 ⟨none, .store 2 (.t 2) (.t 63), none⟩,
 ⟨some 3, .mov (.c (.v (.int .i64 0))), none⟩] []) <|
 .keep [2, 3] [[2]]) <|
 .ret, [.cell 2 (some 2), .t 3]⟩

def integer_Encode : CF := ⟨1, .seq (.seq (.reg [⟨some 1, .box (.t 0), none⟩,
 ⟨some 2, .mov (.c (.z true)), none⟩] []) <|
 .keep [1] [[1]]) <|
 .seq (.seq (.reg [⟨some 3, .load (some 2) (.t 1), none⟩,
 ⟨some 4, .call n_integer_Sign [(.t 3)] false, none⟩,
 ⟨some 5, .lit 1 1 [.v (.int .i64 0)] [(0, (.t 4))] false, none⟩,
 ⟨some 6, .fad 1 (.t 1), none⟩,
 ⟨some 7, .load none (.t 6), none⟩,
 ⟨some 8, .app 1 8 (.t 5) (.t 7) true, none⟩,
 ⟨some 9, .call n_wire_Ints [(.t 8)] false, none⟩,
 ⟨some 2, .mov (.t 9), none⟩] []) <|
 .keep [2] []) <|
 .ret, [.t 2]⟩

def gantryref01_Ints_l0 : C :=
 .seq (.seq (.seq (.seq (.reg [⟨some 8, .mov (.t 4), none⟩,
 ⟨some 9, .mov (.t 0), none⟩,
 ⟨some 10, .len (.t 9), none⟩,
 ⟨some 11, .bin .lss (.t 8) (.t 10), none⟩] []) <|
 .keep [0, 3, 4, 11] [[7], [20]]) <|
 .cond (.t 11) (.skip) <|
 .seq (.keep [3] [[7], [20]]) <|
 .exit 0) <|
 .seq (.seq (.blk 1 <|
 .seq (.reg [⟨some 14, .mov (.t 3), none⟩,
 ⟨some 15, .mov (.t 0), none⟩,
 ⟨some 16, .mov (.t 4), none⟩,
 ⟨some 17, .ixa 1 (.t 15) (.t 16), none⟩,
 ⟨some 18, .load none (.t 17), none⟩,
 ⟨some 19, .call n_gantryref01_Int [(.t 18)] false, none⟩,
 ⟨some 20, .app 1 1 (.t 14) (.t 19) false, none⟩,
 ⟨some 3, .mov (.t 20), none⟩] []) <|
 .keep [0, 3, 4] [[7], [20]]) <|
 .keep [0, 3, 4] [[7], [20]]) <|
 .seq (.reg [⟨some 12, .mov (.t 4), none⟩,
 ⟨some 13, .bin .add (.t 12) (.c (.v (.int .i64 1))), none⟩,
 ⟨some 4, .mov (.t 13), none⟩] []) <|
 .keep [0, 3, 4] [[7], [20]]) <|
 .keep [0, 3, 4] [[7], [20]]
def gantryref01_Ints : CF := ⟨1, .seq (.seq (.reg [⟨some 2, .mov (.c (.z true)), none⟩] []) <|
 .keep [0] []) <|
 .seq (.seq (.reg [⟨some 5, .mov (.t 0), none⟩,
 ⟨some 6, .len (.t 5), none⟩,
 ⟨some 7, .call n_gantryref01_Int [(.t 6)] true, none⟩,
 ⟨some 3, .mov (.t 7), none⟩] []) <|
 .keep [0, 3] [[7], [20]]) <|
 .seq (.seq (.seq (.reg [⟨some 4, .mov (.c (.v (.int .i64 0))), none⟩] []) <|
 .keep [0, 3, 4] [[7], [20]]) <|
 .seq (.blk 0 <|
 .seq (.keep [0, 3, 4] [[7], [20]]) <|
 .loop gantryref01_Ints_l0) <|
 .keep [3] [[7], [20]]) <|
 .seq (.seq (.reg [⟨some 21, .mov (.t 3), none⟩,
 ⟨some 2, .mov (.t 21), none⟩] []) <|
 .keep [2] [[7], [20]]) <|
 .ret, [.t 2]⟩

def gantryref01_At : CF := ⟨3, .seq (.seq (.reg [⟨some 6, .mov (.c (.v (.int .i64 0))), none⟩] []) <|
 .keep [0, 1, 2] []) <|
 .seq (.seq (.seq (.reg [⟨some 7, .mov (.t 1), none⟩,
 ⟨some 8, .bin .lss (.t 7) (.c (.v (.int .i64 0))), none⟩,
 ⟨some 9, .mov (.t 8), none⟩,
 ⟨some 10, .mov (.t 1), (some (9, false))⟩,
 ⟨some 11, .mov (.t 0), (some (9, false))⟩,
 ⟨some 12, .len (.t 11), (some (9, false))⟩,
 ⟨some 13, .bin .geq (.t 10) (.t 12), (some (9, false))⟩,
 ⟨some 14, .pick (.t 9) (.c (.v (.bool true))) (.t 13), none⟩] []) <|
 .keep [0, 1, 2, 14] []) <|
 .cond (.t 14) (.seq (.seq (.reg [⟨some 6, .mov (.c (.v (.int .i64 0))), none⟩] []) <|
 .keep [6] []) <|
 .ret) <|
 .skip) <|
 .seq (.seq (.reg [⟨some 15, .mov (.t 0), none⟩,
 ⟨some 16, .mov (.t 1), none⟩,
 ⟨some 17, .ixa 1 (.t 15) (.t 16), none⟩,
 ⟨some 18, .load none (.t 17), none⟩,
 ⟨some 19, .mov (.t 2), none⟩,
 ⟨some 20, .call n_gantryref01_Around [(.t 18), (.t 19)] false, none⟩,
 ⟨some 6, .mov (.t 20), none⟩] []) <|
 .keep [6] []) <|
 .ret, [.t 6]⟩

def gantryref04_Power_l0 : C :=
 .seq (.seq (.seq (.seq (.reg [⟨some 6, .mov (.t 4), none⟩,
 ⟨some 7, .mov (.t 0), none⟩,
 ⟨some 8, .bin .lss (.t 6) (.t 7), none⟩] []) <|
 .keep [0, 2, 3, 4, 8] [[2], [3]]) <|
 .cond (.t 8) (.skip) <|
 .seq (.keep [2, 3] [[2], [3]]) <|
 .exit 0) <|
 .seq (.seq (.blk 1 <|
 .seq (.reg [⟨some 11, .load (some 2) (.t 3), none⟩,
 ⟨some 12, .call n_gantryref04_Of [(.c (.v (.int .i64 10)))] false, none⟩,
 ⟨some 13, .call n_gantryref04_Mul [(.t 11), (.t 12)] false, none⟩,
 ⟨none, .store 2 (.t 3) (.t 13), none⟩] []) <|
 .keep [0, 2, 3, 4] [[2], [3]]) <|
 .keep [0, 2, 3, 4] [[2], [3]]) <|
 .seq (.reg [⟨some 9, .mov (.t 4), none⟩,
 ⟨some 10, .bin .add (.t 9) (.c (.v (.int .i64 1))), none⟩,
 ⟨some 4, .mov (.t 10), none⟩] []) <|
 .keep [0, 2, 3, 4] [[2], [3]]) <|
 .keep [0, 2, 3, 4] [[2], [3]]
def gantryref04_Power : CF := ⟨1, .seq (.seq (.reg [⟨some 2, .new [.v (.bool false), .z true], none⟩] []) <|
 .keep [0, 2] [[2]]) <|
 .seq (.seq (.reg [⟨some 5, .call n_gantryref04_Of [(.c (.v (.int .i64 1)))] false, none⟩,
 ⟨some 3, .new [.v (.bool false), .z true], none⟩,
 ⟨none, .store 2 (.t 3) (.t 5), none⟩] []) <|
 .keep [0, 2, 3] [[2], [3]]) <|
 .seq (.seq (.seq (.reg [⟨some 4, .mov (.c (.v (.int .i64 0))), none⟩] []) <|
 .keep [0, 2, 3, 4] [[2], [3]]) <|
 .seq (.blk 0 <|
 .seq (.keep [0, 2, 3, 4] [[2], [3]]) <|
 .loop gantryref04_Power_l0) <|
 .keep [2, 3] [[2], [3]]) <|
 .seq (.seq (.reg [⟨some 14, .load (some 2) (.t 3), none⟩,
 ⟨none, .store 2 (.t 2) (.t 14), none⟩] []) <|
 .keep [2] [[2]]) <|
 .ret, [.cell 2 (some 2)]⟩

def gantryref04_normal_l0 : C :=
 .seq (.seq (.seq (.seq (.reg [⟨some 8, .mov (.t 5), none⟩,
 ⟨some 9, .bin .gtr (.t 8) (.c (.v (.int .i64 0))), none⟩,
 ⟨some 10, .mov (.t 9), none⟩,
 ⟨some 11, .mov (.t 1), (some (10, true))⟩,
 ⟨some 12, .mov (.t 5), (some (10, true))⟩,
 ⟨some 13, .bin .sub (.t 12) (.c (.v (.int .i64 1))), (some (10, true))⟩,
 ⟨some 14, .mx [(.t 13), (.c (.v (.int .i64 0)))], (some (10, true))⟩,
 ⟨some 15, .ixa 1 (.t 11) (.t 14), (some (10, true))⟩,
 ⟨some 16, .load none (.t 15), (some (10, true))⟩,
 ⟨some 17, .bin .eql (.t 16) (.c (.v (.int .i64 0))), (some (10, true))⟩,
 ⟨some 18, .pick (.t 10) (.t 17) (.c (.v (.bool false))), none⟩] []) <|
 .keep [0, 1, 4, 5, 18] [[4]]) <|
 .cond (.t 18) (.skip) <|
 .seq (.keep [0, 1, 4, 5] [[4]]) <|
 .exit 0) <|
 .seq (.blk 1 <|
 .seq (.reg [⟨some 19, .mov (.t 5), none⟩,
 ⟨some 20, .bin .sub (.t 19) (.c (.v (.int .i64 1))), none⟩,
 ⟨some 5, .mov (.t 20), none⟩] []) <|
 .keep [0, 1, 4, 5] [[4]]) <|
 .keep [0, 1, 4, 5] [[4]]) <|
 .keep [0, 1, 4, 5] [[4]]
def gantryref04_normal : CF := ⟨2, .seq (.seq (.reg [⟨some 4, .new [.v (.bool false), .z true], none⟩] []) <|
 .keep [0, 1, 4] [[4]]) <|
 .seq (.seq (.reg [⟨some 6, .mov (.t 1), none⟩,
 ⟨some 7, .len (.t 6), none⟩,
 ⟨some 5, .mov (.t 7), none⟩] []) <|
 .keep [0, 1, 4, 5] [[4]]) <|
 .seq (.seq (.blk 0 <|
 .seq (.keep [0, 1, 4, 5] [[4]]) <|
 .loop gantryref04_normal_l0) <|
 .keep [0, 1, 4, 5] [[4]]) <|
 .seq (.seq (.seq (.reg [⟨some 21, .mov (.t 5), none⟩,
 ⟨some 22, .bin .eql (.t 21) (.c (.v (.int .i64 0))), none⟩] []) <|
 .keep [0, 1, 4, 5, 22] [[4]]) <|
 .cond (.t 22) (.seq (.seq (.reg [⟨some 23, .build [.v (.bool false), .z true] [], none⟩,
 ⟨none, .store 2 (.t 4) (.t 23), none⟩] []) <|
 .keep [4] [[4]]) <|
 .ret) <|
 .skip) <|
 .seq (.seq (.reg [⟨some 24, .mov (.t 0), none⟩,
 ⟨some 25, .mov (.t 1), none⟩,
 ⟨some 26, .mov (.t 5), none⟩,
 ⟨some 27, .slc 1 (.t 25) none (some (.t 26)) none, none⟩,
 ⟨some 28, .build [.v (.bool false), .z true] [(0, 1, (.t 24)), (1, 1, (.t 27))], none⟩,
 ⟨none, .store 2 (.t 4) (.t 28), none⟩] []) <|
 .keep [4] [[4]]) <|
 .ret, [.cell 4 (some 2)]⟩

def gantryref04_plus_l0 : C :=
 .seq (.seq (.seq (.seq (.reg [⟨some 9, .mov (.t 7), none⟩,
 ⟨some 10, .mov (.t 0), none⟩,
 ⟨some 11, .len (.t 10), none⟩,
 ⟨some 12, .bin .lss (.t 9) (.t 11), none⟩,
 ⟨some 13, .mov (.t 12), none⟩,
 ⟨some 14, .mov (.t 7), (some (13, false))⟩,
 ⟨some 15, .mov (.t 1), (some (13, false))⟩,
 ⟨some 16, .len (.t 15), (some (13, false))⟩,
 ⟨some 17, .bin .lss (.t 14) (.t 16), (some (13, false))⟩,
 ⟨some 18, .pick (.t 13) (.c (.v (.bool true))) (.t 17), none⟩,
 ⟨some 19, .mov (.t 18), none⟩,
 ⟨some 20, .mov (.t 6), (some (19, false))⟩,
 ⟨some 21, .bin .gtr (.t 20) (.c (.v (.int .i64 0))), (some (19, false))⟩,
 ⟨some 22, .pick (.t 19) (.c (.v (.bool true))) (.t 21), none⟩] []) <|
 .keep [0, 1, 5, 6, 7, 22] [[38]]) <|
 .cond (.t 22) (.skip) <|
 .seq (.keep [5] [[38]]) <|
 .exit 0) <|
 .seq (.seq (.blk 1 <|
 .seq (.seq (.reg [⟨some 25, .mov (.t 0), none⟩,
 ⟨some 26, .mov (.t 7), none⟩,
 ⟨some 27, .call n_gantryref04_digit [(.t 25), (.t 26)] false, none⟩,
 ⟨some 28, .mov (.t 1), none⟩,
 ⟨some 29, .mov (.t 7), none⟩,
 ⟨some 30, .call n_gantryref04_digit [(.t 28), (.t 29)] false, none⟩,
 ⟨some 31, .bin .add (.t 27) (.t 30), none⟩,
 ⟨some 32, .mov (.t 6), none⟩,
 ⟨some 33, .bin .add (.t 31) (.t 32), none⟩,
 ⟨some 8, .mov (.t 33), none⟩] []) <|
 .keep [0, 1, 5, 7, 8] [[38]]) <|
 .seq (.seq (.reg [⟨some 34, .mov (.t 5), none⟩,
 ⟨some 35, .mov (.t 8), none⟩,
 ⟨some 36, .bin .rem (.t 35) (.c (.v (.int .i64 1000000000))), none⟩,
 ⟨some 37, .lit 1 1 [.v (.int .i64 0)] [(0, (.t 36))] true, none⟩,
 ⟨some 38, .app 1 8 (.t 34) (.t 37) false, none⟩,
 ⟨some 5, .mov (.t 38), none⟩] []) <|
 .keep [0, 1, 5, 7, 8] [[38]]) <|
 .seq (.reg [⟨some 39, .mov (.t 8), none⟩,
 ⟨some 40, .bin .quo (.t 39) (.c (.v (.int .i64 1000000000))), none⟩,
 ⟨some 6, .mov (.t 40), none⟩] []) <|
 .keep [0, 1, 5, 6, 7] [[38]]) <|
 .keep [0, 1, 5, 6, 7] [[38]]) <|
 .seq (.reg [⟨some 23, .mov (.t 7), none⟩,
 ⟨some 24, .bin .add (.t 23) (.c (.v (.int .i64 1))), none⟩,
 ⟨some 7, .mov (.t 24), none⟩] []) <|
 .keep [0, 1, 5, 6, 7] [[38]]) <|
 .keep [0, 1, 5, 6, 7] [[38]]
def gantryref04_plus : CF := ⟨2, .seq (.seq (.reg [⟨some 4, .mov (.c (.z true)), none⟩] []) <|
 .keep [0, 1] []) <|
 .seq (.seq (.reg [⟨some 5, .mov (.c (.z true)), none⟩] []) <|
 .keep [0, 1, 5] [[38]]) <|
 .seq (.seq (.reg [⟨some 6, .mov (.c (.v (.int .i64 0))), none⟩] []) <|
 .keep [0, 1, 5, 6] [[38]]) <|
 .seq (.seq (.seq (.reg [⟨some 7, .mov (.c (.v (.int .i64 0))), none⟩] []) <|
 .keep [0, 1, 5, 6, 7] [[38]]) <|
 .seq (.blk 0 <|
 .seq (.keep [0, 1, 5, 6, 7] [[38]]) <|
 .loop gantryref04_plus_l0) <|
 .keep [5] [[38]]) <|
 .seq (.seq (.reg [⟨some 41, .mov (.t 5), none⟩,
 ⟨some 4, .mov (.t 41), none⟩] []) <|
 .keep [4] [[38]]) <|
 .ret, [.t 4]⟩

def gantryref04_compared_l0 : C :=
 .seq (.seq (.seq (.seq (.reg [⟨some 19, .mov (.t 5), none⟩,
 ⟨some 20, .bin .geq (.t 19) (.c (.v (.int .i64 0))), none⟩] []) <|
 .keep [0, 1, 5, 20] []) <|
 .cond (.t 20) (.skip) <|
 .seq (.keep [] []) <|
 .exit 0) <|
 .seq (.seq (.blk 1 <|
 .seq (.seq (.seq (.reg [⟨some 23, .mov (.t 0), none⟩,
 ⟨some 24, .mov (.t 5), none⟩,
 ⟨some 25, .ixa 1 (.t 23) (.t 24), none⟩,
 ⟨some 26, .load none (.t 25), none⟩,
 ⟨some 27, .mov (.t 1), none⟩,
 ⟨some 28, .mov (.t 5), none⟩,
 ⟨some 29, .ixa 1 (.t 27) (.t 28), none⟩,
 ⟨some 30, .load none (.t 29), none⟩,
 ⟨some 31, .bin .lss (.t 26) (.t 30), none⟩] []) <|
 .keep [0, 1, 5, 31] []) <|
 .cond (.t 31) (.seq (.seq (.reg [⟨some 4, .mov (.c (.v (.int .i64 (-1)))), none⟩] []) <|
 .keep [4] []) <|
 .ret) <|
 .skip) <|
 .seq (.seq (.reg [⟨some 32, .mov (.t 0), none⟩,
 ⟨some 33, .mov (.t 5), none⟩,
 ⟨some 34, .ixa 1 (.t 32) (.t 33), none⟩,
 ⟨some 35, .load none (.t 34), none⟩,
 ⟨some 36, .mov (.t 1), none⟩,
 ⟨some 37, .mov (.t 5), none⟩,
 ⟨some 38, .ixa 1 (.t 36) (.t 37), none⟩,
 ⟨some 39, .load none (.t 38), none⟩,
 ⟨some 40, .bin .gtr (.t 35) (.t 39), none⟩] []) <|
 .keep [0, 1, 5, 40] []) <|
 .cond (.t 40) (.seq (.seq (.reg [⟨some 4, .mov (.c (.v (.int .i64 1))), none⟩] []) <|
 .keep [4] []) <|
 .ret) <|
 .skip) <|
 .keep [0, 1, 5] []) <|
 .seq (.reg [⟨some 21, .mov (.t 5), none⟩,
 ⟨some 22, .bin .sub (.t 21) (.c (.v (.int .i64 1))), none⟩,
 ⟨some 5, .mov (.t 22), none⟩] []) <|
 .keep [0, 1, 5] []) <|
 .keep [0, 1, 5] []
def gantryref04_compared : CF := ⟨2, .seq (.seq (.reg [⟨some 4, .mov (.c (.v (.int .i64 0))), none⟩] []) <|
 .keep [0, 1] []) <|
 .seq (.seq (.seq (.reg [⟨some 6, .mov (.t 0), none⟩,
 ⟨some 7, .len (.t 6), none⟩,
 ⟨some 8, .mov (.t 1), none⟩,
 ⟨some 9, .len (.t 8), none⟩,
 ⟨some 10, .bin .lss (.t 7) (.t 9), none⟩] []) <|
 .keep [0, 1, 10] []) <|
 .cond (.t 10) (.seq (.seq (.reg [⟨some 4, .mov (.c (.v (.int .i64 (-1)))), none⟩] []) <|
 .keep [4] []) <|
 .ret) <|
 .skip) <|
 .seq (.seq (.seq (.reg [⟨some 11, .mov (.t 0), none⟩,
 ⟨some 12, .len (.t 11), none⟩,
 ⟨some 13, .mov (.t 1), none⟩,
 ⟨some 14, .len (.t 13), none⟩,
 ⟨some 15, .bin .gtr (.t 12) (.t 14), none⟩] []) <|
 .keep [0, 1, 15] []) <|
 .cond (.t 15) (.seq (.seq (.reg [⟨some 4, .mov (.c (.v (.int .i64 1))), none⟩] []) <|
 .keep [4] []) <|
 .ret) <|
 .skip) <|
 .seq (.seq (.seq (.reg [⟨some 16, .mov (.t 0), none⟩,
 ⟨some 17, .len (.t 16), none⟩,
 ⟨some 18, .bin .sub (.t 17) (.c (.v (.int .i64 1))), none⟩,
 ⟨some 5, .mov (.t 18), none⟩] []) <|
 .keep [0, 1, 5] []) <|
 .seq (.blk 0 <|
 .seq (.keep [0, 1, 5] []) <|
 .loop gantryref04_compared_l0) <|
 .keep [] []) <|
 .seq (.seq (.reg [⟨some 4, .mov (.c (.v (.int .i64 0))), none⟩] []) <|
 .keep [4] []) <|
 .ret, [.t 4]⟩

def gantryref04_minus_l0 : C :=
 .seq (.seq (.seq (.seq (.reg [⟨some 9, .mov (.t 7), none⟩,
 ⟨some 10, .mov (.t 0), none⟩,
 ⟨some 11, .len (.t 10), none⟩,
 ⟨some 12, .bin .lss (.t 9) (.t 11), none⟩] []) <|
 .keep [0, 1, 5, 6, 7, 12] [[32]]) <|
 .cond (.t 12) (.skip) <|
 .seq (.keep [5] [[32]]) <|
 .exit 0) <|
 .seq (.seq (.blk 1 <|
 .seq (.seq (.reg [⟨some 15, .mov (.t 0), none⟩,
 ⟨some 16, .mov (.t 7), none⟩,
 ⟨some 17, .ixa 1 (.t 15) (.t 16), none⟩,
 ⟨some 18, .load none (.t 17), none⟩,
 ⟨some 19, .mov (.t 1), none⟩,
 ⟨some 20, .mov (.t 7), none⟩,
 ⟨some 21, .call n_gantryref04_digit [(.t 19), (.t 20)] false, none⟩,
 ⟨some 22, .bin .sub (.t 18) (.t 21), none⟩,
 ⟨some 23, .mov (.t 6), none⟩,
 ⟨some 24, .bin .sub (.t 22) (.t 23), none⟩,
 ⟨some 8, .mov (.t 24), none⟩] []) <|
 .keep [0, 1, 5, 7, 8] [[32]]) <|
 .seq (.seq (.reg [⟨some 6, .mov (.c (.v (.int .i64 0))), none⟩] []) <|
 .keep [0, 1, 5, 6, 7, 8] [[32]]) <|
 .seq (.seq (.seq (.reg [⟨some 25, .mov (.t 8), none⟩,
 ⟨some 26, .bin .lss (.t 25) (.c (.v (.int .i64 0))), none⟩] []) <|
 .keep [0, 1, 5, 6, 7, 8, 26] [[32]]) <|
 .cond (.t 26) (.seq (.seq (.reg [⟨some 27, .mov (.t 8), none⟩,
 ⟨some 28, .bin .add (.t 27) (.c (.v (.int .i64 1000000000))), none⟩,
 ⟨some 8, .mov (.t 28), none⟩] []) <|
 .keep [0, 1, 5, 7, 8] [[32]]) <|
 .seq (.reg [⟨some 6, .mov (.c (.v (.int .i64 1))), none⟩] []) <|
 .keep [0, 1, 5, 6, 7, 8] [[32]]) <|
 .skip) <|
 .seq (.reg [⟨some 29, .mov (.t 5), none⟩,
 ⟨some 30, .mov (.t 8), none⟩,
 ⟨some 31, .lit 1 1 [.v (.int .i64 0)] [(0, (.t 30))] true, none⟩,
 ⟨some 32, .app 1 8 (.t 29) (.t 31) false, none⟩,
 ⟨some 5, .mov (.t 32), none⟩] []) <|
 .keep [0, 1, 5, 6, 7] [[32]]) <|
 .keep [0, 1, 5, 6, 7] [[32]]) <|
 .seq (.reg [⟨some 13, .mov (.t 7), none⟩,
 ⟨some 14, .bin .add (.t 13) (.c (.v (.int .i64 1))), none⟩,
 ⟨some 7, .mov (.t 14), none⟩] []) <|
 .keep [0, 1, 5, 6, 7] [[32]]) <|
 .keep [0, 1, 5, 6, 7] [[32]]
def gantryref04_minus : CF := ⟨2, .seq (.seq (.reg [⟨some 4, .mov (.c (.z true)), none⟩] []) <|
 .keep [0, 1] []) <|
 .seq (.seq (.reg [⟨some 5, .mov (.c (.z true)), none⟩] []) <|
 .keep [0, 1, 5] [[32]]) <|
 .seq (.seq (.reg [⟨some 6, .mov (.c (.v (.int .i64 0))), none⟩] []) <|
 .keep [0, 1, 5, 6] [[32]]) <|
 .seq (.seq (.seq (.reg [⟨some 7, .mov (.c (.v (.int .i64 0))), none⟩] []) <|
 .keep [0, 1, 5, 6, 7] [[32]]) <|
 .seq (.blk 0 <|
 .seq (.keep [0, 1, 5, 6, 7] [[32]]) <|
 .loop gantryref04_minus_l0) <|
 .keep [5] [[32]]) <|
 .seq (.seq (.reg [⟨some 33, .mov (.t 5), none⟩,
 ⟨some 4, .mov (.t 33), none⟩] []) <|
 .keep [4] [[32]]) <|
 .ret, [.t 4]⟩

def integer_of_l0 : C :=
 .seq (.seq (.seq (.seq (.reg [⟨some 8, .mov (.t 5), none⟩,
 ⟨some 9, .bin .gtr (.t 8) (.c (.v (.int .i64 0))), none⟩,
 ⟨some 10, .mov (.t 9), none⟩,
 ⟨some 11, .mov (.t 1), (some (10, true))⟩,
 ⟨some 12, .mov (.t 5), (some (10, true))⟩,
 ⟨some 13, .bin .sub (.t 12) (.c (.v (.int .i64 1))), (some (10, true))⟩,
 ⟨some 14, .ixa 1 (.t 11) (.t 13), (some (10, true))⟩,
 ⟨some 15, .load none (.t 14), (some (10, true))⟩,
 ⟨some 16, .bin .eql (.t 15) (.c (.v (.int .i64 0))), (some (10, true))⟩,
 ⟨some 17, .pick (.t 10) (.t 16) (.c (.v (.bool false))), none⟩] []) <|
 .keep [0, 1, 4, 5, 17] [[4]]) <|
 .cond (.t 17) (.skip) <|
 .seq (.keep [0, 1, 4, 5] [[4]]) <|
 .exit 0) <|
 .seq (.blk 1 <|
 .seq (.reg [⟨some 18, .mov (.t 5), none⟩,
 ⟨some 19, .bin .sub (.t 18) (.c (.v (.int .i64 1))), none⟩,
 ⟨some 5, .mov (.t 19), none⟩] []) <|
 .keep [0, 1, 4, 5] [[4]]) <|
 .keep [0, 1, 4, 5] [[4]]) <|
 .keep [0, 1, 4, 5] [[4]]
def integer_of : CF := ⟨2, .seq (.seq (.reg [⟨some 4, .new [.v (.bool false), .z true], none⟩] []) <|
 .keep [0, 1, 4] [[4]]) <|
 .seq (.seq (.reg [⟨some 6, .mov (.t 1), none⟩,
 ⟨some 7, .len (.t 6), none⟩,
 ⟨some 5, .mov (.t 7), none⟩] []) <|
 .keep [0, 1, 4, 5] [[4]]) <|
 .seq (.seq (.blk 0 <|
 .seq (.keep [0, 1, 4, 5] [[4]]) <|
 .loop integer_of_l0) <|
 .keep [0, 1, 4, 5] [[4]]) <|
 .seq (.seq (.seq (.reg [⟨some 20, .mov (.t 5), none⟩,
 ⟨some 21, .bin .eql (.t 20) (.c (.v (.int .i64 0))), none⟩] []) <|
 .keep [0, 1, 4, 5, 21] [[4]]) <|
 .cond (.t 21) (.seq (.seq (.reg [⟨some 22, .build [.v (.bool false), .z true] [], none⟩,
 ⟨none, .store 2 (.t 4) (.t 22), none⟩] []) <|
 .keep [4] [[4]]) <|
 .ret) <|
 .skip) <|
 .seq (.seq (.reg [⟨some 23, .mov (.t 0), none⟩,
 ⟨some 24, .mov (.t 1), none⟩,
 ⟨some 25, .mov (.t 5), none⟩,
 ⟨some 26, .mov (.t 5), none⟩,
 ⟨some 27, .slc 1 (.t 24) none (some (.t 25)) (some (.t 26)), none⟩,
 ⟨some 28, .build [.v (.bool false), .z true] [(0, 1, (.t 23)), (1, 1, (.t 27))], none⟩,
 ⟨none, .store 2 (.t 4) (.t 28), none⟩] []) <|
 .keep [4] [[4]]) <|
 .ret, [.cell 4 (some 2)]⟩

def gantryref04_Same_l0 : C :=
 .seq (.seq (.seq (.seq (.reg [⟨some 20, .mov (.t 5), none⟩,
 ⟨some 21, .fad 1 (.t 2), none⟩,
 ⟨some 22, .load none (.t 21), none⟩,
 ⟨some 23, .len (.t 22), none⟩,
 ⟨some 24, .bin .lss (.t 20) (.t 23), none⟩] []) <|
 .keep [2, 3, 5, 24] [[2], [3]]) <|
 .cond (.t 24) (.skip) <|
 .seq (.keep [] []) <|
 .exit 0) <|
 .seq (.seq (.blk 1 <|
 .seq (.seq (.reg [⟨some 27, .fad 1 (.t 2), none⟩,
 ⟨some 28, .load none (.t 27), none⟩,
 ⟨some 29, .mov (.t 5), none⟩,
 ⟨some 30, .ixa 1 (.t 28) (.t 29), none⟩,
 ⟨some 31, .load none (.t 30), none⟩,
 ⟨some 32, .fad 1 (.t 3), none⟩,
 ⟨some 33, .load none (.t 32), none⟩,
 ⟨some 34, .mov (.t 5), none⟩,
 ⟨some 35, .ixa 1 (.t 33) (.t 34), none⟩,
 ⟨some 36, .load none (.t 35), none⟩,
 ⟨some 37, .bin .neq (.t 31) (.t 36), none⟩] []) <|
 .keep [2, 3, 5, 37] [[2], [3]]) <|
 .cond (.t 37) (.seq (.seq (.reg [⟨some 4, .mov (.c (.v (.bool false))), none⟩] []) <|
 .keep [4] []) <|
 .ret) <|
 .skip) <|
 .keep [2, 3, 5] [[2], [3]]) <|
 .seq (.reg [⟨some 25, .mov (.t 5), none⟩,
 ⟨some 26, .bin .add (.t 25) (.c (.v (.int .i64 1))), none⟩,
 ⟨some 5, .mov (.t 26), none⟩] []) <|
 .keep [2, 3, 5] [[2], [3]]) <|
 .keep [2, 3, 5] [[2], [3]]
def gantryref04_Same : CF := ⟨2, .seq (.seq (.reg [⟨some 2, .box (.t 0), none⟩,
 ⟨some 3, .box (.t 1), none⟩,
 ⟨some 4, .mov (.c (.v (.bool false))), none⟩] []) <|
 .keep [2, 3] [[2], [3]]) <|
 .seq (.seq (.seq (.reg [⟨some 6, .fad 0 (.t 2), none⟩,
 ⟨some 7, .load none (.t 6), none⟩,
 ⟨some 8, .fad 0 (.t 3), none⟩,
 ⟨some 9, .load none (.t 8), none⟩,
 ⟨some 10, .binb true (.t 7) (.t 9), none⟩,
 ⟨some 11, .mov (.t 10), none⟩,
 ⟨some 12, .fad 1 (.t 2), (some (11, false))⟩,
 ⟨some 13, .load none (.t 12), (some (11, false))⟩,
 ⟨some 14, .len (.t 13), (some (11, false))⟩,
 ⟨some 15, .fad 1 (.t 3), (some (11, false))⟩,
 ⟨some 16, .load none (.t 15), (some (11, false))⟩,
 ⟨some 17, .len (.t 16), (some (11, false))⟩,
 ⟨some 18, .bin .neq (.t 14) (.t 17), (some (11, false))⟩,
 ⟨some 19, .pick (.t 11) (.c (.v (.bool true))) (.t 18), none⟩] []) <|
 .keep [2, 3, 19] [[2], [3]]) <|
 .cond (.t 19) (.seq (.seq (.reg [⟨some 4, .mov (.c (.v (.bool false))), none⟩] []) <|
 .keep [4] []) <|
 .ret) <|
 .skip) <|
 .seq (.seq (.seq (.reg [⟨some 5, .mov (.c (.v (.int .i64 0))), none⟩] []) <|
 .keep [2, 3, 5] [[2], [3]]) <|
 .seq (.blk 0 <|
 .seq (.keep [2, 3, 5] [[2], [3]]) <|
 .loop gantryref04_Same_l0) <|
 .keep [] []) <|
 .seq (.seq (.reg [⟨some 4, .mov (.c (.v (.bool true))), none⟩] []) <|
 .keep [4] []) <|
 .ret, [.t 4]⟩

def integer_plus_l0 : C :=
 .seq (.seq (.seq (.reg [⟨some 24, .bin .lss (.t 23) (.t 22), none⟩] []) <|
 .keep [0, 1, 5, 6, 21, 22, 23, 24] [[20]]) <|
 .seq (.cond (.t 24) (.skip) <|
 .seq (.keep [0, 5, 6] [[20]]) <|
 .exit 0) <|
 .seq (.seq (.blk 1 <|
 .seq (.seq (.reg [⟨some 25, .mov (.t 23), none⟩,
 ⟨some 26, .ixa 1 (.t 21) (.t 23), none⟩,
 ⟨some 27, .load none (.t 26), none⟩,
 ⟨some 7, .mov (.t 25), none⟩,
 ⟨some 8, .mov (.t 27), none⟩] []) <|
 .keep [0, 1, 5, 6, 7, 8, 21, 22, 23] [[20]]) <|
 .seq (.seq (.reg [⟨some 28, .mov (.t 8), none⟩,
 ⟨some 29, .mov (.t 6), none⟩,
 ⟨some 30, .bin .add (.t 28) (.t 29), none⟩,
 ⟨some 9, .mov (.t 30), none⟩] []) <|
 .keep [0, 1, 5, 7, 9, 21, 22, 23] [[20]]) <|
 .seq (.seq (.seq (.reg [⟨some 31, .mov (.t 7), none⟩,
 ⟨some 32, .mov (.t 1), none⟩,
 ⟨some 33, .len (.t 32), none⟩,
 ⟨some 34, .bin .lss (.t 31) (.t 33), none⟩] []) <|
 .keep [0, 1, 5, 7, 9, 21, 22, 23, 34] [[20]]) <|
 .cond (.t 34) (.seq (.reg [⟨some 35, .mov (.t 9), none⟩,
 ⟨some 36, .mov (.t 1), none⟩,
 ⟨some 37, .mov (.t 7), none⟩,
 ⟨some 38, .ixa 1 (.t 36) (.t 37), none⟩,
 ⟨some 39, .load none (.t 38), none⟩,
 ⟨some 40, .bin .add (.t 35) (.t 39), none⟩,
 ⟨some 9, .mov (.t 40), none⟩] []) <|
 .keep [0, 1, 5, 7, 9, 21, 22, 23] [[20]]) <|
 .skip) <|
 .seq (.seq (.reg [⟨some 6, .mov (.c (.v (.int .i64 0))), none⟩] []) <|
 .keep [0, 1, 5, 6, 7, 9, 21, 22, 23] [[20]]) <|
 .seq (.seq (.seq (.reg [⟨some 41, .mov (.t 9), none⟩,
 ⟨some 42, .bin .geq (.t 41) (.c (.v (.int .i64 1000000000))), none⟩] []) <|
 .keep [0, 1, 5, 6, 7, 9, 21, 22, 23, 42] [[20]]) <|
 .cond (.t 42) (.seq (.reg [⟨some 43, .mov (.t 9), none⟩,
 ⟨some 44, .bin .sub (.t 43) (.c (.v (.int .i64 1000000000))), none⟩,
 ⟨some 9, .mov (.t 44), none⟩,
 ⟨some 6, .mov (.c (.v (.int .i64 1))), none⟩] []) <|
 .keep [0, 1, 5, 6, 7, 9, 21, 22, 23] [[20]]) <|
 .skip) <|
 .seq (.reg [⟨some 45, .mov (.t 5), none⟩,
 ⟨some 46, .mov (.t 7), none⟩,
 ⟨some 47, .mov (.t 9), none⟩,
 ⟨some 48, .ixa 1 (.t 45) (.t 46), none⟩,
 ⟨none, .store 1 (.t 48) (.t 47), none⟩] []) <|
 .keep [0, 1, 5, 6, 21, 22, 23] [[20]]) <|
 .keep [0, 1, 5, 6, 21, 22, 23] [[20]]) <|
 .seq (.reg [⟨some 49, .bin .add (.t 23) (.c (.v (.int .i64 1))), none⟩,
 ⟨some 23, .mov (.t 49), none⟩] []) <|
 .keep [0, 1, 5, 6, 21, 22, 23] [[20]]) <|
 .keep [0, 1, 5, 6, 21, 22, 23] [[20]]
def integer_plus : CF := ⟨2, .seq (.seq (.reg [⟨some 4, .mov (.c (.z true)), none⟩] []) <|
 .keep [0, 1] []) <|
 .seq (.seq (.seq (.reg [⟨some 10, .mov (.t 0), none⟩,
 ⟨some 11, .len (.t 10), none⟩,
 ⟨some 12, .mov (.t 1), none⟩,
 ⟨some 13, .len (.t 12), none⟩,
 ⟨some 14, .bin .lss (.t 11) (.t 13), none⟩] []) <|
 .keep [0, 1, 14] []) <|
 .cond (.t 14) (.seq (.reg [⟨some 15, .mov (.t 1), none⟩,
 ⟨some 16, .mov (.t 0), none⟩,
 ⟨some 0, .mov (.t 15), none⟩,
 ⟨some 1, .mov (.t 16), none⟩] []) <|
 .keep [0, 1] []) <|
 .skip) <|
 .seq (.seq (.reg [⟨some 17, .mov (.t 0), none⟩,
 ⟨some 18, .len (.t 17), none⟩,
 ⟨some 19, .bin .add (.t 18) (.c (.v (.int .i64 1))), none⟩,
 ⟨some 20, .mksl 1 8 [.v (.int .i64 0)] (.t 19) (.t 19), none⟩,
 ⟨some 5, .mov (.t 20), none⟩] []) <|
 .keep [0, 1, 5] [[20]]) <|
 .seq (.seq (.reg [⟨some 6, .mov (.c (.v (.int .i64 0))), none⟩] []) <|
 .keep [0, 1, 5, 6] [[20]]) <|
 .seq (.seq (.seq (.reg [⟨some 21, .mov (.t 0), none⟩,
 ⟨some 22, .len (.t 21), none⟩,
 ⟨some 23, .mov (.c (.v (.int .i64 0))), none⟩] []) <|
 .keep [0, 1, 5, 6, 21, 22, 23] [[20]]) <|
 .seq (.blk 0 <|
 .seq (.keep [0, 1, 5, 6, 21, 22, 23] [[20]]) <|
 .loop integer_plus_l0) <|
 .keep [0, 5, 6] [[20]]) <|
 .seq (.seq (.reg [⟨some 50, .mov (.t 5), none⟩,
 ⟨some 51, .mov (.t 0), none⟩,
 ⟨some 52, .len (.t 51), none⟩,
 ⟨some 53, .mov (.t 6), none⟩,
 ⟨some 54, .ixa 1 (.t 50) (.t 52), none⟩,
 ⟨none, .store 1 (.t 54) (.t 53), none⟩] []) <|
 .keep [5] [[20]]) <|
 .seq (.seq (.reg [⟨some 55, .mov (.t 5), none⟩,
 ⟨some 4, .mov (.t 55), none⟩] []) <|
 .keep [4] [[20]]) <|
 .ret, [.t 4]⟩

def integer_compare_l0 : C :=
 .seq (.seq (.seq (.seq (.reg [⟨some 19, .mov (.t 5), none⟩,
 ⟨some 20, .bin .geq (.t 19) (.c (.v (.int .i64 0))), none⟩] []) <|
 .keep [0, 1, 5, 20] []) <|
 .cond (.t 20) (.skip) <|
 .seq (.keep [] []) <|
 .exit 0) <|
 .seq (.seq (.blk 1 <|
 .seq (.seq (.reg [⟨some 23, .mov (.t 0), none⟩,
 ⟨some 24, .mov (.t 5), none⟩,
 ⟨some 25, .ixa 1 (.t 23) (.t 24), none⟩,
 ⟨some 26, .load none (.t 25), none⟩,
 ⟨some 27, .mov (.t 1), none⟩,
 ⟨some 28, .mov (.t 5), none⟩,
 ⟨some 29, .ixa 1 (.t 27) (.t 28), none⟩,
 ⟨some 30, .load none (.t 29), none⟩,
 ⟨some 31, .bin .neq (.t 26) (.t 30), none⟩] []) <|
 .keep [0, 1, 5, 31] []) <|
 .cond (.t 31) (.seq (.seq (.reg [⟨some 32, .mov (.t 0), none⟩,
 ⟨some 33, .mov (.t 5), none⟩,
 ⟨some 34, .ixa 1 (.t 32) (.t 33), none⟩,
 ⟨some 35, .load none (.t 34), none⟩,
 ⟨some 36, .mov (.t 1), none⟩,
 ⟨some 37, .mov (.t 5), none⟩,
 ⟨some 38, .ixa 1 (.t 36) (.t 37), none⟩,
 ⟨some 39, .load none (.t 38), none⟩,
 ⟨some 40, .call n_cmp_Compare_int [(.t 35), (.t 39)] false, none⟩,
 ⟨some 4, .mov (.t 40), none⟩] []) <|
 .keep [4] []) <|
 .ret) <|
 .skip) <|
 .keep [0, 1, 5] []) <|
 .seq (.reg [⟨some 21, .mov (.t 5), none⟩,
 ⟨some 22, .bin .sub (.t 21) (.c (.v (.int .i64 1))), none⟩,
 ⟨some 5, .mov (.t 22), none⟩] []) <|
 .keep [0, 1, 5] []) <|
 .keep [0, 1, 5] []
def integer_compare : CF := ⟨2, .seq (.seq (.reg [⟨some 4, .mov (.c (.v (.int .i64 0))), none⟩] []) <|
 .keep [0, 1] []) <|
 .seq (.seq (.seq (.reg [⟨some 6, .mov (.t 0), none⟩,
 ⟨some 7, .len (.t 6), none⟩,
 ⟨some 8, .mov (.t 1), none⟩,
 ⟨some 9, .len (.t 8), none⟩,
 ⟨some 10, .bin .neq (.t 7) (.t 9), none⟩] []) <|
 .keep [0, 1, 10] []) <|
 .cond (.t 10) (.seq (.seq (.reg [⟨some 11, .mov (.t 0), none⟩,
 ⟨some 12, .len (.t 11), none⟩,
 ⟨some 13, .mov (.t 1), none⟩,
 ⟨some 14, .len (.t 13), none⟩,
 ⟨some 15, .call n_cmp_Compare_int [(.t 12), (.t 14)] false, none⟩,
 ⟨some 4, .mov (.t 15), none⟩] []) <|
 .keep [4] []) <|
 .ret) <|
 .skip) <|
 .seq (.seq (.seq (.reg [⟨some 16, .mov (.t 0), none⟩,
 ⟨some 17, .len (.t 16), none⟩,
 ⟨some 18, .bin .sub (.t 17) (.c (.v (.int .i64 1))), none⟩,
 ⟨some 5, .mov (.t 18), none⟩] []) <|
 .keep [0, 1, 5] []) <|
 .seq (.blk 0 <|
 .seq (.keep [0, 1, 5] []) <|
 .loop integer_compare_l0) <|
 .keep [] []) <|
 .seq (.seq (.reg [⟨some 4, .mov (.c (.v (.int .i64 0))), none⟩] []) <|
 .keep [4] []) <|
 .ret, [.t 4]⟩

def integer_minus_l0 : C :=
 .seq (.seq (.seq (.reg [⟨some 16, .bin .lss (.t 15) (.t 14), none⟩] []) <|
 .keep [1, 5, 14, 15, 16] [[9]]) <|
 .seq (.cond (.t 16) (.skip) <|
 .seq (.keep [5] [[9]]) <|
 .exit 0) <|
 .seq (.seq (.blk 1 <|
 .seq (.seq (.reg [⟨some 17, .mov (.t 15), none⟩,
 ⟨some 6, .mov (.t 17), none⟩] []) <|
 .keep [1, 5, 6, 14, 15] [[9]]) <|
 .seq (.seq (.seq (.reg [⟨some 18, .mov (.t 6), none⟩,
 ⟨some 19, .mov (.t 1), none⟩,
 ⟨some 20, .len (.t 19), none⟩,
 ⟨some 21, .bin .lss (.t 18) (.t 20), none⟩] []) <|
 .keep [1, 5, 6, 14, 15, 21] [[9]]) <|
 .cond (.t 21) (.seq (.reg [⟨some 22, .mov (.t 5), none⟩,
 ⟨some 23, .mov (.t 6), none⟩,
 ⟨some 24, .ixa 1 (.t 22) (.t 23), none⟩,
 ⟨some 25, .load none (.t 24), none⟩,
 ⟨some 26, .mov (.t 1), none⟩,
 ⟨some 27, .mov (.t 6), none⟩,
 ⟨some 28, .ixa 1 (.t 26) (.t 27), none⟩,
 ⟨some 29, .load none (.t 28), none⟩,
 ⟨some 30, .bin .sub (.t 25) (.t 29), none⟩,
 ⟨some 31, .ixa 1 (.t 22) (.t 23), none⟩,
 ⟨none, .store 1 (.t 31) (.t 30), none⟩] []) <|
 .keep [1, 5, 6, 14, 15] [[9]]) <|
 .skip) <|
 .seq (.seq (.reg [⟨some 32, .mov (.t 5), none⟩,
 ⟨some 33, .mov (.t 6), none⟩,
 ⟨some 34, .ixa 1 (.t 32) (.t 33), none⟩,
 ⟨some 35, .load none (.t 34), none⟩,
 ⟨some 36, .bin .lss (.t 35) (.c (.v (.int .i64 0))), none⟩] []) <|
 .keep [1, 5, 6, 14, 15, 36] [[9]]) <|
 .cond (.t 36) (.seq (.seq (.reg [⟨some 37, .mov (.t 5), none⟩,
 ⟨some 38, .mov (.t 6), none⟩,
 ⟨some 39, .ixa 1 (.t 37) (.t 38), none⟩,
 ⟨some 40, .load none (.t 39), none⟩,
 ⟨some 41, .bin .add (.t 40) (.c (.v (.int .i64 1000000000))), none⟩,
 ⟨some 42, .ixa 1 (.t 37) (.t 38), none⟩,
 ⟨none, .store 1 (.t 42) (.t 41), none⟩] []) <|
 .keep [1, 5, 6, 14, 15] [[9]]) <|
 .seq (.reg [⟨some 43, .mov (.t 5), none⟩,
 ⟨some 44, .mov (.t 6), none⟩,
 ⟨some 45, .bin .add (.t 44) (.c (.v (.int .i64 1))), none⟩,
 ⟨some 46, .ixa 1 (.t 43) (.t 45), none⟩,
 ⟨some 47, .load none (.t 46), none⟩,
 ⟨some 48, .bin .sub (.t 47) (.c (.v (.int .i64 1))), none⟩,
 ⟨some 49, .ixa 1 (.t 43) (.t 45), none⟩,
 ⟨none, .store 1 (.t 49) (.t 48), none⟩] []) <|
 .keep [1, 5, 14, 15] [[9]]) <|
 .skip) <|
 .keep [1, 5, 14, 15] [[9]]) <|
 .seq (.reg [⟨some 50, .bin .add (.t 15) (.c (.v (.int .i64 1))), none⟩,
 ⟨some 15, .mov (.t 50), none⟩] []) <|
 .keep [1, 5, 14, 15] [[9]]) <|
 .keep [1, 5, 14, 15] [[9]]
def integer_minus : CF := ⟨2, .seq (.seq (.reg [⟨some 4, .mov (.c (.z true)), none⟩] []) <|
 .keep [0, 1] []) <|
 .seq (.seq (.reg [⟨some 7, .mov (.t 0), none⟩,
 ⟨some 8, .len (.t 7), none⟩,
 ⟨some 9, .mksl 1 8 [.v (.int .i64 0)] (.t 8) (.t 8), none⟩,
 ⟨some 5, .mov (.t 9), none⟩] []) <|
 .keep [0, 1, 5] [[9]]) <|
 .seq (.seq (.reg [⟨some 10, .mov (.t 5), none⟩,
 ⟨some 11, .mov (.t 0), none⟩,
 ⟨some 12, .cpy 1 (.t 10) (.t 11), none⟩] []) <|
 .keep [1, 5] [[9]]) <|
 .seq (.seq (.seq (.reg [⟨some 13, .mov (.t 5), none⟩,
 ⟨some 14, .len (.t 13), none⟩,
 ⟨some 15, .mov (.c (.v (.int .i64 0))), none⟩] []) <|
 .keep [1, 5, 14, 15] [[9]]) <|
 .seq (.blk 0 <|
 .seq (.keep [1, 5, 14, 15] [[9]]) <|
 .loop integer_minus_l0) <|
 .keep [5] [[9]]) <|
 .seq (.seq (.reg [⟨some 51, .mov (.t 5), none⟩,
 ⟨some 4, .mov (.t 51), none⟩] []) <|
 .keep [4] [[9]]) <|
 .ret, [.t 4]⟩

def integer_unsigned : CF := ⟨2, .seq (.seq (.reg [⟨some 4, .new [.v (.bool false), .z true], none⟩] []) <|
 .keep [0, 1, 4] [[4]]) <|
 .seq (.seq (.blk 0 <|
 .seq (.seq (.reg [⟨some 6, .mov (.t 1), none⟩,
 ⟨some 7, .bin .eql (.t 6) (.c (.v (.int .u64 0))), none⟩,
 ⟨some 5, .mov (.t 7), none⟩] []) <|
 .keep [0, 1, 4, 5] [[4]]) <|
 .cond (.t 5) (.seq (.seq (.reg [⟨some 8, .build [.v (.bool false), .z true] [], none⟩,
 ⟨none, .store 2 (.t 4) (.t 8), none⟩] []) <|
 .keep [4] [[4]]) <|
 .ret) <|
 .seq (.seq (.reg [⟨some 10, .mov (.t 1), none⟩,
 ⟨some 11, .bin .lss (.t 10) (.c (.v (.int .u64 1000000000))), none⟩,
 ⟨some 9, .mov (.t 11), none⟩] []) <|
 .keep [0, 1, 4, 9] [[4]]) <|
 .cond (.t 9) (.seq (.seq (.reg [⟨some 12, .mov (.t 0), none⟩,
 ⟨some 13, .mov (.t 1), none⟩,
 ⟨some 14, .conv (.int .i64) (.t 13), none⟩,
 ⟨some 15, .lit 1 1 [.v (.int .i64 0)] [(0, (.t 14))] true, none⟩,
 ⟨some 16, .build [.v (.bool false), .z true] [(0, 1, (.t 12)), (1, 1, (.t 15))], none⟩,
 ⟨none, .store 2 (.t 4) (.t 16), none⟩] []) <|
 .keep [4] [[4]]) <|
 .ret) <|
 .seq (.seq (.reg [⟨some 18, .mov (.t 1), none⟩,
 ⟨some 19, .bin .lss (.t 18) (.c (.v (.int .u64 1000000000000000000))), none⟩,
 ⟨some 17, .mov (.t 19), none⟩] []) <|
 .keep [0, 1, 4, 17] [[4]]) <|
 .cond (.t 17) (.seq (.seq (.reg [⟨some 20, .mov (.t 0), none⟩,
 ⟨some 21, .mov (.t 1), none⟩,
 ⟨some 22, .bin .rem (.t 21) (.c (.v (.int .u64 1000000000))), none⟩,
 ⟨some 23, .conv (.int .i64) (.t 22), none⟩,
 ⟨some 24, .mov (.t 1), none⟩,
 ⟨some 25, .bin .quo (.t 24) (.c (.v (.int .u64 1000000000))), none⟩,
 ⟨some 26, .conv (.int .i64) (.t 25), none⟩,
 ⟨some 27, .lit 1 2 [.v (.int .i64 0)] [(0, (.t 23)), (1, (.t 26))] true, none⟩,
 ⟨some 28, .build [.v (.bool false), .z true] [(0, 1, (.t 20)), (1, 1, (.t 27))], none⟩,
 ⟨none, .store 2 (.t 4) (.t 28), none⟩] []) <|
 .keep [4] [[4]]) <|
 .ret) <|
 .skip) <|
 .keep [0, 1, 4] [[4]]) <|
 .seq (.seq (.reg [⟨some 29, .mov (.t 0), none⟩,
 ⟨some 30, .mov (.t 1), none⟩,
 ⟨some 31, .bin .rem (.t 30) (.c (.v (.int .u64 1000000000))), none⟩,
 ⟨some 32, .conv (.int .i64) (.t 31), none⟩,
 ⟨some 33, .mov (.t 1), none⟩,
 ⟨some 34, .bin .quo (.t 33) (.c (.v (.int .u64 1000000000))), none⟩,
 ⟨some 35, .bin .rem (.t 34) (.c (.v (.int .u64 1000000000))), none⟩,
 ⟨some 36, .conv (.int .i64) (.t 35), none⟩,
 ⟨some 37, .mov (.t 1), none⟩,
 ⟨some 38, .bin .quo (.t 37) (.c (.v (.int .u64 1000000000))), none⟩,
 ⟨some 39, .bin .quo (.t 38) (.c (.v (.int .u64 1000000000))), none⟩,
 ⟨some 40, .conv (.int .i64) (.t 39), none⟩,
 ⟨some 41, .lit 1 3 [.v (.int .i64 0)] [(0, (.t 32)), (1, (.t 36)), (2, (.t 40))] true, none⟩,
 ⟨some 42, .build [.v (.bool false), .z true] [(0, 1, (.t 29)), (1, 1, (.t 41))], none⟩,
 ⟨none, .store 2 (.t 4) (.t 42), none⟩] []) <|
 .keep [4] [[4]]) <|
 .ret, [.cell 4 (some 2)]⟩

def integer_divide : CF := ⟨2, .seq (.seq (.reg [⟨some 4, .new [.v (.bool false), .z true], none⟩,
 ⟨some 5, .new [.v (.bool false), .z true], none⟩] []) <|
 .keep [0, 1, 4, 5] [[4], [5]]) <|
 .seq (.seq (.seq (.reg [⟨some 15, .mov (.t 0), none⟩,
 ⟨some 16, .call n_integer_two [(.t 15)] false, none⟩,
 ⟨some 14, .mov (.t 16), none⟩,
 ⟨some 17, .ext (.t 14) 0, none⟩,
 ⟨some 18, .ext (.t 14) 1, none⟩,
 ⟨some 6, .mov (.t 17), none⟩,
 ⟨some 7, .mov (.t 18), none⟩] []) <|
 .keep [0, 1, 4, 5, 6, 7] [[4], [5]]) <|
 .seq (.seq (.reg [⟨some 19, .mov (.t 7), none⟩] []) <|
 .keep [0, 1, 4, 5, 6, 19] [[4], [5]]) <|
 .cond (.t 19) (.seq (.seq (.reg [⟨some 21, .mov (.t 1), none⟩,
 ⟨some 22, .call n_integer_two [(.t 21)] false, none⟩,
 ⟨some 20, .mov (.t 22), none⟩,
 ⟨some 23, .ext (.t 20) 0, none⟩,
 ⟨some 24, .ext (.t 20) 1, none⟩,
 ⟨some 8, .mov (.t 23), none⟩,
 ⟨some 9, .mov (.t 24), none⟩] []) <|
 .keep [0, 1, 4, 5, 6, 8, 9] [[4], [5]]) <|
 .seq (.seq (.reg [⟨some 25, .mov (.t 9), none⟩] []) <|
 .keep [0, 1, 4, 5, 6, 8, 25] [[4], [5]]) <|
 .cond (.t 25) (.seq (.seq (.reg [⟨some 26, .mov (.t 6), none⟩,
 ⟨some 27, .mov (.t 8), none⟩,
 ⟨some 28, .bin .quo (.t 26) (.t 27), none⟩,
 ⟨some 29, .conv (.int .u64) (.t 28), none⟩,
 ⟨some 30, .call n_integer_unsigned [(.c (.v (.bool false))), (.t 29)] false, none⟩,
 ⟨some 31, .mov (.t 6), none⟩,
 ⟨some 32, .mov (.t 8), none⟩,
 ⟨some 33, .bin .rem (.t 31) (.t 32), none⟩,
 ⟨some 34, .conv (.int .u64) (.t 33), none⟩,
 ⟨some 35, .call n_integer_unsigned [(.c (.v (.bool false))), (.t 34)] false, none⟩,
 ⟨none, .store 2 (.t 4) (.t 30), none⟩,
 ⟨none, .store 2 (.t 5) (.t 35), none⟩] []) <|
 .keep [4, 5] [[4], [5]]) <|
 .ret) <|
 .skip) <|
 .skip) <|
 .seq (.seq (.seq (.reg [⟨some 36, .mov (.t 0), none⟩,
 ⟨some 37, .mov (.t 1), none⟩,
 ⟨some 38, .call n_integer_compare [(.t 36), (.t 37)] false, none⟩,
 ⟨some 39, .bin .lss (.t 38) (.c (.v (.int .i64 0))), none⟩] []) <|
 .keep [0, 1, 4, 5, 39] [[4], [5]]) <|
 .cond (.t 39) (.seq (.seq (.reg [⟨some 40, .build [.v (.bool false), .z true] [], none⟩,
 ⟨some 41, .mov (.t 0), none⟩,
 ⟨some 42, .call n_integer_of [(.c (.v (.bool false))), (.t 41)] false, none⟩,
 ⟨none, .store 2 (.t 4) (.t 40), none⟩,
 ⟨none, .store 2 (.t 5) (.t 42), none⟩] []) <|
 .keep [4, 5] [[4], [5]]) <|
 .ret) <|
 .skip) <|
 .seq (.seq (.seq (.reg [⟨some 43, .mov (.t 1), none⟩,
 ⟨some 44, .len (.t 43), none⟩,
 ⟨some 45, .bin .eql (.t 44) (.c (.v (.int .i64 1))), none⟩] []) <|
 .keep [0, 1, 4, 5, 45] [[4], [5]]) <|
 .cond (.t 45) (.seq (.seq (.reg [⟨some 47, .mov (.t 0), none⟩,
 ⟨some 48, .mov (.t 1), none⟩,
 ⟨some 49, .ixa 1 (.t 48) (.c (.v (.int .i64 0))), none⟩,
 ⟨some 50, .load none (.t 49), none⟩,
 ⟨some 51, .call n_integer_short [(.t 47), (.t 50)] false, none⟩,
 ⟨some 46, .mov (.t 51), none⟩,
 ⟨some 52, .ext (.t 46) 0, none⟩,
 ⟨some 53, .ext (.t 46) 1, none⟩,
 ⟨some 10, .mov (.t 52), none⟩,
 ⟨some 11, .mov (.t 53), none⟩] []) <|
 .keep [4, 5, 10, 11] [[4], [5]]) <|
 .seq (.seq (.reg [⟨some 54, .mov (.t 10), none⟩,
 ⟨some 55, .call n_integer_of [(.c (.v (.bool false))), (.t 54)] false, none⟩,
 ⟨some 56, .mov (.t 11), none⟩,
 ⟨some 57, .conv (.int .u64) (.t 56), none⟩,
 ⟨some 58, .call n_integer_unsigned [(.c (.v (.bool false))), (.t 57)] false, none⟩,
 ⟨none, .store 2 (.t 4) (.t 55), none⟩,
 ⟨none, .store 2 (.t 5) (.t 58), none⟩] []) <|
 .keep [4, 5] [[4], [5]]) <|
 .ret) <|
 .skip) <|
 .seq (.seq (.reg [⟨some 60, .mov (.t 0), none⟩,
 ⟨some 61, .mov (.t 1), none⟩,
 ⟨some 62, .call n_integer_long [(.t 60), (.t 61)] false, none⟩,
 ⟨some 59, .mov (.t 62), none⟩,
 ⟨some 63, .ext (.t 59) 0, none⟩,
 ⟨some 64, .ext (.t 59) 1, none⟩,
 ⟨some 12, .mov (.t 63), none⟩,
 ⟨some 13, .mov (.t 64), none⟩] []) <|
 .keep [4, 5, 12, 13] [[4], [5]]) <|
 .seq (.seq (.reg [⟨some 65, .mov (.t 12), none⟩,
 ⟨some 66, .call n_integer_of [(.c (.v (.bool false))), (.t 65)] false, none⟩,
 ⟨some 67, .mov (.t 13), none⟩,
 ⟨some 68, .call n_integer_of [(.c (.v (.bool false))), (.t 67)] false, none⟩,
 ⟨none, .store 2 (.t 4) (.t 66), none⟩,
 ⟨none, .store 2 (.t 5) (.t 68), none⟩] []) <|
 .keep [4, 5] [[4], [5]]) <|
 .ret, [.cell 4 (some 2), .cell 5 (some 2)]⟩

def integer_two : CF := ⟨1, .seq (.seq (.reg [⟨some 2, .mov (.c (.v (.int .i64 0))), none⟩,
 ⟨some 3, .mov (.c (.v (.bool false))), none⟩] []) <|
 .keep [0] []) <|
 .seq (.seq (.seq (.reg [⟨some 4, .mov (.t 0), none⟩,
 ⟨some 5, .len (.t 4), none⟩] []) <|
 .keep [0, 5] []) <|
 .seq (.blk 0 <|
 .seq (.seq (.reg [⟨some 7, .bin .eql (.t 5) (.c (.v (.int .i64 0))), none⟩,
 ⟨some 6, .mov (.t 7), none⟩] []) <|
 .keep [0, 5, 6] []) <|
 .cond (.t 6) (.seq (.seq (.reg [⟨some 2, .mov (.c (.v (.int .i64 0))), none⟩,
 ⟨some 3, .mov (.c (.v (.bool true))), none⟩] []) <|
 .keep [2, 3] []) <|
 .ret) <|
 .seq (.seq (.reg [⟨some 9, .bin .eql (.t 5) (.c (.v (.int .i64 1))), none⟩,
 ⟨some 8, .mov (.t 9), none⟩] []) <|
 .keep [0, 5, 8] []) <|
 .cond (.t 8) (.seq (.seq (.reg [⟨some 10, .mov (.t 0), none⟩,
 ⟨some 11, .ixa 1 (.t 10) (.c (.v (.int .i64 0))), none⟩,
 ⟨some 12, .load none (.t 11), none⟩,
 ⟨some 2, .mov (.t 12), none⟩,
 ⟨some 3, .mov (.c (.v (.bool true))), none⟩] []) <|
 .keep [2, 3] []) <|
 .ret) <|
 .seq (.seq (.reg [⟨some 14, .bin .eql (.t 5) (.c (.v (.int .i64 2))), none⟩,
 ⟨some 13, .mov (.t 14), none⟩] []) <|
 .keep [0, 13] []) <|
 .cond (.t 13) (.seq (.seq (.reg [⟨some 15, .mov (.t 0), none⟩,
 ⟨some 16, .ixa 1 (.t 15) (.c (.v (.int .i64 1))), none⟩,
 ⟨some 17, .load none (.t 16), none⟩,
 ⟨some 18, .bin .mul (.t 17) (.c (.v (.int .i64 1000000000))), none⟩,
 ⟨some 19, .mov (.t 0), none⟩,
 ⟨some 20, .ixa 1 (.t 19) (.c (.v (.int .i64 0))), none⟩,
 ⟨some 21, .load none (.t 20), none⟩,
 ⟨some 22, .bin .add (.t 18) (.t 21), none⟩,
 ⟨some 2, .mov (.t 22), none⟩,
 ⟨some 3, .mov (.c (.v (.bool true))), none⟩] []) <|
 .keep [2, 3] []) <|
 .ret) <|
 .skip) <|
 .keep [] []) <|
 .seq (.seq (.reg [⟨some 2, .mov (.c (.v (.int .i64 0))), none⟩,
 ⟨some 3, .mov (.c (.v (.bool false))), none⟩] []) <|
 .keep [2, 3] []) <|
 .ret, [.t 2, .t 3]⟩

def slices_ContainsFunc_int_int : CF := ⟨2, .seq (.seq (.reg [⟨some 4, .mov (.c (.v (.bool false))), none⟩] []) <|
 .keep [0, 1] []) <|
 .seq (.seq (.reg [⟨some 5, .mov (.t 0), none⟩,
 ⟨some 6, .mov (.t 1), none⟩,
 ⟨some 7, .call n_slices_IndexFunc_int_int [(.t 5), (.t 6)] false, none⟩,
 ⟨some 8, .bin .geq (.t 7) (.c (.v (.int .i64 0))), none⟩,
 ⟨some 4, .mov (.t 8), none⟩] []) <|
 .keep [4] []) <|
 .ret, [.t 4]⟩

def integer_Valid_1 : CF := ⟨1, .seq (.seq (.reg [⟨some 2, .mov (.c (.v (.bool false))), none⟩] []) <|
 .keep [0] []) <|
 .seq (.seq (.reg [⟨some 3, .mov (.t 0), none⟩,
 ⟨some 4, .bin .lss (.t 3) (.c (.v (.int .i64 0))), none⟩,
 ⟨some 5, .mov (.t 4), none⟩,
 ⟨some 6, .mov (.t 0), (some (5, false))⟩,
 ⟨some 7, .bin .geq (.t 6) (.c (.v (.int .i64 1000000000))), (some (5, false))⟩,
 ⟨some 8, .pick (.t 5) (.c (.v (.bool true))) (.t 7), none⟩,
 ⟨some 2, .mov (.t 8), none⟩] []) <|
 .keep [2] []) <|
 .ret, [.t 2]⟩

def strings_CutPrefix : CF := ⟨2, .seq (.seq (.reg [⟨some 4, .mov (.c (.v (.string ⟨#[]⟩))), none⟩,
 ⟨some 5, .mov (.c (.v (.bool false))), none⟩] []) <|
 .keep [0, 1] []) <|
 .seq (.seq (.reg [⟨some 6, .mov (.t 0), none⟩,
 ⟨some 7, .mov (.t 1), none⟩,
 ⟨some 8, .call n_internal_stringslite_CutPrefix [(.t 6), (.t 7)] false, none⟩,
 ⟨some 9, .ext (.t 8) 0, none⟩,
 ⟨some 10, .ext (.t 8) 1, none⟩,
 ⟨some 4, .mov (.t 9), none⟩,
 ⟨some 5, .mov (.t 10), none⟩] []) <|
 .keep [4, 5] []) <|
 .ret, [.t 4, .t 5]⟩

def wire_Ints_l0 : C :=
 .seq (.seq (.seq (.reg [⟨some 12, .bin .lss (.t 11) (.t 10), none⟩] []) <|
 .keep [3, 9, 10, 11, 12] [[8], [18]]) <|
 .seq (.cond (.t 12) (.skip) <|
 .seq (.keep [3] [[8], [18]]) <|
 .exit 0) <|
 .seq (.seq (.blk 1 <|
 .seq (.seq (.reg [⟨some 13, .ixa 1 (.t 9) (.t 11), none⟩,
 ⟨some 14, .load none (.t 13), none⟩,
 ⟨some 5, .mov (.t 14), none⟩] []) <|
 .keep [3, 5, 9, 10, 11] [[8], [18]]) <|
 .seq (.reg [⟨some 15, .mov (.t 3), none⟩,
 ⟨some 16, .mov (.t 5), none⟩,
 ⟨some 17, .call n_wire_Int [(.t 16)] false, none⟩,
 ⟨some 18, .app 1 1 (.t 15) (.t 17) false, none⟩,
 ⟨some 3, .mov (.t 18), none⟩] []) <|
 .keep [3, 9, 10, 11] [[8], [18]]) <|
 .keep [3, 9, 10, 11] [[8], [18]]) <|
 .seq (.reg [⟨some 19, .bin .add (.t 11) (.c (.v (.int .i64 1))), none⟩,
 ⟨some 11, .mov (.t 19), none⟩] []) <|
 .keep [3, 9, 10, 11] [[8], [18]]) <|
 .keep [3, 9, 10, 11] [[8], [18]]
def wire_Ints : CF := ⟨1, .seq (.seq (.reg [⟨some 2, .mov (.c (.z true)), none⟩] []) <|
 .keep [0] []) <|
 .seq (.seq (.reg [⟨some 6, .mov (.t 0), none⟩,
 ⟨some 7, .len (.t 6), none⟩,
 ⟨some 8, .call n_wire_Int [(.t 7)] true, none⟩,
 ⟨some 3, .mov (.t 8), none⟩] []) <|
 .keep [0, 3] [[8], [18]]) <|
 .seq (.seq (.seq (.reg [⟨some 9, .mov (.t 0), none⟩,
 ⟨some 10, .len (.t 9), none⟩,
 ⟨some 11, .mov (.c (.v (.int .i64 0))), none⟩] []) <|
 .keep [3, 9, 10, 11] [[8], [18]]) <|
 .seq (.blk 0 <|
 .seq (.keep [3, 9, 10, 11] [[8], [18]]) <|
 .loop wire_Ints_l0) <|
 .keep [3] [[8], [18]]) <|
 .seq (.seq (.reg [⟨some 20, .mov (.t 3), none⟩,
 ⟨some 2, .mov (.t 20), none⟩] []) <|
 .keep [2] [[8], [18]]) <|
 .ret, [.t 2]⟩

def gantryref01_Int_l0 : C :=
 .seq (.seq (.seq (.seq (.reg [⟨some 14, .mov (.t 3), none⟩,
 ⟨some 15, .bin .gtr (.t 14) (.c (.v (.int .i64 0))), none⟩] []) <|
 .keep [0, 3, 4, 15] [[21]]) <|
 .cond (.t 15) (.skip) <|
 .seq (.keep [0, 4] [[21]]) <|
 .exit 0) <|
 .seq (.blk 1 <|
 .seq (.seq (.reg [⟨some 16, .mov (.t 4), none⟩,
 ⟨some 17, .mov (.t 3), none⟩,
 ⟨some 18, .bin .rem (.t 17) (.c (.v (.int .i64 256))), none⟩,
 ⟨some 19, .conv (.int .u8) (.t 18), none⟩,
 ⟨some 20, .lit 1 1 [.v (.int .u8 0)] [(0, (.t 19))] true, none⟩,
 ⟨some 21, .app 1 1 (.t 16) (.t 20) false, none⟩,
 ⟨some 4, .mov (.t 21), none⟩] []) <|
 .keep [0, 3, 4] [[21]]) <|
 .seq (.reg [⟨some 22, .mov (.t 3), none⟩,
 ⟨some 23, .bin .quo (.t 22) (.c (.v (.int .i64 256))), none⟩,
 ⟨some 3, .mov (.t 23), none⟩] []) <|
 .keep [0, 3, 4] [[21]]) <|
 .keep [0, 3, 4] [[21]]) <|
 .keep [0, 3, 4] [[21]]
def gantryref01_Int_l1 : C :=
 .seq (.seq (.seq (.seq (.reg [⟨some 42, .mov (.t 7), none⟩,
 ⟨some 43, .bin .geq (.t 42) (.c (.v (.int .i64 0))), none⟩] []) <|
 .keep [0, 4, 6, 7, 43] [[21], [33], [39], [57]]) <|
 .cond (.t 43) (.skip) <|
 .seq (.keep [6] [[33], [39], [57]]) <|
 .exit 2) <|
 .seq (.seq (.blk 3 <|
 .seq (.seq (.reg [⟨some 46, .mov (.t 4), none⟩,
 ⟨some 47, .mov (.t 7), none⟩,
 ⟨some 48, .ixa 1 (.t 46) (.t 47), none⟩,
 ⟨some 49, .load none (.t 48), none⟩,
 ⟨some 8, .mov (.t 49), none⟩] []) <|
 .keep [0, 4, 6, 7, 8] [[21], [33], [39], [57]]) <|
 .seq (.seq (.seq (.reg [⟨some 50, .mov (.t 0), none⟩,
 ⟨some 51, .bin .lss (.t 50) (.c (.v (.int .i64 0))), none⟩] []) <|
 .keep [0, 4, 6, 7, 8, 51] [[21], [33], [39], [57]]) <|
 .cond (.t 51) (.seq (.reg [⟨some 52, .mov (.t 8), none⟩,
 ⟨some 53, .bin .sub (.c (.v (.int .u8 255))) (.t 52), none⟩,
 ⟨some 8, .mov (.t 53), none⟩] []) <|
 .keep [0, 4, 6, 7, 8] [[21], [33], [39], [57]]) <|
 .skip) <|
 .seq (.reg [⟨some 54, .mov (.t 6), none⟩,
 ⟨some 55, .mov (.t 8), none⟩,
 ⟨some 56, .lit 1 1 [.v (.int .u8 0)] [(0, (.t 55))] true, none⟩,
 ⟨some 57, .app 1 1 (.t 54) (.t 56) false, none⟩,
 ⟨some 6, .mov (.t 57), none⟩] []) <|
 .keep [0, 4, 6, 7] [[21], [33], [39], [57]]) <|
 .keep [0, 4, 6, 7] [[21], [33], [39], [57]]) <|
 .seq (.reg [⟨some 44, .mov (.t 7), none⟩,
 ⟨some 45, .bin .sub (.t 44) (.c (.v (.int .i64 1))), none⟩,
 ⟨some 7, .mov (.t 45), none⟩] []) <|
 .keep [0, 4, 6, 7] [[21], [33], [39], [57]]) <|
 .keep [0, 4, 6, 7] [[21], [33], [39], [57]]
def gantryref01_Int : CF := ⟨1, .seq (.seq (.reg [⟨some 2, .mov (.c (.z true)), none⟩] []) <|
 .keep [0] []) <|
 .seq (.seq (.reg [⟨some 9, .mov (.t 0), none⟩,
 ⟨some 3, .mov (.t 9), none⟩] []) <|
 .keep [0, 3] []) <|
 .seq (.seq (.seq (.reg [⟨some 10, .mov (.t 0), none⟩,
 ⟨some 11, .bin .lss (.t 10) (.c (.v (.int .i64 0))), none⟩] []) <|
 .keep [0, 3, 11] []) <|
 .cond (.t 11) (.seq (.reg [⟨some 12, .mov (.t 0), none⟩,
 ⟨some 13, .bin .sub (.c (.v (.int .i64 (-1)))) (.t 12), none⟩,
 ⟨some 3, .mov (.t 13), none⟩] []) <|
 .keep [0, 3] []) <|
 .skip) <|
 .seq (.seq (.reg [⟨some 4, .mov (.c (.z true)), none⟩] []) <|
 .keep [0, 3, 4] [[21]]) <|
 .seq (.seq (.blk 0 <|
 .seq (.keep [0, 3, 4] [[21]]) <|
 .loop gantryref01_Int_l0) <|
 .keep [0, 4] [[21]]) <|
 .seq (.seq (.reg [⟨some 24, .mov (.t 4), none⟩,
 ⟨some 25, .len (.t 24), none⟩,
 ⟨some 5, .mov (.t 25), none⟩] []) <|
 .keep [0, 4, 5] [[21]]) <|
 .seq (.seq (.reg [⟨some 6, .mov (.c (.z true)), none⟩] []) <|
 .keep [0, 4, 5, 6] [[21], [33], [39], [57]]) <|
 .seq (.seq (.seq (.reg [⟨some 26, .mov (.t 0), none⟩,
 ⟨some 27, .bin .geq (.t 26) (.c (.v (.int .i64 0))), none⟩] []) <|
 .keep [0, 4, 5, 6, 27] [[21], [33], [39], [57]]) <|
 .cond (.t 27) (.seq (.reg [⟨some 28, .mov (.t 6), none⟩,
 ⟨some 29, .mov (.t 5), none⟩,
 ⟨some 30, .bin .add (.c (.v (.int .i64 128))) (.t 29), none⟩,
 ⟨some 31, .conv (.int .u8) (.t 30), none⟩,
 ⟨some 32, .lit 1 1 [.v (.int .u8 0)] [(0, (.t 31))] true, none⟩,
 ⟨some 33, .app 1 1 (.t 28) (.t 32) false, none⟩,
 ⟨some 6, .mov (.t 33), none⟩] []) <|
 .keep [0, 4, 5, 6] [[21], [33], [39], [57]]) <|
 .seq (.reg [⟨some 34, .mov (.t 6), none⟩,
 ⟨some 35, .mov (.t 5), none⟩,
 ⟨some 36, .bin .sub (.c (.v (.int .i64 127))) (.t 35), none⟩,
 ⟨some 37, .conv (.int .u8) (.t 36), none⟩,
 ⟨some 38, .lit 1 1 [.v (.int .u8 0)] [(0, (.t 37))] true, none⟩,
 ⟨some 39, .app 1 1 (.t 34) (.t 38) false, none⟩,
 ⟨some 6, .mov (.t 39), none⟩] []) <|
 .keep [0, 4, 5, 6] [[21], [33], [39], [57]]) <|
 .seq (.seq (.seq (.reg [⟨some 40, .mov (.t 5), none⟩,
 ⟨some 41, .bin .sub (.t 40) (.c (.v (.int .i64 1))), none⟩,
 ⟨some 7, .mov (.t 41), none⟩] []) <|
 .keep [0, 4, 6, 7] [[21], [33], [39], [57]]) <|
 .seq (.blk 2 <|
 .seq (.keep [0, 4, 6, 7] [[21], [33], [39], [57]]) <|
 .loop gantryref01_Int_l1) <|
 .keep [6] [[33], [39], [57]]) <|
 .seq (.seq (.reg [⟨some 58, .mov (.t 6), none⟩,
 ⟨some 2, .mov (.t 58), none⟩] []) <|
 .keep [2] [[33], [39], [57]]) <|
 .ret, [.t 2]⟩

def gantryref04_digit : CF := ⟨2, .seq (.seq (.reg [⟨some 4, .mov (.c (.v (.int .i64 0))), none⟩] []) <|
 .keep [0, 1] []) <|
 .seq (.seq (.seq (.reg [⟨some 5, .mov (.t 1), none⟩,
 ⟨some 6, .mov (.t 0), none⟩,
 ⟨some 7, .len (.t 6), none⟩,
 ⟨some 8, .bin .lss (.t 5) (.t 7), none⟩] []) <|
 .keep [0, 1, 8] []) <|
 .cond (.t 8) (.seq (.seq (.reg [⟨some 9, .mov (.t 0), none⟩,
 ⟨some 10, .mov (.t 1), none⟩,
 ⟨some 11, .ixa 1 (.t 9) (.t 10), none⟩,
 ⟨some 12, .load none (.t 11), none⟩,
 ⟨some 4, .mov (.t 12), none⟩] []) <|
 .keep [4] []) <|
 .ret) <|
 .skip) <|
 .seq (.seq (.reg [⟨some 4, .mov (.c (.v (.int .i64 0))), none⟩] []) <|
 .keep [4] []) <|
 .ret, [.t 4]⟩

def cmp_Compare_int : CF := ⟨2, .seq (.seq (.reg [⟨some 4, .mov (.c (.v (.int .i64 0))), none⟩] []) <|
 .keep [0, 1] []) <|
 .seq (.seq (.reg [⟨some 7, .mov (.t 0), none⟩,
 ⟨some 8, .call n_cmp_isNaN_int [(.t 7)] false, none⟩,
 ⟨some 5, .mov (.t 8), none⟩] []) <|
 .keep [0, 1, 5] []) <|
 .seq (.seq (.reg [⟨some 9, .mov (.t 1), none⟩,
 ⟨some 10, .call n_cmp_isNaN_int [(.t 9)] false, none⟩,
 ⟨some 6, .mov (.t 10), none⟩] []) <|
 .keep [0, 1, 5, 6] []) <|
 .seq (.seq (.seq (.reg [⟨some 11, .mov (.t 5), none⟩] []) <|
 .keep [0, 1, 6, 11] []) <|
 .cond (.t 11) (.seq (.seq (.seq (.reg [⟨some 12, .mov (.t 6), none⟩] []) <|
 .keep [12] []) <|
 .cond (.t 12) (.seq (.seq (.reg [⟨some 4, .mov (.c (.v (.int .i64 0))), none⟩] []) <|
 .keep [4] []) <|
 .ret) <|
 .skip) <|
 .seq (.seq (.reg [⟨some 4, .mov (.c (.v (.int .i64 (-1)))), none⟩] []) <|
 .keep [4] []) <|
 .ret) <|
 .skip) <|
 .seq (.seq (.seq (.reg [⟨some 13, .mov (.t 6), none⟩] []) <|
 .keep [0, 1, 13] []) <|
 .cond (.t 13) (.seq (.seq (.reg [⟨some 4, .mov (.c (.v (.int .i64 1))), none⟩] []) <|
 .keep [4] []) <|
 .ret) <|
 .skip) <|
 .seq (.seq (.seq (.reg [⟨some 14, .mov (.t 0), none⟩,
 ⟨some 15, .mov (.t 1), none⟩,
 ⟨some 16, .bin .lss (.t 14) (.t 15), none⟩] []) <|
 .keep [0, 1, 16] []) <|
 .cond (.t 16) (.seq (.seq (.reg [⟨some 4, .mov (.c (.v (.int .i64 (-1)))), none⟩] []) <|
 .keep [4] []) <|
 .ret) <|
 .skip) <|
 .seq (.seq (.seq (.reg [⟨some 17, .mov (.t 0), none⟩,
 ⟨some 18, .mov (.t 1), none⟩,
 ⟨some 19, .bin .gtr (.t 17) (.t 18), none⟩] []) <|
 .keep [19] []) <|
 .cond (.t 19) (.seq (.seq (.reg [⟨some 4, .mov (.c (.v (.int .i64 1))), none⟩] []) <|
 .keep [4] []) <|
 .ret) <|
 .skip) <|
 .seq (.seq (.reg [⟨some 4, .mov (.c (.v (.int .i64 0))), none⟩] []) <|
 .keep [4] []) <|
 .ret, [.t 4]⟩

def integer_short_l0 : C :=
 .seq (.seq (.seq (.seq (.reg [⟨some 16, .mov (.t 8), none⟩,
 ⟨some 17, .bin .geq (.t 16) (.c (.v (.int .i64 0))), none⟩] []) <|
 .keep [0, 1, 6, 7, 8, 17] [[12]]) <|
 .cond (.t 17) (.skip) <|
 .seq (.keep [6, 7] [[12]]) <|
 .exit 0) <|
 .seq (.seq (.blk 1 <|
 .seq (.seq (.reg [⟨some 20, .mov (.t 7), none⟩,
 ⟨some 21, .bin .mul (.t 20) (.c (.v (.int .i64 1000000000))), none⟩,
 ⟨some 22, .mov (.t 0), none⟩,
 ⟨some 23, .mov (.t 8), none⟩,
 ⟨some 24, .ixa 1 (.t 22) (.t 23), none⟩,
 ⟨some 25, .load none (.t 24), none⟩,
 ⟨some 26, .bin .add (.t 21) (.t 25), none⟩,
 ⟨some 9, .mov (.t 26), none⟩] []) <|
 .keep [0, 1, 6, 8, 9] [[12]]) <|
 .seq (.reg [⟨some 27, .mov (.t 6), none⟩,
 ⟨some 28, .mov (.t 8), none⟩,
 ⟨some 29, .mov (.t 9), none⟩,
 ⟨some 30, .mov (.t 1), none⟩,
 ⟨some 31, .bin .quo (.t 29) (.t 30), none⟩,
 ⟨some 32, .mov (.t 9), none⟩,
 ⟨some 33, .mov (.t 1), none⟩,
 ⟨some 34, .bin .rem (.t 32) (.t 33), none⟩,
 ⟨some 35, .ixa 1 (.t 27) (.t 28), none⟩,
 ⟨none, .store 1 (.t 35) (.t 31), none⟩,
 ⟨some 7, .mov (.t 34), none⟩] []) <|
 .keep [0, 1, 6, 7, 8] [[12]]) <|
 .keep [0, 1, 6, 7, 8] [[12]]) <|
 .seq (.reg [⟨some 18, .mov (.t 8), none⟩,
 ⟨some 19, .bin .sub (.t 18) (.c (.v (.int .i64 1))), none⟩,
 ⟨some 8, .mov (.t 19), none⟩] []) <|
 .keep [0, 1, 6, 7, 8] [[12]]) <|
 .keep [0, 1, 6, 7, 8] [[12]]
def integer_short : CF := ⟨2, .seq (.seq (.reg [⟨some 4, .mov (.c (.z true)), none⟩,
 ⟨some 5, .mov (.c (.v (.int .i64 0))), none⟩] []) <|
 .keep [0, 1] []) <|
 .seq (.seq (.reg [⟨some 10, .mov (.t 0), none⟩,
 ⟨some 11, .len (.t 10), none⟩,
 ⟨some 12, .mksl 1 8 [.v (.int .i64 0)] (.t 11) (.t 11), none⟩,
 ⟨some 6, .mov (.t 12), none⟩] []) <|
 .keep [0, 1, 6] [[12]]) <|
 .seq (.seq (.reg [⟨some 7, .mov (.c (.v (.int .i64 0))), none⟩] []) <|
 .keep [0, 1, 6, 7] [[12]]) <|
 .seq (.seq (.seq (.reg [⟨some 13, .mov (.t 0), none⟩,
 ⟨some 14, .len (.t 13), none⟩,
 ⟨some 15, .bin .sub (.t 14) (.c (.v (.int .i64 1))), none⟩,
 ⟨some 8, .mov (.t 15), none⟩] []) <|
 .keep [0, 1, 6, 7, 8] [[12]]) <|
 .seq (.blk 0 <|
 .seq (.keep [0, 1, 6, 7, 8] [[12]]) <|
 .loop integer_short_l0) <|
 .keep [6, 7] [[12]]) <|
 .seq (.seq (.reg [⟨some 36, .mov (.t 6), none⟩,
 ⟨some 37, .mov (.t 7), none⟩,
 ⟨some 4, .mov (.t 36), none⟩,
 ⟨some 5, .mov (.t 37), none⟩] []) <|
 .keep [4, 5] [[12]]) <|
 .ret, [.t 4, .t 5]⟩

def integer_long_l0 : C :=
 .seq (.seq (.seq (.seq (.reg [⟨some 84, .mov (.t 13), none⟩,
 ⟨some 85, .bin .geq (.t 84) (.c (.v (.int .i64 1000000000))), none⟩,
 ⟨some 86, .mov (.t 85), none⟩,
 ⟨some 87, .mov (.t 13), (some (86, false))⟩,
 ⟨some 88, .mov (.t 8), (some (86, false))⟩,
 ⟨some 89, .mov (.t 9), (some (86, false))⟩,
 ⟨some 90, .bin .sub (.t 89) (.c (.v (.int .i64 2))), (some (86, false))⟩,
 ⟨some 91, .ixa 1 (.t 88) (.t 90), (some (86, false))⟩,
 ⟨some 92, .load none (.t 91), (some (86, false))⟩,
 ⟨some 93, .bin .mul (.t 87) (.t 92), (some (86, false))⟩,
 ⟨some 94, .mov (.t 14), (some (86, false))⟩,
 ⟨some 95, .bin .mul (.t 94) (.c (.v (.int .i64 1000000000))), (some (86, false))⟩,
 ⟨some 96, .mov (.t 7), (some (86, false))⟩,
 ⟨some 97, .mov (.t 11), (some (86, false))⟩,
 ⟨some 98, .mov (.t 9), (some (86, false))⟩,
 ⟨some 99, .bin .add (.t 97) (.t 98), (some (86, false))⟩,
 ⟨some 100, .bin .sub (.t 99) (.c (.v (.int .i64 2))), (some (86, false))⟩,
 ⟨some 101, .ixa 1 (.t 96) (.t 100), (some (86, false))⟩,
 ⟨some 102, .load none (.t 101), (some (86, false))⟩,
 ⟨some 103, .bin .add (.t 95) (.t 102), (some (86, false))⟩,
 ⟨some 104, .bin .gtr (.t 93) (.t 103), (some (86, false))⟩,
 ⟨some 105, .pick (.t 86) (.c (.v (.bool true))) (.t 104), none⟩] []) <|
 .keep [6, 7, 8, 9, 10, 11, 13, 14, 105] [[32], [46]]) <|
 .cond (.t 105) (.skip) <|
 .seq (.keep [6, 7, 8, 9, 10, 11, 13] [[32], [46]]) <|
 .exit 2) <|
 .seq (.blk 3 <|
 .seq (.seq (.reg [⟨some 106, .mov (.t 13), none⟩,
 ⟨some 107, .bin .sub (.t 106) (.c (.v (.int .i64 1))), none⟩,
 ⟨some 13, .mov (.t 107), none⟩] []) <|
 .keep [6, 7, 8, 9, 10, 11, 13, 14] [[32], [46]]) <|
 .seq (.seq (.reg [⟨some 108, .mov (.t 14), none⟩,
 ⟨some 109, .mov (.t 8), none⟩,
 ⟨some 110, .mov (.t 9), none⟩,
 ⟨some 111, .bin .sub (.t 110) (.c (.v (.int .i64 1))), none⟩,
 ⟨some 112, .ixa 1 (.t 109) (.t 111), none⟩,
 ⟨some 113, .load none (.t 112), none⟩,
 ⟨some 114, .bin .add (.t 108) (.t 113), none⟩,
 ⟨some 14, .mov (.t 114), none⟩] []) <|
 .keep [6, 7, 8, 9, 10, 11, 13, 14] [[32], [46]]) <|
 .seq (.seq (.reg [⟨some 115, .mov (.t 14), none⟩,
 ⟨some 116, .bin .geq (.t 115) (.c (.v (.int .i64 1000000000))), none⟩] []) <|
 .keep [6, 7, 8, 9, 10, 11, 13, 14, 116] [[32], [46]]) <|
 .cond (.t 116) (.seq (.keep [6, 7, 8, 9, 10, 11, 13] [[32], [46]]) <|
 .exit 2) <|
 .skip) <|
 .keep [6, 7, 8, 9, 10, 11, 13, 14] [[32], [46]]) <|
 .keep [6, 7, 8, 9, 10, 11, 13, 14] [[32], [46]]
def integer_long_l1 : C :=
 .seq (.seq (.seq (.reg [⟨some 119, .bin .lss (.t 118) (.t 117), none⟩] []) <|
 .keep [6, 7, 8, 9, 10, 11, 13, 15, 117, 118, 119] [[32], [46]]) <|
 .seq (.cond (.t 119) (.skip) <|
 .seq (.keep [6, 7, 8, 9, 10, 11, 13, 15] [[32], [46]]) <|
 .exit 4) <|
 .seq (.seq (.blk 5 <|
 .seq (.seq (.reg [⟨some 120, .mov (.t 118), none⟩,
 ⟨some 16, .mov (.t 120), none⟩] []) <|
 .keep [6, 7, 8, 9, 10, 11, 13, 15, 16, 117, 118] [[32], [46]]) <|
 .seq (.seq (.reg [⟨some 121, .mov (.t 7), none⟩,
 ⟨some 122, .mov (.t 16), none⟩,
 ⟨some 123, .mov (.t 11), none⟩,
 ⟨some 124, .bin .add (.t 122) (.t 123), none⟩,
 ⟨some 125, .ixa 1 (.t 121) (.t 124), none⟩,
 ⟨some 126, .load none (.t 125), none⟩,
 ⟨some 127, .mov (.t 13), none⟩,
 ⟨some 128, .mov (.t 8), none⟩,
 ⟨some 129, .mov (.t 16), none⟩,
 ⟨some 130, .ixa 1 (.t 128) (.t 129), none⟩,
 ⟨some 131, .load none (.t 130), none⟩,
 ⟨some 132, .bin .mul (.t 127) (.t 131), none⟩,
 ⟨some 133, .bin .sub (.t 126) (.t 132), none⟩,
 ⟨some 134, .mov (.t 15), none⟩,
 ⟨some 135, .bin .sub (.t 133) (.t 134), none⟩,
 ⟨some 17, .mov (.t 135), none⟩] []) <|
 .keep [6, 7, 8, 9, 10, 11, 13, 16, 17, 117, 118] [[32], [46]]) <|
 .seq (.seq (.reg [⟨some 15, .mov (.c (.v (.int .i64 0))), none⟩] []) <|
 .keep [6, 7, 8, 9, 10, 11, 13, 15, 16, 17, 117, 118] [[32], [46]]) <|
 .seq (.seq (.seq (.reg [⟨some 136, .mov (.t 17), none⟩,
 ⟨some 137, .bin .lss (.t 136) (.c (.v (.int .i64 0))), none⟩] []) <|
 .keep [6, 7, 8, 9, 10, 11, 13, 15, 16, 17, 117, 118, 137] [[32], [46]]) <|
 .cond (.t 137) (.seq (.seq (.reg [⟨some 138, .mov (.t 17), none⟩,
 ⟨some 139, .un .neg (.t 138), none⟩,
 ⟨some 140, .bin .add (.t 139) (.c (.v (.int .i64 1000000000))), none⟩,
 ⟨some 141, .bin .sub (.t 140) (.c (.v (.int .i64 1))), none⟩,
 ⟨some 142, .bin .quo (.t 141) (.c (.v (.int .i64 1000000000))), none⟩,
 ⟨some 15, .mov (.t 142), none⟩] []) <|
 .keep [6, 7, 8, 9, 10, 11, 13, 15, 16, 17, 117, 118] [[32], [46]]) <|
 .seq (.reg [⟨some 143, .mov (.t 17), none⟩,
 ⟨some 144, .mov (.t 15), none⟩,
 ⟨some 145, .bin .mul (.t 144) (.c (.v (.int .i64 1000000000))), none⟩,
 ⟨some 146, .bin .add (.t 143) (.t 145), none⟩,
 ⟨some 17, .mov (.t 146), none⟩] []) <|
 .keep [6, 7, 8, 9, 10, 11, 13, 15, 16, 17, 117, 118] [[32], [46]]) <|
 .skip) <|
 .seq (.reg [⟨some 147, .mov (.t 7), none⟩,
 ⟨some 148, .mov (.t 16), none⟩,
 ⟨some 149, .mov (.t 11), none⟩,
 ⟨some 150, .bin .add (.t 148) (.t 149), none⟩,
 ⟨some 151, .mov (.t 17), none⟩,
 ⟨some 152, .ixa 1 (.t 147) (.t 150), none⟩,
 ⟨none, .store 1 (.t 152) (.t 151), none⟩] []) <|
 .keep [6, 7, 8, 9, 10, 11, 13, 15, 117, 118] [[32], [46]]) <|
 .keep [6, 7, 8, 9, 10, 11, 13, 15, 117, 118] [[32], [46]]) <|
 .seq (.reg [⟨some 153, .bin .add (.t 118) (.c (.v (.int .i64 1))), none⟩,
 ⟨some 118, .mov (.t 153), none⟩] []) <|
 .keep [6, 7, 8, 9, 10, 11, 13, 15, 117, 118] [[32], [46]]) <|
 .keep [6, 7, 8, 9, 10, 11, 13, 15, 117, 118] [[32], [46]]
def integer_long_l2 : C :=
 .seq (.seq (.seq (.reg [⟨some 174, .bin .lss (.t 173) (.t 172), none⟩] []) <|
 .keep [6, 7, 8, 9, 10, 11, 13, 15, 172, 173, 174] [[32], [46]]) <|
 .seq (.cond (.t 174) (.skip) <|
 .seq (.keep [6, 7, 8, 9, 10, 11, 13, 15] [[32], [46]]) <|
 .exit 6) <|
 .seq (.seq (.blk 7 <|
 .seq (.seq (.reg [⟨some 175, .mov (.t 173), none⟩,
 ⟨some 18, .mov (.t 175), none⟩] []) <|
 .keep [6, 7, 8, 9, 10, 11, 13, 15, 18, 172, 173] [[32], [46]]) <|
 .seq (.seq (.reg [⟨some 176, .mov (.t 7), none⟩,
 ⟨some 177, .mov (.t 18), none⟩,
 ⟨some 178, .mov (.t 11), none⟩,
 ⟨some 179, .bin .add (.t 177) (.t 178), none⟩,
 ⟨some 180, .ixa 1 (.t 176) (.t 179), none⟩,
 ⟨some 181, .load none (.t 180), none⟩,
 ⟨some 182, .mov (.t 8), none⟩,
 ⟨some 183, .mov (.t 18), none⟩,
 ⟨some 184, .ixa 1 (.t 182) (.t 183), none⟩,
 ⟨some 185, .load none (.t 184), none⟩,
 ⟨some 186, .bin .add (.t 181) (.t 185), none⟩,
 ⟨some 187, .mov (.t 15), none⟩,
 ⟨some 188, .bin .add (.t 186) (.t 187), none⟩,
 ⟨some 19, .mov (.t 188), none⟩] []) <|
 .keep [6, 7, 8, 9, 10, 11, 13, 18, 19, 172, 173] [[32], [46]]) <|
 .seq (.reg [⟨some 189, .mov (.t 7), none⟩,
 ⟨some 190, .mov (.t 18), none⟩,
 ⟨some 191, .mov (.t 11), none⟩,
 ⟨some 192, .bin .add (.t 190) (.t 191), none⟩,
 ⟨some 193, .mov (.t 19), none⟩,
 ⟨some 194, .bin .rem (.t 193) (.c (.v (.int .i64 1000000000))), none⟩,
 ⟨some 195, .mov (.t 19), none⟩,
 ⟨some 196, .bin .quo (.t 195) (.c (.v (.int .i64 1000000000))), none⟩,
 ⟨some 197, .ixa 1 (.t 189) (.t 192), none⟩,
 ⟨none, .store 1 (.t 197) (.t 194), none⟩,
 ⟨some 15, .mov (.t 196), none⟩] []) <|
 .keep [6, 7, 8, 9, 10, 11, 13, 15, 172, 173] [[32], [46]]) <|
 .keep [6, 7, 8, 9, 10, 11, 13, 15, 172, 173] [[32], [46]]) <|
 .seq (.reg [⟨some 198, .bin .add (.t 173) (.c (.v (.int .i64 1))), none⟩,
 ⟨some 173, .mov (.t 198), none⟩] []) <|
 .keep [6, 7, 8, 9, 10, 11, 13, 15, 172, 173] [[32], [46]]) <|
 .keep [6, 7, 8, 9, 10, 11, 13, 15, 172, 173] [[32], [46]]
def integer_long_l3 : C :=
 .seq (.seq (.seq (.seq (.reg [⟨some 51, .mov (.t 11), none⟩,
 ⟨some 52, .bin .geq (.t 51) (.c (.v (.int .i64 0))), none⟩] []) <|
 .keep [6, 7, 8, 9, 10, 11, 52] [[32], [46]]) <|
 .cond (.t 52) (.skip) <|
 .seq (.keep [6, 7, 9, 10] [[32], [46]]) <|
 .exit 0) <|
 .seq (.seq (.blk 1 <|
 .seq (.seq (.reg [⟨some 55, .mov (.t 7), none⟩,
 ⟨some 56, .mov (.t 11), none⟩,
 ⟨some 57, .mov (.t 9), none⟩,
 ⟨some 58, .bin .add (.t 56) (.t 57), none⟩,
 ⟨some 59, .ixa 1 (.t 55) (.t 58), none⟩,
 ⟨some 60, .load none (.t 59), none⟩,
 ⟨some 61, .bin .mul (.t 60) (.c (.v (.int .i64 1000000000))), none⟩,
 ⟨some 62, .mov (.t 7), none⟩,
 ⟨some 63, .mov (.t 11), none⟩,
 ⟨some 64, .mov (.t 9), none⟩,
 ⟨some 65, .bin .add (.t 63) (.t 64), none⟩,
 ⟨some 66, .bin .sub (.t 65) (.c (.v (.int .i64 1))), none⟩,
 ⟨some 67, .ixa 1 (.t 62) (.t 66), none⟩,
 ⟨some 68, .load none (.t 67), none⟩,
 ⟨some 69, .bin .add (.t 61) (.t 68), none⟩,
 ⟨some 12, .mov (.t 69), none⟩] []) <|
 .keep [6, 7, 8, 9, 10, 11, 12] [[32], [46]]) <|
 .seq (.seq (.reg [⟨some 70, .mov (.t 12), none⟩,
 ⟨some 71, .mov (.t 8), none⟩,
 ⟨some 72, .mov (.t 9), none⟩,
 ⟨some 73, .bin .sub (.t 72) (.c (.v (.int .i64 1))), none⟩,
 ⟨some 74, .ixa 1 (.t 71) (.t 73), none⟩,
 ⟨some 75, .load none (.t 74), none⟩,
 ⟨some 76, .bin .quo (.t 70) (.t 75), none⟩,
 ⟨some 77, .mov (.t 12), none⟩,
 ⟨some 78, .mov (.t 8), none⟩,
 ⟨some 79, .mov (.t 9), none⟩,
 ⟨some 80, .bin .sub (.t 79) (.c (.v (.int .i64 1))), none⟩,
 ⟨some 81, .ixa 1 (.t 78) (.t 80), none⟩,
 ⟨some 82, .load none (.t 81), none⟩,
 ⟨some 83, .bin .rem (.t 77) (.t 82), none⟩,
 ⟨some 13, .mov (.t 76), none⟩,
 ⟨some 14, .mov (.t 83), none⟩] []) <|
 .keep [6, 7, 8, 9, 10, 11, 13, 14] [[32], [46]]) <|
 .seq (.skip) <|
 .seq (.seq (.blk 2 <|
 .seq (.keep [6, 7, 8, 9, 10, 11, 13, 14] [[32], [46]]) <|
 .loop integer_long_l0) <|
 .keep [6, 7, 8, 9, 10, 11, 13] [[32], [46]]) <|
 .seq (.seq (.reg [⟨some 15, .mov (.c (.v (.int .i64 0))), none⟩] []) <|
 .keep [6, 7, 8, 9, 10, 11, 13, 15] [[32], [46]]) <|
 .seq (.seq (.seq (.reg [⟨some 117, .mov (.t 9), none⟩,
 ⟨some 118, .mov (.c (.v (.int .i64 0))), none⟩] []) <|
 .keep [6, 7, 8, 9, 10, 11, 13, 15, 117, 118] [[32], [46]]) <|
 .seq (.blk 4 <|
 .seq (.keep [6, 7, 8, 9, 10, 11, 13, 15, 117, 118] [[32], [46]]) <|
 .loop integer_long_l1) <|
 .keep [6, 7, 8, 9, 10, 11, 13, 15] [[32], [46]]) <|
 .seq (.seq (.seq (.reg [⟨some 154, .mov (.t 7), none⟩,
 ⟨some 155, .mov (.t 11), none⟩,
 ⟨some 156, .mov (.t 9), none⟩,
 ⟨some 157, .bin .add (.t 155) (.t 156), none⟩,
 ⟨some 158, .ixa 1 (.t 154) (.t 157), none⟩,
 ⟨some 159, .load none (.t 158), none⟩,
 ⟨some 160, .mov (.t 15), none⟩,
 ⟨some 161, .bin .sub (.t 159) (.t 160), none⟩,
 ⟨some 162, .ixa 1 (.t 154) (.t 157), none⟩,
 ⟨none, .store 1 (.t 162) (.t 161), none⟩] []) <|
 .keep [6, 7, 8, 9, 10, 11, 13] [[32], [46]]) <|
 .seq (.seq (.reg [⟨some 163, .mov (.t 7), none⟩,
 ⟨some 164, .mov (.t 11), none⟩,
 ⟨some 165, .mov (.t 9), none⟩,
 ⟨some 166, .bin .add (.t 164) (.t 165), none⟩,
 ⟨some 167, .ixa 1 (.t 163) (.t 166), none⟩,
 ⟨some 168, .load none (.t 167), none⟩,
 ⟨some 169, .bin .lss (.t 168) (.c (.v (.int .i64 0))), none⟩] []) <|
 .keep [6, 7, 8, 9, 10, 11, 13, 169] [[32], [46]]) <|
 .cond (.t 169) (.seq (.seq (.reg [⟨some 170, .mov (.t 13), none⟩,
 ⟨some 171, .bin .sub (.t 170) (.c (.v (.int .i64 1))), none⟩,
 ⟨some 13, .mov (.t 171), none⟩] []) <|
 .keep [6, 7, 8, 9, 10, 11, 13] [[32], [46]]) <|
 .seq (.seq (.reg [⟨some 15, .mov (.c (.v (.int .i64 0))), none⟩] []) <|
 .keep [6, 7, 8, 9, 10, 11, 13, 15] [[32], [46]]) <|
 .seq (.seq (.seq (.reg [⟨some 172, .mov (.t 9), none⟩,
 ⟨some 173, .mov (.c (.v (.int .i64 0))), none⟩] []) <|
 .keep [6, 7, 8, 9, 10, 11, 13, 15, 172, 173] [[32], [46]]) <|
 .seq (.blk 6 <|
 .seq (.keep [6, 7, 8, 9, 10, 11, 13, 15, 172, 173] [[32], [46]]) <|
 .loop integer_long_l2) <|
 .keep [6, 7, 8, 9, 10, 11, 13, 15] [[32], [46]]) <|
 .seq (.reg [⟨some 199, .mov (.t 7), none⟩,
 ⟨some 200, .mov (.t 11), none⟩,
 ⟨some 201, .mov (.t 9), none⟩,
 ⟨some 202, .bin .add (.t 200) (.t 201), none⟩,
 ⟨some 203, .ixa 1 (.t 199) (.t 202), none⟩,
 ⟨some 204, .load none (.t 203), none⟩,
 ⟨some 205, .mov (.t 15), none⟩,
 ⟨some 206, .bin .add (.t 204) (.t 205), none⟩,
 ⟨some 207, .ixa 1 (.t 199) (.t 202), none⟩,
 ⟨none, .store 1 (.t 207) (.t 206), none⟩] []) <|
 .keep [6, 7, 8, 9, 10, 11, 13] [[32], [46]]) <|
 .skip) <|
 .seq (.reg [⟨some 208, .mov (.t 10), none⟩,
 ⟨some 209, .mov (.t 11), none⟩,
 ⟨some 210, .mov (.t 13), none⟩,
 ⟨some 211, .ixa 1 (.t 208) (.t 209), none⟩,
 ⟨none, .store 1 (.t 211) (.t 210), none⟩] []) <|
 .keep [6, 7, 8, 9, 10, 11] [[32], [46]]) <|
 .keep [6, 7, 8, 9, 10, 11] [[32], [46]]) <|
 .seq (.reg [⟨some 53, .mov (.t 11), none⟩,
 ⟨some 54, .bin .sub (.t 53) (.c (.v (.int .i64 1))), none⟩,
 ⟨some 11, .mov (.t 54), none⟩] []) <|
 .keep [6, 7, 8, 9, 10, 11] [[32], [46]]) <|
 .keep [6, 7, 8, 9, 10, 11] [[32], [46]]
def integer_long : CF := ⟨2, .seq (.seq (.reg [⟨some 4, .mov (.c (.z true)), none⟩,
 ⟨some 5, .mov (.c (.z true)), none⟩] []) <|
 .keep [0, 1] []) <|
 .seq (.seq (.reg [⟨some 22, .mov (.t 1), none⟩,
 ⟨some 23, .mov (.t 1), none⟩,
 ⟨some 24, .len (.t 23), none⟩,
 ⟨some 25, .bin .sub (.t 24) (.c (.v (.int .i64 1))), none⟩,
 ⟨some 26, .ixa 1 (.t 22) (.t 25), none⟩,
 ⟨some 27, .load none (.t 26), none⟩,
 ⟨some 28, .bin .add (.t 27) (.c (.v (.int .i64 1))), none⟩,
 ⟨some 29, .bin .quo (.c (.v (.int .i64 1000000000))) (.t 28), none⟩,
 ⟨some 6, .mov (.t 29), none⟩] []) <|
 .keep [0, 1, 6] []) <|
 .seq (.seq (.reg [⟨some 30, .mov (.t 0), none⟩,
 ⟨some 31, .mov (.t 6), none⟩,
 ⟨some 32, .call n_integer_scaled [(.t 30), (.t 31)] true, none⟩,
 ⟨some 33, .mov (.t 1), none⟩,
 ⟨some 34, .mov (.t 6), none⟩,
 ⟨some 35, .call n_integer_scaled [(.t 33), (.t 34)] false, none⟩,
 ⟨some 36, .mov (.t 1), none⟩,
 ⟨some 37, .len (.t 36), none⟩,
 ⟨some 38, .slc 1 (.t 35) none (some (.t 37)) none, none⟩,
 ⟨some 7, .mov (.t 32), none⟩,
 ⟨some 8, .mov (.t 38), none⟩] []) <|
 .keep [0, 1, 6, 7, 8] [[32]]) <|
 .seq (.seq (.reg [⟨some 39, .mov (.t 1), none⟩,
 ⟨some 40, .len (.t 39), none⟩,
 ⟨some 9, .mov (.t 40), none⟩] []) <|
 .keep [0, 6, 7, 8, 9] [[32]]) <|
 .seq (.seq (.reg [⟨some 41, .mov (.t 0), none⟩,
 ⟨some 42, .len (.t 41), none⟩,
 ⟨some 43, .mov (.t 9), none⟩,
 ⟨some 44, .bin .sub (.t 42) (.t 43), none⟩,
 ⟨some 45, .bin .add (.t 44) (.c (.v (.int .i64 1))), none⟩,
 ⟨some 46, .mksl 1 8 [.v (.int .i64 0)] (.t 45) (.t 45), none⟩,
 ⟨some 10, .mov (.t 46), none⟩] []) <|
 .keep [0, 6, 7, 8, 9, 10] [[32], [46]]) <|
 .seq (.seq (.seq (.reg [⟨some 47, .mov (.t 0), none⟩,
 ⟨some 48, .len (.t 47), none⟩,
 ⟨some 49, .mov (.t 9), none⟩,
 ⟨some 50, .bin .sub (.t 48) (.t 49), none⟩,
 ⟨some 11, .mov (.t 50), none⟩] []) <|
 .keep [6, 7, 8, 9, 10, 11] [[32], [46]]) <|
 .seq (.blk 0 <|
 .seq (.keep [6, 7, 8, 9, 10, 11] [[32], [46]]) <|
 .loop integer_long_l3) <|
 .keep [6, 7, 9, 10] [[32], [46]]) <|
 .seq (.seq (.frz 7) <|
 .seq (.reg [⟨some 213, .mov (.t 7), none⟩,
 ⟨some 214, .mov (.t 9), none⟩,
 ⟨some 215, .slc 1 (.t 213) none (some (.t 214)) none, none⟩,
 ⟨some 216, .mov (.t 6), none⟩,
 ⟨some 217, .call n_integer_short [(.t 215), (.t 216)] false, none⟩,
 ⟨some 212, .mov (.t 217), none⟩,
 ⟨some 218, .ext (.t 212) 0, none⟩,
 ⟨some 219, .ext (.t 212) 1, none⟩,
 ⟨some 20, .mov (.t 218), none⟩,
 ⟨some 21, .mov (.t 219), none⟩] []) <|
 .keep [10, 20] [[46]]) <|
 .seq (.seq (.reg [⟨some 220, .mov (.t 10), none⟩,
 ⟨some 221, .mov (.t 20), none⟩,
 ⟨some 4, .mov (.t 220), none⟩,
 ⟨some 5, .mov (.t 221), none⟩] []) <|
 .keep [4, 5] [[46]]) <|
 .ret, [.t 4, .t 5]⟩

def slices_IndexFunc_int_int_l0 : C :=
 .seq (.seq (.seq (.reg [⟨some 9, .bin .lss (.t 8) (.t 7), none⟩] []) <|
 .keep [0, 1, 7, 8, 9] []) <|
 .seq (.cond (.t 9) (.skip) <|
 .seq (.keep [] []) <|
 .exit 0) <|
 .seq (.seq (.blk 1 <|
 .seq (.seq (.reg [⟨some 10, .mov (.t 8), none⟩,
 ⟨some 5, .mov (.t 10), none⟩] []) <|
 .keep [0, 1, 5, 7, 8] []) <|
 .seq (.seq (.reg [⟨some 11, .mov (.t 1), none⟩,
 ⟨some 12, .mov (.t 0), none⟩,
 ⟨some 13, .mov (.t 5), none⟩,
 ⟨some 14, .ixa 1 (.t 12) (.t 13), none⟩,
 ⟨some 15, .load none (.t 14), none⟩,
 ⟨some 16, .calv (.t 11) [(.t 15)], none⟩] []) <|
 .keep [0, 1, 5, 7, 8, 16] []) <|
 .cond (.t 16) (.seq (.seq (.reg [⟨some 17, .mov (.t 5), none⟩,
 ⟨some 4, .mov (.t 17), none⟩] []) <|
 .keep [4] []) <|
 .ret) <|
 .skip) <|
 .keep [0, 1, 7, 8] []) <|
 .seq (.reg [⟨some 18, .bin .add (.t 8) (.c (.v (.int .i64 1))), none⟩,
 ⟨some 8, .mov (.t 18), none⟩] []) <|
 .keep [0, 1, 7, 8] []) <|
 .keep [0, 1, 7, 8] []
def slices_IndexFunc_int_int : CF := ⟨2, .seq (.seq (.reg [⟨some 4, .mov (.c (.v (.int .i64 0))), none⟩] []) <|
 .keep [0, 1] []) <|
 .seq (.seq (.seq (.reg [⟨some 6, .mov (.t 0), none⟩,
 ⟨some 7, .len (.t 6), none⟩,
 ⟨some 8, .mov (.c (.v (.int .i64 0))), none⟩] []) <|
 .keep [0, 1, 7, 8] []) <|
 .seq (.blk 0 <|
 .seq (.keep [0, 1, 7, 8] []) <|
 .loop slices_IndexFunc_int_int_l0) <|
 .keep [] []) <|
 .seq (.seq (.reg [⟨some 4, .mov (.c (.v (.int .i64 (-1)))), none⟩] []) <|
 .keep [4] []) <|
 .ret, [.t 4]⟩

def internal_stringslite_CutPrefix : CF := ⟨2, .seq (.seq (.reg [⟨some 4, .mov (.c (.v (.string ⟨#[]⟩))), none⟩,
 ⟨some 5, .mov (.c (.v (.bool false))), none⟩] []) <|
 .keep [0, 1] []) <|
 .seq (.seq (.seq (.reg [⟨some 6, .mov (.t 0), none⟩,
 ⟨some 7, .mov (.t 1), none⟩,
 ⟨some 8, .call n_internal_stringslite_HasPrefix [(.t 6), (.t 7)] false, none⟩,
 ⟨some 9, .un .not (.t 8), none⟩] []) <|
 .keep [0, 1, 9] []) <|
 .cond (.t 9) (.seq (.seq (.reg [⟨some 10, .mov (.t 0), none⟩,
 ⟨some 4, .mov (.t 10), none⟩,
 ⟨some 5, .mov (.c (.v (.bool false))), none⟩] []) <|
 .keep [4, 5] []) <|
 .ret) <|
 .skip) <|
 .seq (.seq (.reg [⟨some 11, .mov (.t 0), none⟩,
 ⟨some 12, .mov (.t 1), none⟩,
 ⟨some 13, .lns (.t 12), none⟩,
 ⟨some 14, .sls (.t 11) (some (.t 13)) none, none⟩,
 ⟨some 4, .mov (.t 14), none⟩,
 ⟨some 5, .mov (.c (.v (.bool true))), none⟩] []) <|
 .keep [4, 5] []) <|
 .ret, [.t 4, .t 5]⟩
end Go.AM

set_option maxRecDepth 100000
namespace Go.AM
open Go Go.Proofs


def wire_Int_l0 : C :=
 .seq (.seq (.seq (.seq (.reg [⟨some 14, .mov (.t 5), none⟩,
 ⟨some 15, .bin .gtr (.t 14) (.c (.v (.int .i64 0))), none⟩] []) <|
 .keep [3, 4, 5, 15] []) <|
 .cond (.t 15) (.skip) <|
 .seq (.keep [3, 4, 5] []) <|
 .exit 0) <|
 .seq (.blk 1 <|
 .seq (.seq (.seq (.reg [⟨some 16, .mov (.t 3), none⟩,
 ⟨some 17, .mov (.t 5), none⟩,
 ⟨some 18, .bin .sub (.t 17) (.c (.v (.int .i64 1))), none⟩,
 ⟨some 19, .bin .mul (.c (.v (.int .i64 8))) (.t 18), none⟩,
 ⟨some 20, .bin .shr (.t 16) (.t 19), none⟩,
 ⟨some 21, .bin .gtr (.t 20) (.c (.v (.int .u64 0))), none⟩] []) <|
 .keep [3, 4, 5, 21] []) <|
 .cond (.t 21) (.seq (.keep [3, 4, 5] []) <|
 .exit 0) <|
 .skip) <|
 .seq (.reg [⟨some 22, .mov (.t 5), none⟩,
 ⟨some 23, .bin .sub (.t 22) (.c (.v (.int .i64 1))), none⟩,
 ⟨some 5, .mov (.t 23), none⟩] []) <|
 .keep [3, 4, 5] []) <|
 .keep [3, 4, 5] []) <|
 .keep [3, 4, 5] []
def wire_Int_l1 : C :=
 .seq (.seq (.seq (.seq (.reg [⟨some 32, .mov (.t 7), none⟩,
 ⟨some 33, .bin .geq (.t 32) (.c (.v (.int .i64 0))), none⟩] []) <|
 .keep [3, 4, 6, 7, 33] [[29], [45]]) <|
 .cond (.t 33) (.skip) <|
 .seq (.keep [6] [[29], [45]]) <|
 .exit 2) <|
 .seq (.seq (.blk 3 <|
 .seq (.reg [⟨some 36, .mov (.t 6), none⟩,
 ⟨some 37, .mov (.t 3), none⟩,
 ⟨some 38, .mov (.t 7), none⟩,
 ⟨some 39, .bin .mul (.c (.v (.int .i64 8))) (.t 38), none⟩,
 ⟨some 40, .bin .shr (.t 37) (.t 39), none⟩,
 ⟨some 41, .conv (.int .u8) (.t 40), none⟩,
 ⟨some 42, .mov (.t 4), none⟩,
 ⟨some 43, .bin .xor (.t 41) (.t 42), none⟩,
 ⟨some 44, .lit 1 1 [.v (.int .u8 0)] [(0, (.t 43))] true, none⟩,
 ⟨some 45, .app 1 1 (.t 36) (.t 44) false, none⟩,
 ⟨some 6, .mov (.t 45), none⟩] []) <|
 .keep [3, 4, 6, 7] [[29], [45]]) <|
 .keep [3, 4, 6, 7] [[29], [45]]) <|
 .seq (.reg [⟨some 34, .mov (.t 7), none⟩,
 ⟨some 35, .bin .sub (.t 34) (.c (.v (.int .i64 1))), none⟩,
 ⟨some 7, .mov (.t 35), none⟩] []) <|
 .keep [3, 4, 6, 7] [[29], [45]]) <|
 .keep [3, 4, 6, 7] [[29], [45]]
def wire_Int : CF := ⟨1, .seq (.seq (.reg [⟨some 2, .mov (.c (.z true)), none⟩] []) <|
 .keep [0] []) <|
 .seq (.seq (.reg [⟨some 8, .mov (.t 0), none⟩,
 ⟨some 9, .conv (.int .u64) (.t 8), none⟩,
 ⟨some 3, .mov (.t 9), none⟩,
 ⟨some 4, .mov (.c (.v (.int .u8 0))), none⟩] []) <|
 .keep [0, 3, 4] []) <|
 .seq (.seq (.seq (.reg [⟨some 10, .mov (.t 0), none⟩,
 ⟨some 11, .bin .lss (.t 10) (.c (.v (.int .i64 0))), none⟩] []) <|
 .keep [3, 4, 11] []) <|
 .cond (.t 11) (.seq (.reg [⟨some 12, .mov (.t 3), none⟩,
 ⟨some 13, .un .xor (.t 12), none⟩,
 ⟨some 3, .mov (.t 13), none⟩,
 ⟨some 4, .mov (.c (.v (.int .u8 255))), none⟩] []) <|
 .keep [3, 4] []) <|
 .skip) <|
 .seq (.seq (.reg [⟨some 5, .mov (.c (.v (.int .i64 8))), none⟩] []) <|
 .keep [3, 4, 5] []) <|
 .seq (.skip) <|
 .seq (.seq (.blk 0 <|
 .seq (.keep [3, 4, 5] []) <|
 .loop wire_Int_l0) <|
 .keep [3, 4, 5] []) <|
 .seq (.seq (.reg [⟨some 24, .mov (.t 5), none⟩,
 ⟨some 25, .bin .add (.c (.v (.int .i64 128))) (.t 24), none⟩,
 ⟨some 26, .conv (.int .u8) (.t 25), none⟩,
 ⟨some 27, .mov (.t 4), none⟩,
 ⟨some 28, .bin .xor (.t 26) (.t 27), none⟩,
 ⟨some 29, .lit 1 1 [.v (.int .u8 0)] [(0, (.t 28))] false, none⟩,
 ⟨some 6, .mov (.t 29), none⟩] []) <|
 .keep [3, 4, 5, 6] [[29], [45]]) <|
 .seq (.seq (.seq (.reg [⟨some 30, .mov (.t 5), none⟩,
 ⟨some 31, .bin .sub (.t 30) (.c (.v (.int .i64 1))), none⟩,
 ⟨some 7, .mov (.t 31), none⟩] []) <|
 .keep [3, 4, 6, 7] [[29], [45]]) <|
 .seq (.blk 2 <|
 .seq (.keep [3, 4, 6, 7] [[29], [45]]) <|
 .loop wire_Int_l1) <|
 .keep [6] [[29], [45]]) <|
 .seq (.seq (.reg [⟨some 46, .mov (.t 6), none⟩,
 ⟨some 2, .mov (.t 46), none⟩] []) <|
 .keep [2] [[29], [45]]) <|
 .ret, [.t 2]⟩

def cmp_isNaN_int : CF := ⟨1, .seq (.seq (.reg [⟨some 2, .mov (.c (.v (.bool false))), none⟩] []) <|
 .keep [0] []) <|
 .seq (.seq (.reg [⟨some 3, .mov (.t 0), none⟩,
 ⟨some 4, .mov (.t 0), none⟩,
 ⟨some 5, .bin .neq (.t 3) (.t 4), none⟩,
 ⟨some 2, .mov (.t 5), none⟩] []) <|
 .keep [2] []) <|
 .ret, [.t 2]⟩

def integer_scaled_l0 : C :=
 .seq (.seq (.seq (.reg [⟨some 17, .bin .lss (.t 16) (.t 15), none⟩] []) <|
 .keep [0, 1, 5, 6, 14, 15, 16, 17] [[13]]) <|
 .seq (.cond (.t 17) (.skip) <|
 .seq (.keep [0, 5, 6] [[13]]) <|
 .exit 0) <|
 .seq (.seq (.blk 1 <|
 .seq (.seq (.reg [⟨some 18, .mov (.t 16), none⟩,
 ⟨some 19, .ixa 1 (.t 14) (.t 16), none⟩,
 ⟨some 20, .load none (.t 19), none⟩,
 ⟨some 7, .mov (.t 18), none⟩,
 ⟨some 8, .mov (.t 20), none⟩] []) <|
 .keep [0, 1, 5, 6, 7, 8, 14, 15, 16] [[13]]) <|
 .seq (.seq (.reg [⟨some 21, .mov (.t 8), none⟩,
 ⟨some 22, .mov (.t 1), none⟩,
 ⟨some 23, .bin .mul (.t 21) (.t 22), none⟩,
 ⟨some 24, .mov (.t 6), none⟩,
 ⟨some 25, .bin .add (.t 23) (.t 24), none⟩,
 ⟨some 9, .mov (.t 25), none⟩] []) <|
 .keep [0, 1, 5, 7, 9, 14, 15, 16] [[13]]) <|
 .seq (.reg [⟨some 26, .mov (.t 5), none⟩,
 ⟨some 27, .mov (.t 7), none⟩,
 ⟨some 28, .mov (.t 9), none⟩,
 ⟨some 29, .bin .rem (.t 28) (.c (.v (.int .i64 1000000000))), none⟩,
 ⟨some 30, .mov (.t 9), none⟩,
 ⟨some 31, .bin .quo (.t 30) (.c (.v (.int .i64 1000000000))), none⟩,
 ⟨some 32, .ixa 1 (.t 26) (.t 27), none⟩,
 ⟨none, .store 1 (.t 32) (.t 29), none⟩,
 ⟨some 6, .mov (.t 31), none⟩] []) <|
 .keep [0, 1, 5, 6, 14, 15, 16] [[13]]) <|
 .keep [0, 1, 5, 6, 14, 15, 16] [[13]]) <|
 .seq (.reg [⟨some 33, .bin .add (.t 16) (.c (.v (.int .i64 1))), none⟩,
 ⟨some 16, .mov (.t 33), none⟩] []) <|
 .keep [0, 1, 5, 6, 14, 15, 16] [[13]]) <|
 .keep [0, 1, 5, 6, 14, 15, 16] [[13]]
def integer_scaled : CF := ⟨2, .seq (.seq (.reg [⟨some 4, .mov (.c (.z true)), none⟩] []) <|
 .keep [0, 1] []) <|
 .seq (.seq (.reg [⟨some 10, .mov (.t 0), none⟩,
 ⟨some 11, .len (.t 10), none⟩,
 ⟨some 12, .bin .add (.t 11) (.c (.v (.int .i64 1))), none⟩,
 ⟨some 13, .mksl 1 8 [.v (.int .i64 0)] (.t 12) (.t 12), none⟩,
 ⟨some 5, .mov (.t 13), none⟩] []) <|
 .keep [0, 1, 5] [[13]]) <|
 .seq (.seq (.reg [⟨some 6, .mov (.c (.v (.int .i64 0))), none⟩] []) <|
 .keep [0, 1, 5, 6] [[13]]) <|
 .seq (.seq (.seq (.reg [⟨some 14, .mov (.t 0), none⟩,
 ⟨some 15, .len (.t 14), none⟩,
 ⟨some 16, .mov (.c (.v (.int .i64 0))), none⟩] []) <|
 .keep [0, 1, 5, 6, 14, 15, 16] [[13]]) <|
 .seq (.blk 0 <|
 .seq (.keep [0, 1, 5, 6, 14, 15, 16] [[13]]) <|
 .loop integer_scaled_l0) <|
 .keep [0, 5, 6] [[13]]) <|
 .seq (.seq (.reg [⟨some 34, .mov (.t 5), none⟩,
 ⟨some 35, .mov (.t 0), none⟩,
 ⟨some 36, .len (.t 35), none⟩,
 ⟨some 37, .mov (.t 6), none⟩,
 ⟨some 38, .ixa 1 (.t 34) (.t 36), none⟩,
 ⟨none, .store 1 (.t 38) (.t 37), none⟩] []) <|
 .keep [5] [[13]]) <|
 .seq (.seq (.reg [⟨some 39, .mov (.t 5), none⟩,
 ⟨some 4, .mov (.t 39), none⟩] []) <|
 .keep [4] [[13]]) <|
 .ret, [.t 4]⟩

def internal_stringslite_HasPrefix : CF := ⟨2, .seq (.seq (.reg [⟨some 4, .mov (.c (.v (.bool false))), none⟩] []) <|
 .keep [0, 1] []) <|
 .seq (.seq (.reg [⟨some 5, .mov (.t 0), none⟩,
 ⟨some 6, .lns (.t 5), none⟩,
 ⟨some 7, .mov (.t 1), none⟩,
 ⟨some 8, .lns (.t 7), none⟩,
 ⟨some 9, .bin .geq (.t 6) (.t 8), none⟩,
 ⟨some 10, .mov (.t 9), none⟩,
 ⟨some 11, .mov (.t 0), (some (10, true))⟩,
 ⟨some 12, .mov (.t 1), (some (10, true))⟩,
 ⟨some 13, .lns (.t 12), (some (10, true))⟩,
 ⟨some 14, .sls (.t 11) none (some (.t 13)), (some (10, true))⟩,
 ⟨some 15, .mov (.t 1), (some (10, true))⟩,
 ⟨some 16, .bin .eql (.t 14) (.t 15), (some (10, true))⟩,
 ⟨some 17, .pick (.t 10) (.t 16) (.c (.v (.bool false))), none⟩,
 ⟨some 4, .mov (.t 17), none⟩] []) <|
 .keep [4] []) <|
 .ret, [.t 4]⟩

end Go.AM

set_option maxRecDepth 100000
namespace Go.AM
open Go Go.Proofs

def ft : Nat → Option CF
  | 8 => some gantrylaw04_IntegerInts
  | 11 => some gantryref04_Number
  | 12 => some gantryref04_Mul
  | 13 => some gantryref04_Add
  | 14 => some gantryref04_Of
  | 15 => some gantryref01_Around
  | 16 => some gantryref04_Sub
  | 17 => some integer_Root
  | 19 => some gantrylaw04_same
  | 20 => some gantrylaw04_lives
  | 22 => some integer_Add
  | 24 => some integer_Mul
  | 26 => some gantryref04_Neg
  | 27 => some integer_Compare
  | 28 => some gantryref04_Compare
  | 29 => some integer_Sign
  | 31 => some gantryref01_Same
  | 32 => some integer_Of
  | 33 => some integer_Div
  | 37 => some gantryref01_Take
  | 38 => some integer_Valid
  | 39 => some gantryref04_Valid
  | 40 => some integer_Small
  | 41 => some gantryref04_Small
  | 43 => some integer_Parse
  | 44 => some integer_Encode
  | 50 => some gantryref01_Ints
  | 52 => some gantryref01_At
  | 53 => some gantryref04_Power
  | 54 => some gantryref04_normal
  | 55 => some gantryref04_plus
  | 56 => some gantryref04_compared
  | 57 => some gantryref04_minus
  | 58 => some integer_of
  | 59 => some gantryref04_Same
  | 60 => some integer_plus
  | 61 => some integer_compare
  | 62 => some integer_minus
  | 63 => some integer_unsigned
  | 64 => some integer_divide
  | 66 => some integer_two
  | 68 => some slices_ContainsFunc_int_int
  | 69 => some integer_Valid_1
  | 75 => some strings_CutPrefix
  | 78 => some wire_Ints
  | 82 => some gantryref01_Int
  | 84 => some gantryref04_digit
  | 85 => some cmp_Compare_int
  | 86 => some integer_short
  | 87 => some integer_long
  | 89 => some slices_IndexFunc_int_int
  | 96 => some internal_stringslite_CutPrefix
  | 106 => some wire_Int
  | 111 => some cmp_isNaN_int
  | 112 => some integer_scaled
  | 117 => some internal_stringslite_HasPrefix
  | _ => none
theorem gantrylaw04_IntegerInts_c : compF Tryz.prog Tryz.f8 = some gantrylaw04_IntegerInts.er := by kernel_rfl
theorem gantryref04_Number_c : compF Tryz.prog Tryz.f11 = some gantryref04_Number.er := by kernel_rfl
theorem gantryref04_Mul_c : compF Tryz.prog Tryz.f12 = some gantryref04_Mul.er := by kernel_rfl
theorem gantryref04_Add_c : compF Tryz.prog Tryz.f13 = some gantryref04_Add.er := by kernel_rfl
theorem gantryref04_Of_c : compF Tryz.prog Tryz.f14 = some gantryref04_Of.er := by kernel_rfl
theorem gantryref01_Around_c : compF Tryz.prog Tryz.f15 = some gantryref01_Around.er := by kernel_rfl
theorem gantryref04_Sub_c : compF Tryz.prog Tryz.f16 = some gantryref04_Sub.er := by kernel_rfl
theorem integer_Root_c : compF Tryz.prog Tryz.f17 = some integer_Root.er := by kernel_rfl
theorem gantrylaw04_same_c : compF Tryz.prog Tryz.f19 = some gantrylaw04_same.er := by kernel_rfl
theorem gantrylaw04_lives_c : compF Tryz.prog Tryz.f20 = some gantrylaw04_lives.er := by kernel_rfl
theorem integer_Add_c : compF Tryz.prog Tryz.f22 = some integer_Add.er := by kernel_rfl
theorem integer_Mul_c : compF Tryz.prog Tryz.f24 = some integer_Mul.er := by kernel_rfl
theorem gantryref04_Neg_c : compF Tryz.prog Tryz.f26 = some gantryref04_Neg.er := by kernel_rfl
theorem integer_Compare_c : compF Tryz.prog Tryz.f27 = some integer_Compare.er := by kernel_rfl
theorem gantryref04_Compare_c : compF Tryz.prog Tryz.f28 = some gantryref04_Compare.er := by kernel_rfl
theorem integer_Sign_c : compF Tryz.prog Tryz.f29 = some integer_Sign.er := by kernel_rfl
theorem gantryref01_Same_c : compF Tryz.prog Tryz.f31 = some gantryref01_Same.er := by kernel_rfl
theorem integer_Of_c : compF Tryz.prog Tryz.f32 = some integer_Of.er := by kernel_rfl
theorem integer_Div_c : compF Tryz.prog Tryz.f33 = some integer_Div.er := by kernel_rfl
theorem gantryref01_Take_c : compF Tryz.prog Tryz.f37 = some gantryref01_Take.er := by kernel_rfl
theorem integer_Valid_c : compF Tryz.prog Tryz.f38 = some integer_Valid.er := by kernel_rfl
theorem gantryref04_Valid_c : compF Tryz.prog Tryz.f39 = some gantryref04_Valid.er := by kernel_rfl
theorem integer_Small_c : compF Tryz.prog Tryz.f40 = some integer_Small.er := by kernel_rfl
theorem gantryref04_Small_c : compF Tryz.prog Tryz.f41 = some gantryref04_Small.er := by kernel_rfl
theorem integer_Parse_c : compF Tryz.prog Tryz.f43 = some integer_Parse.er := by kernel_rfl
theorem integer_Encode_c : compF Tryz.prog Tryz.f44 = some integer_Encode.er := by kernel_rfl
theorem gantryref01_Ints_c : compF Tryz.prog Tryz.f50 = some gantryref01_Ints.er := by kernel_rfl
theorem gantryref01_At_c : compF Tryz.prog Tryz.f52 = some gantryref01_At.er := by kernel_rfl
theorem gantryref04_Power_c : compF Tryz.prog Tryz.f53 = some gantryref04_Power.er := by kernel_rfl
theorem gantryref04_normal_c : compF Tryz.prog Tryz.f54 = some gantryref04_normal.er := by kernel_rfl
theorem gantryref04_plus_c : compF Tryz.prog Tryz.f55 = some gantryref04_plus.er := by kernel_rfl
theorem gantryref04_compared_c : compF Tryz.prog Tryz.f56 = some gantryref04_compared.er := by kernel_rfl
theorem gantryref04_minus_c : compF Tryz.prog Tryz.f57 = some gantryref04_minus.er := by kernel_rfl
theorem integer_of_c : compF Tryz.prog Tryz.f58 = some integer_of.er := by kernel_rfl
theorem gantryref04_Same_c : compF Tryz.prog Tryz.f59 = some gantryref04_Same.er := by kernel_rfl
theorem integer_plus_c : compF Tryz.prog Tryz.f60 = some integer_plus.er := by kernel_rfl
theorem integer_compare_c : compF Tryz.prog Tryz.f61 = some integer_compare.er := by kernel_rfl
theorem integer_minus_c : compF Tryz.prog Tryz.f62 = some integer_minus.er := by kernel_rfl
theorem integer_unsigned_c : compF Tryz.prog Tryz.f63 = some integer_unsigned.er := by kernel_rfl
theorem integer_divide_c : compF Tryz.prog Tryz.f64 = some integer_divide.er := by kernel_rfl
theorem integer_two_c : compF Tryz.prog Tryz.f66 = some integer_two.er := by kernel_rfl
theorem slices_ContainsFunc_int_int_c : compF Tryz.prog Tryz.f68 = some slices_ContainsFunc_int_int.er := by kernel_rfl
theorem integer_Valid_1_c : compF Tryz.prog Tryz.f69 = some integer_Valid_1.er := by kernel_rfl
theorem strings_CutPrefix_c : compF Tryz.prog Tryz.f75 = some strings_CutPrefix.er := by kernel_rfl
theorem wire_Ints_c : compF Tryz.prog Tryz.f78 = some wire_Ints.er := by kernel_rfl
theorem gantryref01_Int_c : compF Tryz.prog Tryz.f82 = some gantryref01_Int.er := by kernel_rfl
theorem gantryref04_digit_c : compF Tryz.prog Tryz.f84 = some gantryref04_digit.er := by kernel_rfl
theorem cmp_Compare_int_c : compF Tryz.prog Tryz.f85 = some cmp_Compare_int.er := by kernel_rfl
theorem integer_short_c : compF Tryz.prog Tryz.f86 = some integer_short.er := by kernel_rfl
theorem integer_long_c : compF Tryz.prog Tryz.f87 = some integer_long.er := by kernel_rfl
theorem slices_IndexFunc_int_int_c : compF Tryz.prog Tryz.f89 = some slices_IndexFunc_int_int.er := by kernel_rfl
theorem internal_stringslite_CutPrefix_c : compF Tryz.prog Tryz.f96 = some internal_stringslite_CutPrefix.er := by kernel_rfl
theorem wire_Int_c : compF Tryz.prog Tryz.f106 = some wire_Int.er := by kernel_rfl
theorem cmp_isNaN_int_c : compF Tryz.prog Tryz.f111 = some cmp_isNaN_int.er := by kernel_rfl
theorem integer_scaled_c : compF Tryz.prog Tryz.f112 = some integer_scaled.er := by kernel_rfl
theorem internal_stringslite_HasPrefix_c : compF Tryz.prog Tryz.f117 = some internal_stringslite_HasPrefix.er := by kernel_rfl
theorem ft_ok : ∀ f cf, ft f = some cf → ∃ fn L, Tryz.prog.funcs[f]? = some fn ∧ compF Tryz.prog fn = some cf.er ∧ InlOk Tryz.prog L cf.body ∧ (L = [] ∨ ∀ b, fn.body = some b → okI L b = true) := by
  intro f cf h
  unfold ft at h
  split at h
  · cases h; exact ⟨_, [], Tryz.func8, gantrylaw04_IntegerInts_c, noInl_ok (by kernel_rfl), .inl rfl⟩
  · cases h; exact ⟨_, [], Tryz.func11, gantryref04_Number_c, noInl_ok (by kernel_rfl), .inl rfl⟩
  · cases h; exact ⟨_, [], Tryz.func12, gantryref04_Mul_c, noInl_ok (by kernel_rfl), .inl rfl⟩
  · cases h; exact ⟨_, [], Tryz.func13, gantryref04_Add_c, noInl_ok (by kernel_rfl), .inl rfl⟩
  · cases h; exact ⟨_, [], Tryz.func14, gantryref04_Of_c, noInl_ok (by kernel_rfl), .inl rfl⟩
  · cases h; exact ⟨_, [], Tryz.func15, gantryref01_Around_c, noInl_ok (by kernel_rfl), .inl rfl⟩
  · cases h; exact ⟨_, [], Tryz.func16, gantryref04_Sub_c, noInl_ok (by kernel_rfl), .inl rfl⟩
  · cases h; exact ⟨_, [], Tryz.func17, integer_Root_c, noInl_ok (by kernel_rfl), .inl rfl⟩
  · cases h; exact ⟨_, [], Tryz.func19, gantrylaw04_same_c, noInl_ok (by kernel_rfl), .inl rfl⟩
  · cases h; exact ⟨_, [], Tryz.func20, gantrylaw04_lives_c, noInl_ok (by kernel_rfl), .inl rfl⟩
  · cases h; exact ⟨_, [], Tryz.func22, integer_Add_c, noInl_ok (by kernel_rfl), .inl rfl⟩
  · cases h; exact ⟨_, [], Tryz.func24, integer_Mul_c, noInl_ok (by kernel_rfl), .inl rfl⟩
  · cases h; exact ⟨_, [], Tryz.func26, gantryref04_Neg_c, noInl_ok (by kernel_rfl), .inl rfl⟩
  · cases h; exact ⟨_, [], Tryz.func27, integer_Compare_c, noInl_ok (by kernel_rfl), .inl rfl⟩
  · cases h; exact ⟨_, [], Tryz.func28, gantryref04_Compare_c, noInl_ok (by kernel_rfl), .inl rfl⟩
  · cases h; exact ⟨_, [], Tryz.func29, integer_Sign_c, noInl_ok (by kernel_rfl), .inl rfl⟩
  · cases h; exact ⟨_, [], Tryz.func31, gantryref01_Same_c, noInl_ok (by kernel_rfl), .inl rfl⟩
  · cases h; exact ⟨_, [], Tryz.func32, integer_Of_c, noInl_ok (by kernel_rfl), .inl rfl⟩
  · cases h; exact ⟨_, [], Tryz.func33, integer_Div_c, noInl_ok (by kernel_rfl), .inl rfl⟩
  · cases h; exact ⟨_, [], Tryz.func37, gantryref01_Take_c, noInl_ok (by kernel_rfl), .inl rfl⟩
  · cases h; exact ⟨_, [], Tryz.func38, integer_Valid_c, noInl_ok (by kernel_rfl), .inl rfl⟩
  · cases h; exact ⟨_, [], Tryz.func39, gantryref04_Valid_c, noInl_ok (by kernel_rfl), .inl rfl⟩
  · cases h; exact ⟨_, [], Tryz.func40, integer_Small_c, noInl_ok (by kernel_rfl), .inl rfl⟩
  · cases h; exact ⟨_, [], Tryz.func41, gantryref04_Small_c, noInl_ok (by kernel_rfl), .inl rfl⟩
  · cases h; exact ⟨_, [], Tryz.func43, integer_Parse_c, noInl_ok (by kernel_rfl), .inl rfl⟩
  · cases h; exact ⟨_, [], Tryz.func44, integer_Encode_c, noInl_ok (by kernel_rfl), .inl rfl⟩
  · cases h; exact ⟨_, [], Tryz.func50, gantryref01_Ints_c, noInl_ok (by kernel_rfl), .inl rfl⟩
  · cases h; exact ⟨_, [], Tryz.func52, gantryref01_At_c, noInl_ok (by kernel_rfl), .inl rfl⟩
  · cases h; exact ⟨_, [], Tryz.func53, gantryref04_Power_c, noInl_ok (by kernel_rfl), .inl rfl⟩
  · cases h; exact ⟨_, [], Tryz.func54, gantryref04_normal_c, noInl_ok (by kernel_rfl), .inl rfl⟩
  · cases h; exact ⟨_, [], Tryz.func55, gantryref04_plus_c, noInl_ok (by kernel_rfl), .inl rfl⟩
  · cases h; exact ⟨_, [], Tryz.func56, gantryref04_compared_c, noInl_ok (by kernel_rfl), .inl rfl⟩
  · cases h; exact ⟨_, [], Tryz.func57, gantryref04_minus_c, noInl_ok (by kernel_rfl), .inl rfl⟩
  · cases h; exact ⟨_, [], Tryz.func58, integer_of_c, noInl_ok (by kernel_rfl), .inl rfl⟩
  · cases h; exact ⟨_, [], Tryz.func59, gantryref04_Same_c, noInl_ok (by kernel_rfl), .inl rfl⟩
  · cases h; exact ⟨_, [], Tryz.func60, integer_plus_c, noInl_ok (by kernel_rfl), .inl rfl⟩
  · cases h; exact ⟨_, [], Tryz.func61, integer_compare_c, noInl_ok (by kernel_rfl), .inl rfl⟩
  · cases h; exact ⟨_, [], Tryz.func62, integer_minus_c, noInl_ok (by kernel_rfl), .inl rfl⟩
  · cases h; exact ⟨_, [], Tryz.func63, integer_unsigned_c, noInl_ok (by kernel_rfl), .inl rfl⟩
  · cases h; exact ⟨_, [], Tryz.func64, integer_divide_c, noInl_ok (by kernel_rfl), .inl rfl⟩
  · cases h; exact ⟨_, [], Tryz.func66, integer_two_c, noInl_ok (by kernel_rfl), .inl rfl⟩
  · cases h; exact ⟨_, [], Tryz.func68, slices_ContainsFunc_int_int_c, noInl_ok (by kernel_rfl), .inl rfl⟩
  · cases h; exact ⟨_, [], Tryz.func69, integer_Valid_1_c, noInl_ok (by kernel_rfl), .inl rfl⟩
  · cases h; exact ⟨_, [], Tryz.func75, strings_CutPrefix_c, noInl_ok (by kernel_rfl), .inl rfl⟩
  · cases h; exact ⟨_, [], Tryz.func78, wire_Ints_c, noInl_ok (by kernel_rfl), .inl rfl⟩
  · cases h; exact ⟨_, [], Tryz.func82, gantryref01_Int_c, noInl_ok (by kernel_rfl), .inl rfl⟩
  · cases h; exact ⟨_, [], Tryz.func84, gantryref04_digit_c, noInl_ok (by kernel_rfl), .inl rfl⟩
  · cases h; exact ⟨_, [], Tryz.func85, cmp_Compare_int_c, noInl_ok (by kernel_rfl), .inl rfl⟩
  · cases h; exact ⟨_, [], Tryz.func86, integer_short_c, noInl_ok (by kernel_rfl), .inl rfl⟩
  · cases h; exact ⟨_, [], Tryz.func87, integer_long_c, noInl_ok (by kernel_rfl), .inl rfl⟩
  · cases h; exact ⟨_, [], Tryz.func89, slices_IndexFunc_int_int_c, noInl_ok (by kernel_rfl), .inl rfl⟩
  · cases h; exact ⟨_, [], Tryz.func96, internal_stringslite_CutPrefix_c, noInl_ok (by kernel_rfl), .inl rfl⟩
  · cases h; exact ⟨_, [], Tryz.func106, wire_Int_c, noInl_ok (by kernel_rfl), .inl rfl⟩
  · cases h; exact ⟨_, [], Tryz.func111, cmp_isNaN_int_c, noInl_ok (by kernel_rfl), .inl rfl⟩
  · cases h; exact ⟨_, [], Tryz.func112, integer_scaled_c, noInl_ok (by kernel_rfl), .inl rfl⟩
  · cases h; exact ⟨_, [], Tryz.func117, internal_stringslite_HasPrefix_c, noInl_ok (by kernel_rfl), .inl rfl⟩
  · cases h
end Go.AM

/- The seat's functions, and that their small texts are theirs. -/
namespace Go.AM
open Go Go.Proofs
/-- What the seat's iterators yield. -/
class Its where
  it : Nat → List D → Option (List (List D))
  orc : Nat → List D → Option R := fun _ _ => none
def G [Its] : Env := ⟨ft, Its.orc, Its.it⟩
theorem env_okO [Its] (h : ∀ f ds xs, Its.it f ds = some xs → ItOk Tryz.prog f ds xs) (ho : ∀ f ds r, ft f = none → Its.orc f ds = some r → CallOk Tryz.prog f ds r) : EnvOk Tryz.prog G := ⟨by kernel_rfl, ft_ok, ho, h⟩
end Go.AM

/- How the evaluator is run by simp: its equations, and lemmas on data. -/
namespace Go.AM
open Go Go.RowKit


theorem upd_get (f : Fr) (i j : Nat) (x : A) : upd f i x j = if j = i then some x else f j := rfl
theorem hupd_get (f : Hp) (i j : Key) (x : Obj) : hupd f i x j = if j = i then some x else f j := rfl
theorem updO_some (f : Fr) (i : Nat) (x : A) : updO f i (some x) = upd f i x := rfl
theorem hupdO_some (f : Hp) (i : Key) (x : Obj) : hupdO f i (some x) = hupd f i x := rfl
theorem updO_get (f : Fr) (i j : Nat) (x : Option A) : updO f i x j = if j = i then x else f j := rfl
theorem hupdO_get (f : Hp) (i j : Key) (x : Option Obj) : hupdO f i x j = if j = i then x else f j := rfl
theorem fr0_get (i : Nat) : fr0 i = none := rfl
theorem hp0_get (i : Key) : hp0 i = none := rfl

/-- The wrap of a number, behind a wall: nobody unfolds it. -/
theorem w64_ex : ∃ f : Int → Int, ∀ n, IntKind.i64.wrap n = f n := ⟨_, fun _ => rfl⟩
noncomputable def w64 : Int → Int := Classical.choose w64_ex
theorem wrap_i64 (n : Int) : IntKind.i64.wrap n = w64 n := Classical.choose_spec w64_ex n
theorem w64_id {n : Int} (h0 : -9223372036854775808 ≤ n) (h1 : n < 9223372036854775808) : w64 n = n := by
  rw [← wrap_i64]
  unfold IntKind.wrap
  simp only [IntKind.signed, IntKind.bits, Bool.true_and, decide_eq_true_eq, ge_iff_le]
  by_cases h : (2 : Int) ^ (64 - 1) ≤ n % 2 ^ 64
  · rw [if_pos h]; omega
  · rw [if_neg h]; omega

theorem bind_ite {α β : Type} (c : Prop) [Decidable c] (x y : Option α) (f : α → Option β) : (if c then x else y).bind f = if c then x.bind f else y.bind f := by split <;> rfl
theorem map_ite {α β : Type} (c : Prop) [Decidable c] (x y : Option α) (f : α → β) : (if c then x else y).map f = if c then x.map f else y.map f := by split <;> rfl
/-! ### Rows of numbers -/
def dg (l : List Int) : D := if l = [] then .z true else .row l.length (l.map iv)
theorem dg_nil : dg [] = .z true := rfl
theorem dg_cons (x : Int) (l : List Int) : dg (x :: l) = .row (l.length + 1) (iv x :: l.map iv) := rfl
theorem dg_ne {l : List Int} (h : l ≠ []) : dg l = .row l.length (l.map iv) := if_neg h

theorem lenA_dg (l : List Int) : lenA (.d (dg l)) = some l.length := by
  cases l with
  | nil => rfl
  | cons x l => rfl
theorem ixa_dg (h : Hp) (l : List Int) {j : Int} (h0 : 0 ≤ j) (h1 : j < l.length) : ixaA h 1 j (.d (dg l)) = some (.d (.rp ((l.drop j.toNat).map iv))) := by
  have hl : l ≠ [] := by rintro rfl; simp at h1; omega
  rw [dg_ne hl]
  simp only [ixaA, guardO]
  rw [if_pos ⟨h0, h1⟩, Nat.mul_one, List.map_drop]
theorem load_rp_ints (h : Hp) (l : List Int) {j : Nat} (h1 : j < l.length) : loadA h none (.d (.rp ((l.drop j).map iv))) = some (.d (.v (.int .i64 (l.getD j 0)))) := by
  simp only [loadA, ldrow]
  rw [List.head?_map, List.head?_drop]
  simp [h1, iv]
theorem src_dg (st : St) (l : List Int) : src st (.d (dg l)) = some (l.length, l.map iv) := by
  cases l with
  | nil => rfl
  | cons x l => rfl
/-! ### The helpers at each kind of value -/
theorem lenA_z (b : Bool) : lenA (.d (.z b)) = some 0 := rfl
theorem lenA_row (n : Nat) (cs : List D) : lenA (.d (.row n cs)) = some n := rfl
theorem lenA_own (k : Key) (n : Nat) : lenA (.own k n) = some n := rfl
theorem loadA_ptr (h : Hp) (sz : Option Nat) (k : Key) (off : Nat) : loadA h sz (.ptr k off) = (h k).bind fun o => ldcells sz off o.cs := rfl
theorem loadA_ep (h : Hp) (sz : Option Nat) (k : Key) (n off : Nat) : loadA h sz (.ep k n off) = (h k).bind fun o => guardO (o.n = n) (ldcells sz off o.cs) := rfl
theorem loadA_rc (h : Hp) (f : Nat) (pre : List D) : loadA h none (.d (.rc f pre)) = some (.d (.fn f (pre ++ [.rc f pre]))) := rfl
theorem fadA_ptr (i : Nat) (k : Key) (o : Nat) : fadA i (.ptr k o) = some (.ptr k (o + i)) := rfl
theorem fadA_ep (i : Nat) (k : Key) (n o : Nat) : fadA i (.ep k n o) = some (.ep k n (o + i)) := rfl
theorem fadA_rp (i : Nat) (cs : List D) : fadA i (.d (.rp cs)) = some (.d (.rp (cs.drop i))) := rfl
theorem ixaA_own (h : Hp) (es : Nat) (j : Int) (q : Key) (n : Nat) : ixaA h es j (.own q n) = (h q).bind fun o => guardO (o.n = n ∧ 0 ≤ j ∧ j < n) (some (.ep q n (j.toNat * es))) := rfl
theorem storeA_ptr (h : Hp) (v : A) (k : Key) (off : Nat) : storeA h v (.ptr k off) = (h k).bind fun o => guardO (o.fz = false) ((stcells off (cellsOf v) o.cs).map fun cs => hupd h k { o with cs }) := rfl
theorem storeA_ep (h : Hp) (v : A) (k : Key) (n off : Nat) : storeA h v (.ep k n off) = (h k).bind fun o => guardO (o.fz = false ∧ o.n = n) ((allD (cellsOf v)).bind fun _ => (stcells off (cellsOf v) o.cs).map fun cs => hupd h k { o with cs }) := rfl
theorem strA_s (s : ByteArray) : strA (.d (.v (.string s))) = some s := rfl
theorem valA_v (x : Value) : valA (.d (.v x)) = some x := rfl
theorem aggA_g (cs : List D) : aggA (.d (.agg cs)) = some cs := rfl
theorem extA_t (i : Nat) (xs : List D) : extA i (.d (.tup xs)) = (xs[i]?).map .d := rfl
theorem fnA_f (f : Nat) (c : List D) : fnA (.d (.fn f c)) = some (f, c) := rfl
theorem int_i (k : IntKind) (n : Int) : A.int? (.d (.v (.int k n))) = some n := rfl
theorem bool_b (b : Bool) : A.bool? (.d (.v (.bool b))) = some b := rfl
theorem argD_d (st : St) (x : D) : argD st (.d x) = some (x, true) := rfl
theorem argD_own (st : St) (k : Key) (n : Nat) : argD st (.own k n) = (st.hp k).bind fun o => guardO (o.n = n) ((allD o.cs).map fun cs => (.row n cs, o.fz)) := rfl
theorem toD_d (st : St) (x : D) : toD st (.d x) = some x := rfl
theorem toD_own (st : St) (k : Key) (n : Nat) : toD st (.own k n) = (st.hp k).bind fun o => guardO (o.n = n) ((allD o.cs).map fun cs => .row n cs) := rfl
theorem retA_d (k : Key) (h : Hp) (ad fz : Bool) (x : D) : retA k h ad fz (.d x) = guardO (fz = true ∨ x.flat = true) (some (.d x, h)) := rfl
theorem retA_own (k : Key) (h : Hp) (ad fz : Bool) (es n : Nat) (cs : List D) : retA k h ad fz (.own es n cs) = guardO (fz = true) (mkA k h (!ad) es n cs) := rfl
theorem mkA_t (k : Key) (h : Hp) (es n : Nat) (cs : List D) : mkA k h true es n cs = some (.d (.row n cs), h) := rfl
theorem mkA_f (k : Key) (h : Hp) (es n : Nat) (cs : List D) : mkA k h false es n cs = guardO ((h k).isNone = true) (some (.own k n, hupd h k ⟨es, n, cs.map .d, false⟩)) := rfl
theorem appA_z (k : Key) (h : Hp) (fz : Bool) (es by_ m : Nat) (ys : List D) (b : Bool) : appA k h fz es by_ m ys (.d (.z b)) =
    guardO (m * by_ ≤ bound ∧ ys.length = m * es) (if m = 0 then some (.d (.z b), h) else mkA k h fz es m ys) := rfl
theorem appA_own (k : Key) (h : Hp) (fz : Bool) (es by_ m : Nat) (ys : List D) (q : Key) (n : Nat) : appA k h fz es by_ m ys (.own q n) =
    (h q).bind fun o => guardO (o.n = n ∧ o.fz = false ∧ o.es = es ∧ o.cs.length = n * es ∧ (n + m) * by_ ≤ bound ∧ ys.length = m * es ∧ ys.all D.one = true)
      (if fz then (allD o.cs).map fun cs => (.d (.row (n + m) (cs ++ ys)), hupd h q ⟨es, n + m, o.cs ++ ys.map .d, true⟩)
       else some (.own q (n + m), hupd h q ⟨es, n + m, o.cs ++ ys.map .d, false⟩)) := rfl
theorem ex_n_x (i : Nat) : (Ex.n = Ex.x i) = False := by simp
theorem ex_x_n (i : Nat) : (Ex.x i = Ex.n) = False := by simp
theorem ex_x_x (i j : Nat) : (Ex.x i = Ex.x j) = (i = j) := by simp
theorem ex_r_n : (Ex.r = Ex.n) = False := by simp
theorem ex_r_x (i : Nat) : (Ex.r = Ex.x i) = False := by simp
theorem ex_n_n : (Ex.n = Ex.n) = True := by simp

theorem bind_congr_l {α β : Type} {x y : Option α} {f : α → Option β} (h : x = y) : x.bind f = y.bind f := by rw [h]
theorem map_congr_l {α β : Type} {x y : Option α} {f : α → β} (h : x = y) : x.map f = y.map f := by rw [h]

attribute [go_sem] X_seq X_reg X_cond X_blk X_keep X_frz X_exit X_ret X_skip exs exO act wantedO putO E.ev allE argsD upd_get hupd_get fr0_get hp0_get
  Option.bind_some Option.map_some Option.bind_none Option.map_none Option.getD_some Option.getD_none Option.isNone_none Option.isNone_some guardO binV binI shOp undefA iA
  endOf ending resL resV argF keepSt keepF keepH keepRefs keepRefsH refsO refsOO updO_some hupdO_some updO_get hupdO_get refs refsL List.all_nil List.all_cons wrap_i64 bind_ite map_ite
  lenA_z lenA_row lenA_own loadA_ptr loadA_ep loadA_rc fadA_ptr fadA_ep fadA_rp ixaA_own storeA_ptr storeA_ep strA_s valA_v aggA_g extA_t fnA_f int_i bool_b argD_d argD_own toD_d toD_own
  retA_d retA_own mkA_t mkA_f appA_z appA_own lenA_dg ex_n_x ex_x_n ex_x_x ex_r_n ex_r_x ex_n_n
theorem key1 (a b : Nat) : (([a] : Key) = [b]) = (a = b) := by simp
theorem tt_true : (true = true) = True := by simp
theorem ft_false : (false = true) = False := by simp
theorem lenD1 (a : D) : ([a] : List D).length = 1 := rfl
theorem lenD2 (a b : D) : ([a, b] : List D).length = 2 := rfl
theorem lenD3 (a b c : D) : ([a, b, c] : List D).length = 3 := rfl
theorem lenD4 (a b c d : D) : ([a, b, c, d] : List D).length = 4 := rfl
attribute [go_sem] X_inl calA argFA inlSt waitO capO asideO joinH goneO resA Ex.fin
attribute [go_sem] lenD1 lenD2 lenD3 lenD4 key1 Key.isIn List.any_cons List.any_nil tt_true ft_false decide_true decide_false Bool.and_true Bool.true_and Bool.and_self Bool.or_true Bool.true_or Bool.or_false Bool.false_or and_true true_and and_self
theorem ge_t {a b : Int} (h : a ≥ b) : decide (a ≥ b) = true := decide_eq_true h
theorem gt_t {a b : Int} (h : a > b) : decide (a > b) = true := decide_eq_true h
theorem gt_f {a b : Int} (h : ¬ a > b) : decide (a > b) = false := decide_eq_false h
theorem lt_t {a b : Int} (h : a < b) : decide (a < b) = true := decide_eq_true h
theorem lt_f {a b : Int} (h : ¬ a < b) : decide (a < b) = false := decide_eq_false h
theorem le_t {a b : Int} (h : a ≤ b) : decide (a ≤ b) = true := decide_eq_true h
theorem le_f {a b : Int} (h : ¬ a ≤ b) : decide (a ≤ b) = false := decide_eq_false h
theorem beq_t {a b : Int} (h : a = b) : (a == b) = true := by simp [h]
theorem beq_f {a b : Int} (h : a ≠ b) : (a == b) = false := by simp [h]
theorem bne_t {a b : Int} (h : a ≠ b) : (a != b) = true := by simp [h]
theorem ofNat_cast (n : Nat) : Int.ofNat n = (n : Int) := rfl
theorem one_int (k : IntKind) (n : Int) : A.one (.d (.v (.int k n))) = true := rfl
theorem one_bool (b : Bool) : A.one (.d (.v (.bool b))) = true := rfl
theorem one_str (b : ByteArray) : A.one (.d (.v (.string b))) = true := rfl
theorem one_z (b : Bool) : A.one (.d (.z b)) = true := rfl
theorem one_row (n : Nat) (cs : List D) : A.one (.d (.row n cs)) = true := rfl
theorem one_own (k : Key) (n : Nat) : A.one (.own k n) = true := rfl
theorem one_ptr (k : Key) (n : Nat) : A.one (.ptr k n) = true := rfl
theorem one_dg' (l : List Int) : A.one (.d (dg l)) = true := by cases l <;> rfl
theorem one_agg (cs : List D) : A.one (.d (.agg cs)) = false := rfl
theorem cells_agg (cs : List D) : cellsOf (.d (.agg cs)) = cs.map .d := rfl
theorem cells_int (k : IntKind) (n : Int) : cellsOf (.d (.v (.int k n))) = [.d (.v (.int k n))] := rfl
theorem cells_bool (b : Bool) : cellsOf (.d (.v (.bool b))) = [.d (.v (.bool b))] := rfl
theorem cells_str (b : ByteArray) : cellsOf (.d (.v (.string b))) = [.d (.v (.string b))] := rfl
theorem cells_z (b : Bool) : cellsOf (.d (.z b)) = [.d (.z b)] := rfl
theorem cells_row (n : Nat) (cs : List D) : cellsOf (.d (.row n cs)) = [.d (.row n cs)] := rfl
theorem cells_dg (l : List Int) : cellsOf (.d (dg l)) = [.d (dg l)] := by cases l <;> rfl
theorem cells_own (k : Key) (n : Nat) : cellsOf (.own k n) = [.own k n] := rfl
theorem cells_ptr (k : Key) (n : Nat) : cellsOf (.ptr k n) = [.ptr k n] := rfl
theorem dc_agg (cs : List D) : dcells (.d (.agg cs)) = some cs := rfl
theorem dc_int (k : IntKind) (n : Int) : dcells (.d (.v (.int k n))) = some [.v (.int k n)] := rfl
theorem dc_bool (b : Bool) : dcells (.d (.v (.bool b))) = some [.v (.bool b)] := rfl
theorem dc_str (b : ByteArray) : dcells (.d (.v (.string b))) = some [.v (.string b)] := rfl
theorem dc_z (b : Bool) : dcells (.d (.z b)) = some [.z b] := rfl
theorem dc_row (n : Nat) (cs : List D) : dcells (.d (.row n cs)) = some [.row n cs] := rfl
theorem dc_dg (l : List Int) : dcells (.d (dg l)) = some [dg l] := by cases l <;> rfl
theorem dc_fn (f : Nat) (cs : List D) : dcells (.d (.fn f cs)) = some [.fn f cs] := rfl
theorem rep_1 (z : D) : rep 1 [z] = [z] := rfl
theorem rep_2 (z : D) : rep 2 [z] = [z, z] := rfl
theorem rep_3 (z : D) : rep 3 [z] = [z, z, z] := rfl
theorem wrap_u64 (n : Int) : IntKind.u64.wrap n = n % 18446744073709551616 := by
  unfold IntKind.wrap
  simp [IntKind.signed, IntKind.bits]
theorem base_ne : ((1000000000 : Int) = 0) = False := by simp
theorem nc0 : ((0 : Nat) : Int) = 0 := rfl
theorem toNat0 : Int.toNat 0 = 0 := rfl
theorem ob_ft : (some false = some true) = False := by simp
theorem ob_tf : (some true = some false) = False := by simp
theorem ob_tt : (some true = some true) = True := by simp
theorem ob_ff : (some false = some false) = True := by simp
theorem tf_false : (true = false) = False := by simp
theorem ff_true : (false = false) = True := by simp
attribute [go_sem] rep_1 rep_2 rep_3 wrap_u64 base_ne fillD Nat.reduceMul Nat.reduceSub List.getElem?_cons_zero List.getElem?_cons_succ List.getElem?_nil true_or or_true or_self false_or or_false and_false false_and nc0 toNat0 Nat.sub_zero Nat.mul_one Nat.zero_mul ofNat_cast List.map_cons List.map_nil List.length_cons List.length_nil Nat.reduceAdd Nat.reduceLeDiff List.take_succ_cons List.take_zero List.drop_succ_cons List.drop_zero List.drop_nil List.take_nil List.nil_append List.cons_append List.append_nil Int.toNat_natCast ob_ft ob_tf ob_tt ob_ff tf_false ff_true Bool.not_true Bool.not_false Bool.false_and Bool.and_false unV eqD slcA bnds optI cut srcS bytesD partsD partsB fillB D.flat ldrow allD one_int one_bool one_str one_z one_row one_own one_ptr one_dg' one_agg cells_agg cells_int cells_bool cells_str cells_z cells_row cells_dg cells_own cells_ptr dc_agg dc_int dc_bool dc_str dc_z dc_row dc_dg dc_fn
attribute [congr] bind_congr_l map_congr_l
end Go.AM

