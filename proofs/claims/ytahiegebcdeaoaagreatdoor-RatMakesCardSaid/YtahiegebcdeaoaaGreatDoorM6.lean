/- Part 6 of the proof: a small machine, its soundness against the model, and what the program's functions compute on it. -/
import Derived.Test.YtahiegebcdeaoaaGreatDoorM5
import Derived.Test.YtahiegebcdeaoaaGreatDoorProg
import Derived.KernelRfl
set_option linter.unusedVariables false
set_option linter.unusedSimpArgs false
set_option maxRecDepth 100000
namespace Go.AM
open Go Go.Proofs


def rat_Same_1 : CF := ⟨2, .seq (.seq (.reg [⟨some 2, .box (.t 0), none⟩,
 ⟨some 3, .box (.t 1), none⟩,
 ⟨some 4, .mov (.c (.v (.bool false))), none⟩] []) <|
 .keep [2, 3] [[2], [3]]) <|
 .seq (.seq (.reg [⟨some 5, .fad 0 (.t 2), none⟩,
 ⟨some 6, .load none (.t 5), none⟩,
 ⟨some 7, .fad 0 (.t 3), none⟩,
 ⟨some 8, .load none (.t 7), none⟩,
 ⟨some 9, .binb false (.t 6) (.t 8), none⟩,
 ⟨some 10, .mov (.t 9), none⟩,
 ⟨some 11, .fad 1 (.t 2), (some (10, true))⟩,
 ⟨some 12, .load none (.t 11), (some (10, true))⟩,
 ⟨some 13, .fad 1 (.t 3), (some (10, true))⟩,
 ⟨some 14, .load none (.t 13), (some (10, true))⟩,
 ⟨some 15, .call n_slices_Equal_int_int [(.t 12), (.t 14)] false, (some (10, true))⟩,
 ⟨some 16, .pick (.t 10) (.t 15) (.c (.v (.bool false))), none⟩,
 ⟨some 4, .mov (.t 16), none⟩] []) <|
 .keep [4] []) <|
 .ret, [.t 4]⟩

def slices_Equal_int_int_l0 : C :=
 .seq (.seq (.seq (.reg [⟨some 14, .bin .lss (.t 13) (.t 12), none⟩] []) <|
 .keep [0, 1, 12, 13, 14] []) <|
 .seq (.cond (.t 14) (.skip) <|
 .seq (.keep [] []) <|
 .exit 0) <|
 .seq (.seq (.blk 1 <|
 .seq (.seq (.reg [⟨some 15, .mov (.t 13), none⟩,
 ⟨some 5, .mov (.t 15), none⟩] []) <|
 .keep [0, 1, 5, 12, 13] []) <|
 .seq (.seq (.reg [⟨some 16, .mov (.t 0), none⟩,
 ⟨some 17, .mov (.t 5), none⟩,
 ⟨some 18, .ixa 1 (.t 16) (.t 17), none⟩,
 ⟨some 19, .load none (.t 18), none⟩,
 ⟨some 20, .mov (.t 1), none⟩,
 ⟨some 21, .mov (.t 5), none⟩,
 ⟨some 22, .ixa 1 (.t 20) (.t 21), none⟩,
 ⟨some 23, .load none (.t 22), none⟩,
 ⟨some 24, .bin .neq (.t 19) (.t 23), none⟩] []) <|
 .keep [0, 1, 12, 13, 24] []) <|
 .cond (.t 24) (.seq (.seq (.reg [⟨some 4, .mov (.c (.v (.bool false))), none⟩] []) <|
 .keep [4] []) <|
 .ret) <|
 .skip) <|
 .keep [0, 1, 12, 13] []) <|
 .seq (.reg [⟨some 25, .bin .add (.t 13) (.c (.v (.int .i64 1))), none⟩,
 ⟨some 13, .mov (.t 25), none⟩] []) <|
 .keep [0, 1, 12, 13] []) <|
 .keep [0, 1, 12, 13] []
def slices_Equal_int_int : CF := ⟨2, .seq (.seq (.reg [⟨some 4, .mov (.c (.v (.bool false))), none⟩] []) <|
 .keep [0, 1] []) <|
 .seq (.seq (.seq (.reg [⟨some 6, .mov (.t 0), none⟩,
 ⟨some 7, .len (.t 6), none⟩,
 ⟨some 8, .mov (.t 1), none⟩,
 ⟨some 9, .len (.t 8), none⟩,
 ⟨some 10, .bin .neq (.t 7) (.t 9), none⟩] []) <|
 .keep [0, 1, 10] []) <|
 .cond (.t 10) (.seq (.seq (.reg [⟨some 4, .mov (.c (.v (.bool false))), none⟩] []) <|
 .keep [4] []) <|
 .ret) <|
 .skip) <|
 .seq (.seq (.seq (.reg [⟨some 11, .mov (.t 0), none⟩,
 ⟨some 12, .len (.t 11), none⟩,
 ⟨some 13, .mov (.c (.v (.int .i64 0))), none⟩] []) <|
 .keep [0, 1, 12, 13] []) <|
 .seq (.blk 0 <|
 .seq (.keep [0, 1, 12, 13] []) <|
 .loop slices_Equal_int_int_l0) <|
 .keep [] []) <|
 .seq (.seq (.reg [⟨some 4, .mov (.c (.v (.bool true))), none⟩] []) <|
 .keep [4] []) <|
 .ret, [.t 4]⟩

def integer_unsigned : CF := ⟨2, .seq (.seq (.reg [⟨some 4, .new [.v (.bool false), .z true], none⟩] []) <|
 .keep [0, 1, 4] [[4]]) <|
 .seq (.seq (.blk 0 <|
 .seq (.seq (.reg [⟨some 6, .mov (.t 1), none⟩,
 ⟨some 7, .bin .eql (.t 6) (.c (.v (.int .u64 0))), none⟩,
 ⟨some 5, .mov (.t 7), none⟩] []) <|
 .keep [0, 1, 4, 5] [[4]]) <|
 .cond (.t 5) (.seq (.seq (.reg [⟨some 8, .build [.v (.bool false), .z true] [], none⟩,
 ⟨none, .store 2 (.t 4) (.t 8), none⟩] []) <|
 .keep [4] [[4]]) <|
 .ret) <|
 .seq (.seq (.reg [⟨some 10, .mov (.t 1), none⟩,
 ⟨some 11, .bin .lss (.t 10) (.c (.v (.int .u64 1000000000))), none⟩,
 ⟨some 9, .mov (.t 11), none⟩] []) <|
 .keep [0, 1, 4, 9] [[4]]) <|
 .cond (.t 9) (.seq (.seq (.reg [⟨some 12, .mov (.t 0), none⟩,
 ⟨some 13, .mov (.t 1), none⟩,
 ⟨some 14, .conv (.int .i64) (.t 13), none⟩,
 ⟨some 15, .lit 1 1 [.v (.int .i64 0)] [(0, (.t 14))] true, none⟩,
 ⟨some 16, .build [.v (.bool false), .z true] [(0, 1, (.t 12)), (1, 1, (.t 15))], none⟩,
 ⟨none, .store 2 (.t 4) (.t 16), none⟩] []) <|
 .keep [4] [[4]]) <|
 .ret) <|
 .seq (.seq (.reg [⟨some 18, .mov (.t 1), none⟩,
 ⟨some 19, .bin .lss (.t 18) (.c (.v (.int .u64 1000000000000000000))), none⟩,
 ⟨some 17, .mov (.t 19), none⟩] []) <|
 .keep [0, 1, 4, 17] [[4]]) <|
 .cond (.t 17) (.seq (.seq (.reg [⟨some 20, .mov (.t 0), none⟩,
 ⟨some 21, .mov (.t 1), none⟩,
 ⟨some 22, .bin .rem (.t 21) (.c (.v (.int .u64 1000000000))), none⟩,
 ⟨some 23, .conv (.int .i64) (.t 22), none⟩,
 ⟨some 24, .mov (.t 1), none⟩,
 ⟨some 25, .bin .quo (.t 24) (.c (.v (.int .u64 1000000000))), none⟩,
 ⟨some 26, .conv (.int .i64) (.t 25), none⟩,
 ⟨some 27, .lit 1 2 [.v (.int .i64 0)] [(0, (.t 23)), (1, (.t 26))] true, none⟩,
 ⟨some 28, .build [.v (.bool false), .z true] [(0, 1, (.t 20)), (1, 1, (.t 27))], none⟩,
 ⟨none, .store 2 (.t 4) (.t 28), none⟩] []) <|
 .keep [4] [[4]]) <|
 .ret) <|
 .skip) <|
 .keep [0, 1, 4] [[4]]) <|
 .seq (.seq (.reg [⟨some 29, .mov (.t 0), none⟩,
 ⟨some 30, .mov (.t 1), none⟩,
 ⟨some 31, .bin .rem (.t 30) (.c (.v (.int .u64 1000000000))), none⟩,
 ⟨some 32, .conv (.int .i64) (.t 31), none⟩,
 ⟨some 33, .mov (.t 1), none⟩,
 ⟨some 34, .bin .quo (.t 33) (.c (.v (.int .u64 1000000000))), none⟩,
 ⟨some 35, .bin .rem (.t 34) (.c (.v (.int .u64 1000000000))), none⟩,
 ⟨some 36, .conv (.int .i64) (.t 35), none⟩,
 ⟨some 37, .mov (.t 1), none⟩,
 ⟨some 38, .bin .quo (.t 37) (.c (.v (.int .u64 1000000000))), none⟩,
 ⟨some 39, .bin .quo (.t 38) (.c (.v (.int .u64 1000000000))), none⟩,
 ⟨some 40, .conv (.int .i64) (.t 39), none⟩,
 ⟨some 41, .lit 1 3 [.v (.int .i64 0)] [(0, (.t 32)), (1, (.t 36)), (2, (.t 40))] true, none⟩,
 ⟨some 42, .build [.v (.bool false), .z true] [(0, 1, (.t 29)), (1, 1, (.t 41))], none⟩,
 ⟨none, .store 2 (.t 4) (.t 42), none⟩] []) <|
 .keep [4] [[4]]) <|
 .ret, [.cell 4 (some 2)]⟩

def integer_divide : CF := ⟨2, .seq (.seq (.reg [⟨some 4, .new [.v (.bool false), .z true], none⟩,
 ⟨some 5, .new [.v (.bool false), .z true], none⟩] []) <|
 .keep [0, 1, 4, 5] [[4], [5]]) <|
 .seq (.seq (.seq (.reg [⟨some 15, .mov (.t 0), none⟩,
 ⟨some 16, .call n_integer_two [(.t 15)] false, none⟩,
 ⟨some 14, .mov (.t 16), none⟩,
 ⟨some 17, .ext (.t 14) 0, none⟩,
 ⟨some 18, .ext (.t 14) 1, none⟩,
 ⟨some 6, .mov (.t 17), none⟩,
 ⟨some 7, .mov (.t 18), none⟩] []) <|
 .keep [0, 1, 4, 5, 6, 7] [[4], [5]]) <|
 .seq (.seq (.reg [⟨some 19, .mov (.t 7), none⟩] []) <|
 .keep [0, 1, 4, 5, 6, 19] [[4], [5]]) <|
 .cond (.t 19) (.seq (.seq (.reg [⟨some 21, .mov (.t 1), none⟩,
 ⟨some 22, .call n_integer_two [(.t 21)] false, none⟩,
 ⟨some 20, .mov (.t 22), none⟩,
 ⟨some 23, .ext (.t 20) 0, none⟩,
 ⟨some 24, .ext (.t 20) 1, none⟩,
 ⟨some 8, .mov (.t 23), none⟩,
 ⟨some 9, .mov (.t 24), none⟩] []) <|
 .keep [0, 1, 4, 5, 6, 8, 9] [[4], [5]]) <|
 .seq (.seq (.reg [⟨some 25, .mov (.t 9), none⟩] []) <|
 .keep [0, 1, 4, 5, 6, 8, 25] [[4], [5]]) <|
 .cond (.t 25) (.seq (.seq (.reg [⟨some 26, .mov (.t 6), none⟩,
 ⟨some 27, .mov (.t 8), none⟩,
 ⟨some 28, .bin .quo (.t 26) (.t 27), none⟩,
 ⟨some 29, .conv (.int .u64) (.t 28), none⟩,
 ⟨some 30, .call n_integer_unsigned [(.c (.v (.bool false))), (.t 29)] false, none⟩,
 ⟨some 31, .mov (.t 6), none⟩,
 ⟨some 32, .mov (.t 8), none⟩,
 ⟨some 33, .bin .rem (.t 31) (.t 32), none⟩,
 ⟨some 34, .conv (.int .u64) (.t 33), none⟩,
 ⟨some 35, .call n_integer_unsigned [(.c (.v (.bool false))), (.t 34)] false, none⟩,
 ⟨none, .store 2 (.t 4) (.t 30), none⟩,
 ⟨none, .store 2 (.t 5) (.t 35), none⟩] []) <|
 .keep [4, 5] [[4], [5]]) <|
 .ret) <|
 .skip) <|
 .skip) <|
 .seq (.seq (.seq (.reg [⟨some 36, .mov (.t 0), none⟩,
 ⟨some 37, .mov (.t 1), none⟩,
 ⟨some 38, .call n_integer_compare [(.t 36), (.t 37)] false, none⟩,
 ⟨some 39, .bin .lss (.t 38) (.c (.v (.int .i64 0))), none⟩] []) <|
 .keep [0, 1, 4, 5, 39] [[4], [5]]) <|
 .cond (.t 39) (.seq (.seq (.reg [⟨some 40, .build [.v (.bool false), .z true] [], none⟩,
 ⟨some 41, .mov (.t 0), none⟩,
 ⟨some 42, .call n_integer_of [(.c (.v (.bool false))), (.t 41)] false, none⟩,
 ⟨none, .store 2 (.t 4) (.t 40), none⟩,
 ⟨none, .store 2 (.t 5) (.t 42), none⟩] []) <|
 .keep [4, 5] [[4], [5]]) <|
 .ret) <|
 .skip) <|
 .seq (.seq (.seq (.reg [⟨some 43, .mov (.t 1), none⟩,
 ⟨some 44, .len (.t 43), none⟩,
 ⟨some 45, .bin .eql (.t 44) (.c (.v (.int .i64 1))), none⟩] []) <|
 .keep [0, 1, 4, 5, 45] [[4], [5]]) <|
 .cond (.t 45) (.seq (.seq (.reg [⟨some 47, .mov (.t 0), none⟩,
 ⟨some 48, .mov (.t 1), none⟩,
 ⟨some 49, .ixa 1 (.t 48) (.c (.v (.int .i64 0))), none⟩,
 ⟨some 50, .load none (.t 49), none⟩,
 ⟨some 51, .call n_integer_short [(.t 47), (.t 50)] false, none⟩,
 ⟨some 46, .mov (.t 51), none⟩,
 ⟨some 52, .ext (.t 46) 0, none⟩,
 ⟨some 53, .ext (.t 46) 1, none⟩,
 ⟨some 10, .mov (.t 52), none⟩,
 ⟨some 11, .mov (.t 53), none⟩] []) <|
 .keep [4, 5, 10, 11] [[4], [5]]) <|
 .seq (.seq (.reg [⟨some 54, .mov (.t 10), none⟩,
 ⟨some 55, .call n_integer_of [(.c (.v (.bool false))), (.t 54)] false, none⟩,
 ⟨some 56, .mov (.t 11), none⟩,
 ⟨some 57, .conv (.int .u64) (.t 56), none⟩,
 ⟨some 58, .call n_integer_unsigned [(.c (.v (.bool false))), (.t 57)] false, none⟩,
 ⟨none, .store 2 (.t 4) (.t 55), none⟩,
 ⟨none, .store 2 (.t 5) (.t 58), none⟩] []) <|
 .keep [4, 5] [[4], [5]]) <|
 .ret) <|
 .skip) <|
 .seq (.seq (.reg [⟨some 60, .mov (.t 0), none⟩,
 ⟨some 61, .mov (.t 1), none⟩,
 ⟨some 62, .call n_integer_long [(.t 60), (.t 61)] false, none⟩,
 ⟨some 59, .mov (.t 62), none⟩,
 ⟨some 63, .ext (.t 59) 0, none⟩,
 ⟨some 64, .ext (.t 59) 1, none⟩,
 ⟨some 12, .mov (.t 63), none⟩,
 ⟨some 13, .mov (.t 64), none⟩] []) <|
 .keep [4, 5, 12, 13] [[4], [5]]) <|
 .seq (.seq (.reg [⟨some 65, .mov (.t 12), none⟩,
 ⟨some 66, .call n_integer_of [(.c (.v (.bool false))), (.t 65)] false, none⟩,
 ⟨some 67, .mov (.t 13), none⟩,
 ⟨some 68, .call n_integer_of [(.c (.v (.bool false))), (.t 67)] false, none⟩,
 ⟨none, .store 2 (.t 4) (.t 66), none⟩,
 ⟨none, .store 2 (.t 5) (.t 68), none⟩] []) <|
 .keep [4, 5] [[4], [5]]) <|
 .ret, [.cell 4 (some 2), .cell 5 (some 2)]⟩

def integer_of_l0 : C :=
 .seq (.seq (.seq (.seq (.reg [⟨some 8, .mov (.t 5), none⟩,
 ⟨some 9, .bin .gtr (.t 8) (.c (.v (.int .i64 0))), none⟩,
 ⟨some 10, .mov (.t 9), none⟩,
 ⟨some 11, .mov (.t 1), (some (10, true))⟩,
 ⟨some 12, .mov (.t 5), (some (10, true))⟩,
 ⟨some 13, .bin .sub (.t 12) (.c (.v (.int .i64 1))), (some (10, true))⟩,
 ⟨some 14, .ixa 1 (.t 11) (.t 13), (some (10, true))⟩,
 ⟨some 15, .load none (.t 14), (some (10, true))⟩,
 ⟨some 16, .bin .eql (.t 15) (.c (.v (.int .i64 0))), (some (10, true))⟩,
 ⟨some 17, .pick (.t 10) (.t 16) (.c (.v (.bool false))), none⟩] []) <|
 .keep [0, 1, 4, 5, 17] [[4]]) <|
 .cond (.t 17) (.skip) <|
 .seq (.keep [0, 1, 4, 5] [[4]]) <|
 .exit 0) <|
 .seq (.blk 1 <|
 .seq (.reg [⟨some 18, .mov (.t 5), none⟩,
 ⟨some 19, .bin .sub (.t 18) (.c (.v (.int .i64 1))), none⟩,
 ⟨some 5, .mov (.t 19), none⟩] []) <|
 .keep [0, 1, 4, 5] [[4]]) <|
 .keep [0, 1, 4, 5] [[4]]) <|
 .keep [0, 1, 4, 5] [[4]]
def integer_of : CF := ⟨2, .seq (.seq (.reg [⟨some 4, .new [.v (.bool false), .z true], none⟩] []) <|
 .keep [0, 1, 4] [[4]]) <|
 .seq (.seq (.reg [⟨some 6, .mov (.t 1), none⟩,
 ⟨some 7, .len (.t 6), none⟩,
 ⟨some 5, .mov (.t 7), none⟩] []) <|
 .keep [0, 1, 4, 5] [[4]]) <|
 .seq (.seq (.blk 0 <|
 .seq (.keep [0, 1, 4, 5] [[4]]) <|
 .loop integer_of_l0) <|
 .keep [0, 1, 4, 5] [[4]]) <|
 .seq (.seq (.seq (.reg [⟨some 20, .mov (.t 5), none⟩,
 ⟨some 21, .bin .eql (.t 20) (.c (.v (.int .i64 0))), none⟩] []) <|
 .keep [0, 1, 4, 5, 21] [[4]]) <|
 .cond (.t 21) (.seq (.seq (.reg [⟨some 22, .build [.v (.bool false), .z true] [], none⟩,
 ⟨none, .store 2 (.t 4) (.t 22), none⟩] []) <|
 .keep [4] [[4]]) <|
 .ret) <|
 .skip) <|
 .seq (.seq (.reg [⟨some 23, .mov (.t 0), none⟩,
 ⟨some 24, .mov (.t 1), none⟩,
 ⟨some 25, .mov (.t 5), none⟩,
 ⟨some 26, .mov (.t 5), none⟩,
 ⟨some 27, .slc 1 (.t 24) none (some (.t 25)) (some (.t 26)), none⟩,
 ⟨some 28, .build [.v (.bool false), .z true] [(0, 1, (.t 23)), (1, 1, (.t 27))], none⟩,
 ⟨none, .store 2 (.t 4) (.t 28), none⟩] []) <|
 .keep [4] [[4]]) <|
 .ret, [.cell 4 (some 2)]⟩

def integer_plus_l0 : C :=
 .seq (.seq (.seq (.reg [⟨some 24, .bin .lss (.t 23) (.t 22), none⟩] []) <|
 .keep [0, 1, 5, 6, 21, 22, 23, 24] [[20]]) <|
 .seq (.cond (.t 24) (.skip) <|
 .seq (.keep [0, 5, 6] [[20]]) <|
 .exit 0) <|
 .seq (.seq (.blk 1 <|
 .seq (.seq (.reg [⟨some 25, .mov (.t 23), none⟩,
 ⟨some 26, .ixa 1 (.t 21) (.t 23), none⟩,
 ⟨some 27, .load none (.t 26), none⟩,
 ⟨some 7, .mov (.t 25), none⟩,
 ⟨some 8, .mov (.t 27), none⟩] []) <|
 .keep [0, 1, 5, 6, 7, 8, 21, 22, 23] [[20]]) <|
 .seq (.seq (.reg [⟨some 28, .mov (.t 8), none⟩,
 ⟨some 29, .mov (.t 6), none⟩,
 ⟨some 30, .bin .add (.t 28) (.t 29), none⟩,
 ⟨some 9, .mov (.t 30), none⟩] []) <|
 .keep [0, 1, 5, 7, 9, 21, 22, 23] [[20]]) <|
 .seq (.seq (.seq (.reg [⟨some 31, .mov (.t 7), none⟩,
 ⟨some 32, .mov (.t 1), none⟩,
 ⟨some 33, .len (.t 32), none⟩,
 ⟨some 34, .bin .lss (.t 31) (.t 33), none⟩] []) <|
 .keep [0, 1, 5, 7, 9, 21, 22, 23, 34] [[20]]) <|
 .cond (.t 34) (.seq (.reg [⟨some 35, .mov (.t 9), none⟩,
 ⟨some 36, .mov (.t 1), none⟩,
 ⟨some 37, .mov (.t 7), none⟩,
 ⟨some 38, .ixa 1 (.t 36) (.t 37), none⟩,
 ⟨some 39, .load none (.t 38), none⟩,
 ⟨some 40, .bin .add (.t 35) (.t 39), none⟩,
 ⟨some 9, .mov (.t 40), none⟩] []) <|
 .keep [0, 1, 5, 7, 9, 21, 22, 23] [[20]]) <|
 .skip) <|
 .seq (.seq (.reg [⟨some 6, .mov (.c (.v (.int .i64 0))), none⟩] []) <|
 .keep [0, 1, 5, 6, 7, 9, 21, 22, 23] [[20]]) <|
 .seq (.seq (.seq (.reg [⟨some 41, .mov (.t 9), none⟩,
 ⟨some 42, .bin .geq (.t 41) (.c (.v (.int .i64 1000000000))), none⟩] []) <|
 .keep [0, 1, 5, 6, 7, 9, 21, 22, 23, 42] [[20]]) <|
 .cond (.t 42) (.seq (.reg [⟨some 43, .mov (.t 9), none⟩,
 ⟨some 44, .bin .sub (.t 43) (.c (.v (.int .i64 1000000000))), none⟩,
 ⟨some 9, .mov (.t 44), none⟩,
 ⟨some 6, .mov (.c (.v (.int .i64 1))), none⟩] []) <|
 .keep [0, 1, 5, 6, 7, 9, 21, 22, 23] [[20]]) <|
 .skip) <|
 .seq (.reg [⟨some 45, .mov (.t 5), none⟩,
 ⟨some 46, .mov (.t 7), none⟩,
 ⟨some 47, .mov (.t 9), none⟩,
 ⟨some 48, .ixa 1 (.t 45) (.t 46), none⟩,
 ⟨none, .store 1 (.t 48) (.t 47), none⟩] []) <|
 .keep [0, 1, 5, 6, 21, 22, 23] [[20]]) <|
 .keep [0, 1, 5, 6, 21, 22, 23] [[20]]) <|
 .seq (.reg [⟨some 49, .bin .add (.t 23) (.c (.v (.int .i64 1))), none⟩,
 ⟨some 23, .mov (.t 49), none⟩] []) <|
 .keep [0, 1, 5, 6, 21, 22, 23] [[20]]) <|
 .keep [0, 1, 5, 6, 21, 22, 23] [[20]]
def integer_plus : CF := ⟨2, .seq (.seq (.reg [⟨some 4, .mov (.c (.z true)), none⟩] []) <|
 .keep [0, 1] []) <|
 .seq (.seq (.seq (.reg [⟨some 10, .mov (.t 0), none⟩,
 ⟨some 11, .len (.t 10), none⟩,
 ⟨some 12, .mov (.t 1), none⟩,
 ⟨some 13, .len (.t 12), none⟩,
 ⟨some 14, .bin .lss (.t 11) (.t 13), none⟩] []) <|
 .keep [0, 1, 14] []) <|
 .cond (.t 14) (.seq (.reg [⟨some 15, .mov (.t 1), none⟩,
 ⟨some 16, .mov (.t 0), none⟩,
 ⟨some 0, .mov (.t 15), none⟩,
 ⟨some 1, .mov (.t 16), none⟩] []) <|
 .keep [0, 1] []) <|
 .skip) <|
 .seq (.seq (.reg [⟨some 17, .mov (.t 0), none⟩,
 ⟨some 18, .len (.t 17), none⟩,
 ⟨some 19, .bin .add (.t 18) (.c (.v (.int .i64 1))), none⟩,
 ⟨some 20, .mksl 1 8 [.v (.int .i64 0)] (.t 19) (.t 19), none⟩,
 ⟨some 5, .mov (.t 20), none⟩] []) <|
 .keep [0, 1, 5] [[20]]) <|
 .seq (.seq (.reg [⟨some 6, .mov (.c (.v (.int .i64 0))), none⟩] []) <|
 .keep [0, 1, 5, 6] [[20]]) <|
 .seq (.seq (.seq (.reg [⟨some 21, .mov (.t 0), none⟩,
 ⟨some 22, .len (.t 21), none⟩,
 ⟨some 23, .mov (.c (.v (.int .i64 0))), none⟩] []) <|
 .keep [0, 1, 5, 6, 21, 22, 23] [[20]]) <|
 .seq (.blk 0 <|
 .seq (.keep [0, 1, 5, 6, 21, 22, 23] [[20]]) <|
 .loop integer_plus_l0) <|
 .keep [0, 5, 6] [[20]]) <|
 .seq (.seq (.reg [⟨some 50, .mov (.t 5), none⟩,
 ⟨some 51, .mov (.t 0), none⟩,
 ⟨some 52, .len (.t 51), none⟩,
 ⟨some 53, .mov (.t 6), none⟩,
 ⟨some 54, .ixa 1 (.t 50) (.t 52), none⟩,
 ⟨none, .store 1 (.t 54) (.t 53), none⟩] []) <|
 .keep [5] [[20]]) <|
 .seq (.seq (.reg [⟨some 55, .mov (.t 5), none⟩,
 ⟨some 4, .mov (.t 55), none⟩] []) <|
 .keep [4] [[20]]) <|
 .ret, [.t 4]⟩

def integer_minus_l0 : C :=
 .seq (.seq (.seq (.reg [⟨some 16, .bin .lss (.t 15) (.t 14), none⟩] []) <|
 .keep [1, 5, 14, 15, 16] [[9]]) <|
 .seq (.cond (.t 16) (.skip) <|
 .seq (.keep [5] [[9]]) <|
 .exit 0) <|
 .seq (.seq (.blk 1 <|
 .seq (.seq (.reg [⟨some 17, .mov (.t 15), none⟩,
 ⟨some 6, .mov (.t 17), none⟩] []) <|
 .keep [1, 5, 6, 14, 15] [[9]]) <|
 .seq (.seq (.seq (.reg [⟨some 18, .mov (.t 6), none⟩,
 ⟨some 19, .mov (.t 1), none⟩,
 ⟨some 20, .len (.t 19), none⟩,
 ⟨some 21, .bin .lss (.t 18) (.t 20), none⟩] []) <|
 .keep [1, 5, 6, 14, 15, 21] [[9]]) <|
 .cond (.t 21) (.seq (.reg [⟨some 22, .mov (.t 5), none⟩,
 ⟨some 23, .mov (.t 6), none⟩,
 ⟨some 24, .ixa 1 (.t 22) (.t 23), none⟩,
 ⟨some 25, .load none (.t 24), none⟩,
 ⟨some 26, .mov (.t 1), none⟩,
 ⟨some 27, .mov (.t 6), none⟩,
 ⟨some 28, .ixa 1 (.t 26) (.t 27), none⟩,
 ⟨some 29, .load none (.t 28), none⟩,
 ⟨some 30, .bin .sub (.t 25) (.t 29), none⟩,
 ⟨some 31, .ixa 1 (.t 22) (.t 23), none⟩,
 ⟨none, .store 1 (.t 31) (.t 30), none⟩] []) <|
 .keep [1, 5, 6, 14, 15] [[9]]) <|
 .skip) <|
 .seq (.seq (.reg [⟨some 32, .mov (.t 5), none⟩,
 ⟨some 33, .mov (.t 6), none⟩,
 ⟨some 34, .ixa 1 (.t 32) (.t 33), none⟩,
 ⟨some 35, .load none (.t 34), none⟩,
 ⟨some 36, .bin .lss (.t 35) (.c (.v (.int .i64 0))), none⟩] []) <|
 .keep [1, 5, 6, 14, 15, 36] [[9]]) <|
 .cond (.t 36) (.seq (.seq (.reg [⟨some 37, .mov (.t 5), none⟩,
 ⟨some 38, .mov (.t 6), none⟩,
 ⟨some 39, .ixa 1 (.t 37) (.t 38), none⟩,
 ⟨some 40, .load none (.t 39), none⟩,
 ⟨some 41, .bin .add (.t 40) (.c (.v (.int .i64 1000000000))), none⟩,
 ⟨some 42, .ixa 1 (.t 37) (.t 38), none⟩,
 ⟨none, .store 1 (.t 42) (.t 41), none⟩] []) <|
 .keep [1, 5, 6, 14, 15] [[9]]) <|
 .seq (.reg [⟨some 43, .mov (.t 5), none⟩,
 ⟨some 44, .mov (.t 6), none⟩,
 ⟨some 45, .bin .add (.t 44) (.c (.v (.int .i64 1))), none⟩,
 ⟨some 46, .ixa 1 (.t 43) (.t 45), none⟩,
 ⟨some 47, .load none (.t 46), none⟩,
 ⟨some 48, .bin .sub (.t 47) (.c (.v (.int .i64 1))), none⟩,
 ⟨some 49, .ixa 1 (.t 43) (.t 45), none⟩,
 ⟨none, .store 1 (.t 49) (.t 48), none⟩] []) <|
 .keep [1, 5, 14, 15] [[9]]) <|
 .skip) <|
 .keep [1, 5, 14, 15] [[9]]) <|
 .seq (.reg [⟨some 50, .bin .add (.t 15) (.c (.v (.int .i64 1))), none⟩,
 ⟨some 15, .mov (.t 50), none⟩] []) <|
 .keep [1, 5, 14, 15] [[9]]) <|
 .keep [1, 5, 14, 15] [[9]]
def integer_minus : CF := ⟨2, .seq (.seq (.reg [⟨some 4, .mov (.c (.z true)), none⟩] []) <|
 .keep [0, 1] []) <|
 .seq (.seq (.reg [⟨some 7, .mov (.t 0), none⟩,
 ⟨some 8, .len (.t 7), none⟩,
 ⟨some 9, .mksl 1 8 [.v (.int .i64 0)] (.t 8) (.t 8), none⟩,
 ⟨some 5, .mov (.t 9), none⟩] []) <|
 .keep [0, 1, 5] [[9]]) <|
 .seq (.seq (.reg [⟨some 10, .mov (.t 5), none⟩,
 ⟨some 11, .mov (.t 0), none⟩,
 ⟨some 12, .cpy 1 (.t 10) (.t 11), none⟩] []) <|
 .keep [1, 5] [[9]]) <|
 .seq (.seq (.seq (.reg [⟨some 13, .mov (.t 5), none⟩,
 ⟨some 14, .len (.t 13), none⟩,
 ⟨some 15, .mov (.c (.v (.int .i64 0))), none⟩] []) <|
 .keep [1, 5, 14, 15] [[9]]) <|
 .seq (.blk 0 <|
 .seq (.keep [1, 5, 14, 15] [[9]]) <|
 .loop integer_minus_l0) <|
 .keep [5] [[9]]) <|
 .seq (.seq (.reg [⟨some 51, .mov (.t 5), none⟩,
 ⟨some 4, .mov (.t 51), none⟩] []) <|
 .keep [4] [[9]]) <|
 .ret, [.t 4]⟩

def gantryref04_divided_l0 : C :=
 .seq (.seq (.seq (.seq (.reg [⟨some 64, .mov (.t 12), none⟩,
 ⟨some 65, .mov (.t 13), none⟩,
 ⟨some 66, .bin .lss (.t 64) (.t 65), none⟩] []) <|
 .keep [0, 1, 8, 9, 10, 12, 13, 66] [[42]]) <|
 .cond (.t 66) (.skip) <|
 .seq (.keep [0, 1, 8, 9, 10, 12] [[42]]) <|
 .exit 2) <|
 .seq (.blk 3 <|
 .seq (.seq (.reg [⟨some 67, .mov (.t 12), none⟩,
 ⟨some 68, .mov (.t 13), none⟩,
 ⟨some 69, .bin .add (.t 67) (.t 68), none⟩,
 ⟨some 70, .bin .add (.t 69) (.c (.v (.int .i64 1))), none⟩,
 ⟨some 71, .bin .quo (.t 70) (.c (.v (.int .i64 2))), none⟩,
 ⟨some 14, .mov (.t 71), none⟩] []) <|
 .keep [0, 1, 8, 9, 10, 12, 13, 14] [[42]]) <|
 .seq (.seq (.reg [⟨some 72, .mov (.t 1), none⟩,
 ⟨some 73, .mov (.t 14), none⟩,
 ⟨some 74, .call n_gantryref04_times [(.t 72), (.t 73)] false, none⟩,
 ⟨some 75, .mov (.t 9), none⟩,
 ⟨some 76, .call n_gantryref04_compared [(.t 74), (.t 75)] false, none⟩,
 ⟨some 77, .bin .leq (.t 76) (.c (.v (.int .i64 0))), none⟩] []) <|
 .keep [0, 1, 8, 9, 10, 12, 13, 14, 77] [[42]]) <|
 .cond (.t 77) (.seq (.reg [⟨some 78, .mov (.t 14), none⟩,
 ⟨some 12, .mov (.t 78), none⟩] []) <|
 .keep [0, 1, 8, 9, 10, 12, 13] [[42]]) <|
 .seq (.reg [⟨some 79, .mov (.t 14), none⟩,
 ⟨some 80, .bin .sub (.t 79) (.c (.v (.int .i64 1))), none⟩,
 ⟨some 13, .mov (.t 80), none⟩] []) <|
 .keep [0, 1, 8, 9, 10, 12, 13] [[42]]) <|
 .keep [0, 1, 8, 9, 10, 12, 13] [[42]]) <|
 .keep [0, 1, 8, 9, 10, 12, 13] [[42]]
def gantryref04_divided_l1 : C :=
 .seq (.seq (.seq (.seq (.reg [⟨some 46, .mov (.t 10), none⟩,
 ⟨some 47, .bin .geq (.t 46) (.c (.v (.int .i64 0))), none⟩] []) <|
 .keep [0, 1, 8, 9, 10, 47] [[42]]) <|
 .cond (.t 47) (.skip) <|
 .seq (.keep [8, 9] [[42]]) <|
 .exit 0) <|
 .seq (.seq (.blk 1 <|
 .seq (.seq (.reg [⟨some 50, .mov (.t 0), none⟩,
 ⟨some 51, .mov (.t 10), none⟩,
 ⟨some 52, .ixa 1 (.t 50) (.t 51), none⟩,
 ⟨some 53, .load none (.t 52), none⟩,
 ⟨some 54, .lit 1 1 [.v (.int .i64 0)] [(0, (.t 53))] false, none⟩,
 ⟨some 55, .mov (.t 9), none⟩,
 ⟨some 56, .app 1 8 (.t 54) (.t 55) true, none⟩,
 ⟨some 57, .call n_gantryref04_normal [(.c (.v (.bool false))), (.t 56)] false, none⟩,
 ⟨some 11, .new [.v (.bool false), .z true], none⟩,
 ⟨none, .store 2 (.t 11) (.t 57), none⟩] []) <|
 .keep [0, 1, 8, 10, 11] [[11], [42]]) <|
 .seq (.seq (.reg [⟨some 58, .fad 1 (.t 11), none⟩,
 ⟨some 59, .load none (.t 58), none⟩,
 ⟨some 9, .mov (.t 59), none⟩] []) <|
 .keep [0, 1, 8, 9, 10] [[42]]) <|
 .seq (.seq (.reg [⟨some 12, .mov (.c (.v (.int .i64 0))), none⟩] []) <|
 .keep [0, 1, 8, 9, 10, 12] [[42]]) <|
 .seq (.seq (.reg [⟨some 13, .mov (.c (.v (.int .i64 999999999))), none⟩] []) <|
 .keep [0, 1, 8, 9, 10, 12, 13] [[42]]) <|
 .seq (.seq (.seq (.reg [⟨some 60, .mov (.t 9), none⟩,
 ⟨some 61, .mov (.t 1), none⟩,
 ⟨some 62, .call n_gantryref04_compared [(.t 60), (.t 61)] false, none⟩,
 ⟨some 63, .bin .lss (.t 62) (.c (.v (.int .i64 0))), none⟩] []) <|
 .keep [0, 1, 8, 9, 10, 12, 13, 63] [[42]]) <|
 .cond (.t 63) (.seq (.reg [⟨some 13, .mov (.c (.v (.int .i64 0))), none⟩] []) <|
 .keep [0, 1, 8, 9, 10, 12, 13] [[42]]) <|
 .skip) <|
 .seq (.seq (.blk 2 <|
 .seq (.keep [0, 1, 8, 9, 10, 12, 13] [[42]]) <|
 .loop gantryref04_divided_l0) <|
 .keep [0, 1, 8, 9, 10, 12] [[42]]) <|
 .seq (.seq (.reg [⟨some 81, .mov (.t 9), none⟩,
 ⟨some 82, .mov (.t 1), none⟩,
 ⟨some 83, .mov (.t 12), none⟩,
 ⟨some 84, .call n_gantryref04_times [(.t 82), (.t 83)] false, none⟩,
 ⟨some 85, .call n_gantryref04_minus [(.t 81), (.t 84)] false, none⟩,
 ⟨some 86, .call n_gantryref04_normal [(.c (.v (.bool false))), (.t 85)] false, none⟩,
 ⟨some 15, .new [.v (.bool false), .z true], none⟩,
 ⟨none, .store 2 (.t 15) (.t 86), none⟩] []) <|
 .keep [0, 1, 8, 10, 12, 15] [[15], [42]]) <|
 .seq (.seq (.reg [⟨some 87, .mov (.t 8), none⟩,
 ⟨some 88, .mov (.t 10), none⟩,
 ⟨some 89, .mov (.t 12), none⟩,
 ⟨some 90, .ixa 1 (.t 87) (.t 88), none⟩,
 ⟨none, .store 1 (.t 90) (.t 89), none⟩] []) <|
 .keep [0, 1, 8, 10, 15] [[15], [42]]) <|
 .seq (.reg [⟨some 91, .fad 1 (.t 15), none⟩,
 ⟨some 92, .load none (.t 91), none⟩,
 ⟨some 9, .mov (.t 92), none⟩] []) <|
 .keep [0, 1, 8, 9, 10] [[42]]) <|
 .keep [0, 1, 8, 9, 10] [[42]]) <|
 .seq (.reg [⟨some 48, .mov (.t 10), none⟩,
 ⟨some 49, .bin .sub (.t 48) (.c (.v (.int .i64 1))), none⟩,
 ⟨some 10, .mov (.t 49), none⟩] []) <|
 .keep [0, 1, 8, 9, 10] [[42]]) <|
 .keep [0, 1, 8, 9, 10] [[42]]
def gantryref04_divided : CF := ⟨2, .seq (.seq (.reg [⟨some 4, .mov (.c (.z true)), none⟩,
 ⟨some 5, .mov (.c (.z true)), none⟩] []) <|
 .keep [0, 1] []) <|
 .seq (.seq (.seq (.reg [⟨some 16, .mov (.t 0), none⟩,
 ⟨some 17, .len (.t 16), none⟩,
 ⟨some 18, .bin .leq (.t 17) (.c (.v (.int .i64 2))), none⟩,
 ⟨some 19, .mov (.t 18), none⟩,
 ⟨some 20, .mov (.t 1), (some (19, true))⟩,
 ⟨some 21, .len (.t 20), (some (19, true))⟩,
 ⟨some 22, .bin .leq (.t 21) (.c (.v (.int .i64 2))), (some (19, true))⟩,
 ⟨some 23, .pick (.t 19) (.t 22) (.c (.v (.bool false))), none⟩] []) <|
 .keep [0, 1, 23] []) <|
 .cond (.t 23) (.seq (.seq (.reg [⟨some 24, .mov (.t 0), none⟩,
 ⟨some 25, .call n_gantryref04_tiny [(.t 24)] false, none⟩,
 ⟨some 26, .mov (.t 1), none⟩,
 ⟨some 27, .call n_gantryref04_tiny [(.t 26)] false, none⟩,
 ⟨some 28, .bin .quo (.t 25) (.t 27), none⟩,
 ⟨some 29, .call n_gantryref04_Of [(.t 28)] false, none⟩,
 ⟨some 6, .new [.v (.bool false), .z true], none⟩,
 ⟨none, .store 2 (.t 6) (.t 29), none⟩] []) <|
 .keep [0, 1, 6] [[6]]) <|
 .seq (.seq (.reg [⟨some 30, .mov (.t 0), none⟩,
 ⟨some 31, .call n_gantryref04_tiny [(.t 30)] false, none⟩,
 ⟨some 32, .mov (.t 1), none⟩,
 ⟨some 33, .call n_gantryref04_tiny [(.t 32)] false, none⟩,
 ⟨some 34, .bin .rem (.t 31) (.t 33), none⟩,
 ⟨some 35, .call n_gantryref04_Of [(.t 34)] false, none⟩,
 ⟨some 7, .new [.v (.bool false), .z true], none⟩,
 ⟨none, .store 2 (.t 7) (.t 35), none⟩] []) <|
 .keep [6, 7] [[6], [7]]) <|
 .seq (.seq (.reg [⟨some 36, .fad 1 (.t 6), none⟩,
 ⟨some 37, .load none (.t 36), none⟩,
 ⟨some 38, .fad 1 (.t 7), none⟩,
 ⟨some 39, .load none (.t 38), none⟩,
 ⟨some 4, .mov (.t 37), none⟩,
 ⟨some 5, .mov (.t 39), none⟩] []) <|
 .keep [4, 5] [[42]]) <|
 .ret) <|
 .skip) <|
 .seq (.seq (.reg [⟨some 40, .mov (.t 0), none⟩,
 ⟨some 41, .len (.t 40), none⟩,
 ⟨some 42, .mksl 1 8 [.v (.int .i64 0)] (.t 41) (.t 41), none⟩,
 ⟨some 8, .mov (.t 42), none⟩] []) <|
 .keep [0, 1, 8] [[42]]) <|
 .seq (.seq (.reg [⟨some 9, .mov (.c (.z true)), none⟩] []) <|
 .keep [0, 1, 8, 9] [[42]]) <|
 .seq (.seq (.seq (.reg [⟨some 43, .mov (.t 0), none⟩,
 ⟨some 44, .len (.t 43), none⟩,
 ⟨some 45, .bin .sub (.t 44) (.c (.v (.int .i64 1))), none⟩,
 ⟨some 10, .mov (.t 45), none⟩] []) <|
 .keep [0, 1, 8, 9, 10] [[42]]) <|
 .seq (.blk 0 <|
 .seq (.keep [0, 1, 8, 9, 10] [[42]]) <|
 .loop gantryref04_divided_l1) <|
 .keep [8, 9] [[42]]) <|
 .seq (.seq (.reg [⟨some 93, .mov (.t 8), none⟩,
 ⟨some 94, .mov (.t 9), none⟩,
 ⟨some 4, .mov (.t 93), none⟩,
 ⟨some 5, .mov (.t 94), none⟩] []) <|
 .keep [4, 5] [[42]]) <|
 .ret, [.t 4, .t 5]⟩

def gantryref04_minus_l0 : C :=
 .seq (.seq (.seq (.seq (.reg [⟨some 9, .mov (.t 7), none⟩,
 ⟨some 10, .mov (.t 0), none⟩,
 ⟨some 11, .len (.t 10), none⟩,
 ⟨some 12, .bin .lss (.t 9) (.t 11), none⟩] []) <|
 .keep [0, 1, 5, 6, 7, 12] [[32]]) <|
 .cond (.t 12) (.skip) <|
 .seq (.keep [5] [[32]]) <|
 .exit 0) <|
 .seq (.seq (.blk 1 <|
 .seq (.seq (.reg [⟨some 15, .mov (.t 0), none⟩,
 ⟨some 16, .mov (.t 7), none⟩,
 ⟨some 17, .ixa 1 (.t 15) (.t 16), none⟩,
 ⟨some 18, .load none (.t 17), none⟩,
 ⟨some 19, .mov (.t 1), none⟩,
 ⟨some 20, .mov (.t 7), none⟩,
 ⟨some 21, .call n_gantryref04_digit [(.t 19), (.t 20)] false, none⟩,
 ⟨some 22, .bin .sub (.t 18) (.t 21), none⟩,
 ⟨some 23, .mov (.t 6), none⟩,
 ⟨some 24, .bin .sub (.t 22) (.t 23), none⟩,
 ⟨some 8, .mov (.t 24), none⟩] []) <|
 .keep [0, 1, 5, 7, 8] [[32]]) <|
 .seq (.seq (.reg [⟨some 6, .mov (.c (.v (.int .i64 0))), none⟩] []) <|
 .keep [0, 1, 5, 6, 7, 8] [[32]]) <|
 .seq (.seq (.seq (.reg [⟨some 25, .mov (.t 8), none⟩,
 ⟨some 26, .bin .lss (.t 25) (.c (.v (.int .i64 0))), none⟩] []) <|
 .keep [0, 1, 5, 6, 7, 8, 26] [[32]]) <|
 .cond (.t 26) (.seq (.seq (.reg [⟨some 27, .mov (.t 8), none⟩,
 ⟨some 28, .bin .add (.t 27) (.c (.v (.int .i64 1000000000))), none⟩,
 ⟨some 8, .mov (.t 28), none⟩] []) <|
 .keep [0, 1, 5, 7, 8] [[32]]) <|
 .seq (.reg [⟨some 6, .mov (.c (.v (.int .i64 1))), none⟩] []) <|
 .keep [0, 1, 5, 6, 7, 8] [[32]]) <|
 .skip) <|
 .seq (.reg [⟨some 29, .mov (.t 5), none⟩,
 ⟨some 30, .mov (.t 8), none⟩,
 ⟨some 31, .lit 1 1 [.v (.int .i64 0)] [(0, (.t 30))] true, none⟩,
 ⟨some 32, .app 1 8 (.t 29) (.t 31) false, none⟩,
 ⟨some 5, .mov (.t 32), none⟩] []) <|
 .keep [0, 1, 5, 6, 7] [[32]]) <|
 .keep [0, 1, 5, 6, 7] [[32]]) <|
 .seq (.reg [⟨some 13, .mov (.t 7), none⟩,
 ⟨some 14, .bin .add (.t 13) (.c (.v (.int .i64 1))), none⟩,
 ⟨some 7, .mov (.t 14), none⟩] []) <|
 .keep [0, 1, 5, 6, 7] [[32]]) <|
 .keep [0, 1, 5, 6, 7] [[32]]
def gantryref04_minus : CF := ⟨2, .seq (.seq (.reg [⟨some 4, .mov (.c (.z true)), none⟩] []) <|
 .keep [0, 1] []) <|
 .seq (.seq (.reg [⟨some 5, .mov (.c (.z true)), none⟩] []) <|
 .keep [0, 1, 5] [[32]]) <|
 .seq (.seq (.reg [⟨some 6, .mov (.c (.v (.int .i64 0))), none⟩] []) <|
 .keep [0, 1, 5, 6] [[32]]) <|
 .seq (.seq (.seq (.reg [⟨some 7, .mov (.c (.v (.int .i64 0))), none⟩] []) <|
 .keep [0, 1, 5, 6, 7] [[32]]) <|
 .seq (.blk 0 <|
 .seq (.keep [0, 1, 5, 6, 7] [[32]]) <|
 .loop gantryref04_minus_l0) <|
 .keep [5] [[32]]) <|
 .seq (.seq (.reg [⟨some 33, .mov (.t 5), none⟩,
 ⟨some 4, .mov (.t 33), none⟩] []) <|
 .keep [4] [[32]]) <|
 .ret, [.t 4]⟩

def gantryref01_Int_l0 : C :=
 .seq (.seq (.seq (.seq (.reg [⟨some 14, .mov (.t 3), none⟩,
 ⟨some 15, .bin .gtr (.t 14) (.c (.v (.int .i64 0))), none⟩] []) <|
 .keep [0, 3, 4, 15] [[21]]) <|
 .cond (.t 15) (.skip) <|
 .seq (.keep [0, 4] [[21]]) <|
 .exit 0) <|
 .seq (.blk 1 <|
 .seq (.seq (.reg [⟨some 16, .mov (.t 4), none⟩,
 ⟨some 17, .mov (.t 3), none⟩,
 ⟨some 18, .bin .rem (.t 17) (.c (.v (.int .i64 256))), none⟩,
 ⟨some 19, .conv (.int .u8) (.t 18), none⟩,
 ⟨some 20, .lit 1 1 [.v (.int .u8 0)] [(0, (.t 19))] true, none⟩,
 ⟨some 21, .app 1 1 (.t 16) (.t 20) false, none⟩,
 ⟨some 4, .mov (.t 21), none⟩] []) <|
 .keep [0, 3, 4] [[21]]) <|
 .seq (.reg [⟨some 22, .mov (.t 3), none⟩,
 ⟨some 23, .bin .quo (.t 22) (.c (.v (.int .i64 256))), none⟩,
 ⟨some 3, .mov (.t 23), none⟩] []) <|
 .keep [0, 3, 4] [[21]]) <|
 .keep [0, 3, 4] [[21]]) <|
 .keep [0, 3, 4] [[21]]
def gantryref01_Int_l1 : C :=
 .seq (.seq (.seq (.seq (.reg [⟨some 42, .mov (.t 7), none⟩,
 ⟨some 43, .bin .geq (.t 42) (.c (.v (.int .i64 0))), none⟩] []) <|
 .keep [0, 4, 6, 7, 43] [[21], [33], [39], [57]]) <|
 .cond (.t 43) (.skip) <|
 .seq (.keep [6] [[33], [39], [57]]) <|
 .exit 2) <|
 .seq (.seq (.blk 3 <|
 .seq (.seq (.reg [⟨some 46, .mov (.t 4), none⟩,
 ⟨some 47, .mov (.t 7), none⟩,
 ⟨some 48, .ixa 1 (.t 46) (.t 47), none⟩,
 ⟨some 49, .load none (.t 48), none⟩,
 ⟨some 8, .mov (.t 49), none⟩] []) <|
 .keep [0, 4, 6, 7, 8] [[21], [33], [39], [57]]) <|
 .seq (.seq (.seq (.reg [⟨some 50, .mov (.t 0), none⟩,
 ⟨some 51, .bin .lss (.t 50) (.c (.v (.int .i64 0))), none⟩] []) <|
 .keep [0, 4, 6, 7, 8, 51] [[21], [33], [39], [57]]) <|
 .cond (.t 51) (.seq (.reg [⟨some 52, .mov (.t 8), none⟩,
 ⟨some 53, .bin .sub (.c (.v (.int .u8 255))) (.t 52), none⟩,
 ⟨some 8, .mov (.t 53), none⟩] []) <|
 .keep [0, 4, 6, 7, 8] [[21], [33], [39], [57]]) <|
 .skip) <|
 .seq (.reg [⟨some 54, .mov (.t 6), none⟩,
 ⟨some 55, .mov (.t 8), none⟩,
 ⟨some 56, .lit 1 1 [.v (.int .u8 0)] [(0, (.t 55))] true, none⟩,
 ⟨some 57, .app 1 1 (.t 54) (.t 56) false, none⟩,
 ⟨some 6, .mov (.t 57), none⟩] []) <|
 .keep [0, 4, 6, 7] [[21], [33], [39], [57]]) <|
 .keep [0, 4, 6, 7] [[21], [33], [39], [57]]) <|
 .seq (.reg [⟨some 44, .mov (.t 7), none⟩,
 ⟨some 45, .bin .sub (.t 44) (.c (.v (.int .i64 1))), none⟩,
 ⟨some 7, .mov (.t 45), none⟩] []) <|
 .keep [0, 4, 6, 7] [[21], [33], [39], [57]]) <|
 .keep [0, 4, 6, 7] [[21], [33], [39], [57]]
def gantryref01_Int : CF := ⟨1, .seq (.seq (.reg [⟨some 2, .mov (.c (.z true)), none⟩] []) <|
 .keep [0] []) <|
 .seq (.seq (.reg [⟨some 9, .mov (.t 0), none⟩,
 ⟨some 3, .mov (.t 9), none⟩] []) <|
 .keep [0, 3] []) <|
 .seq (.seq (.seq (.reg [⟨some 10, .mov (.t 0), none⟩,
 ⟨some 11, .bin .lss (.t 10) (.c (.v (.int .i64 0))), none⟩] []) <|
 .keep [0, 3, 11] []) <|
 .cond (.t 11) (.seq (.reg [⟨some 12, .mov (.t 0), none⟩,
 ⟨some 13, .bin .sub (.c (.v (.int .i64 (-1)))) (.t 12), none⟩,
 ⟨some 3, .mov (.t 13), none⟩] []) <|
 .keep [0, 3] []) <|
 .skip) <|
 .seq (.seq (.reg [⟨some 4, .mov (.c (.z true)), none⟩] []) <|
 .keep [0, 3, 4] [[21]]) <|
 .seq (.seq (.blk 0 <|
 .seq (.keep [0, 3, 4] [[21]]) <|
 .loop gantryref01_Int_l0) <|
 .keep [0, 4] [[21]]) <|
 .seq (.seq (.reg [⟨some 24, .mov (.t 4), none⟩,
 ⟨some 25, .len (.t 24), none⟩,
 ⟨some 5, .mov (.t 25), none⟩] []) <|
 .keep [0, 4, 5] [[21]]) <|
 .seq (.seq (.reg [⟨some 6, .mov (.c (.z true)), none⟩] []) <|
 .keep [0, 4, 5, 6] [[21], [33], [39], [57]]) <|
 .seq (.seq (.seq (.reg [⟨some 26, .mov (.t 0), none⟩,
 ⟨some 27, .bin .geq (.t 26) (.c (.v (.int .i64 0))), none⟩] []) <|
 .keep [0, 4, 5, 6, 27] [[21], [33], [39], [57]]) <|
 .cond (.t 27) (.seq (.reg [⟨some 28, .mov (.t 6), none⟩,
 ⟨some 29, .mov (.t 5), none⟩,
 ⟨some 30, .bin .add (.c (.v (.int .i64 128))) (.t 29), none⟩,
 ⟨some 31, .conv (.int .u8) (.t 30), none⟩,
 ⟨some 32, .lit 1 1 [.v (.int .u8 0)] [(0, (.t 31))] true, none⟩,
 ⟨some 33, .app 1 1 (.t 28) (.t 32) false, none⟩,
 ⟨some 6, .mov (.t 33), none⟩] []) <|
 .keep [0, 4, 5, 6] [[21], [33], [39], [57]]) <|
 .seq (.reg [⟨some 34, .mov (.t 6), none⟩,
 ⟨some 35, .mov (.t 5), none⟩,
 ⟨some 36, .bin .sub (.c (.v (.int .i64 127))) (.t 35), none⟩,
 ⟨some 37, .conv (.int .u8) (.t 36), none⟩,
 ⟨some 38, .lit 1 1 [.v (.int .u8 0)] [(0, (.t 37))] true, none⟩,
 ⟨some 39, .app 1 1 (.t 34) (.t 38) false, none⟩,
 ⟨some 6, .mov (.t 39), none⟩] []) <|
 .keep [0, 4, 5, 6] [[21], [33], [39], [57]]) <|
 .seq (.seq (.seq (.reg [⟨some 40, .mov (.t 5), none⟩,
 ⟨some 41, .bin .sub (.t 40) (.c (.v (.int .i64 1))), none⟩,
 ⟨some 7, .mov (.t 41), none⟩] []) <|
 .keep [0, 4, 6, 7] [[21], [33], [39], [57]]) <|
 .seq (.blk 2 <|
 .seq (.keep [0, 4, 6, 7] [[21], [33], [39], [57]]) <|
 .loop gantryref01_Int_l1) <|
 .keep [6] [[33], [39], [57]]) <|
 .seq (.seq (.reg [⟨some 58, .mov (.t 6), none⟩,
 ⟨some 2, .mov (.t 58), none⟩] []) <|
 .keep [2] [[33], [39], [57]]) <|
 .ret, [.t 2]⟩

def strings_CutPrefix : CF := ⟨2, .seq (.seq (.reg [⟨some 4, .mov (.c (.v (.string ⟨#[]⟩))), none⟩,
 ⟨some 5, .mov (.c (.v (.bool false))), none⟩] []) <|
 .keep [0, 1] []) <|
 .seq (.seq (.reg [⟨some 6, .mov (.t 0), none⟩,
 ⟨some 7, .mov (.t 1), none⟩,
 ⟨some 8, .call n_internal_stringslite_CutPrefix [(.t 6), (.t 7)] false, none⟩,
 ⟨some 9, .ext (.t 8) 0, none⟩,
 ⟨some 10, .ext (.t 8) 1, none⟩,
 ⟨some 4, .mov (.t 9), none⟩,
 ⟨some 5, .mov (.t 10), none⟩] []) <|
 .keep [4, 5] []) <|
 .ret, [.t 4, .t 5]⟩

def wire_Ints_l0 : C :=
 .seq (.seq (.seq (.reg [⟨some 12, .bin .lss (.t 11) (.t 10), none⟩] []) <|
 .keep [3, 9, 10, 11, 12] [[8], [18]]) <|
 .seq (.cond (.t 12) (.skip) <|
 .seq (.keep [3] [[8], [18]]) <|
 .exit 0) <|
 .seq (.seq (.blk 1 <|
 .seq (.seq (.reg [⟨some 13, .ixa 1 (.t 9) (.t 11), none⟩,
 ⟨some 14, .load none (.t 13), none⟩,
 ⟨some 5, .mov (.t 14), none⟩] []) <|
 .keep [3, 5, 9, 10, 11] [[8], [18]]) <|
 .seq (.reg [⟨some 15, .mov (.t 3), none⟩,
 ⟨some 16, .mov (.t 5), none⟩,
 ⟨some 17, .call n_wire_Int [(.t 16)] false, none⟩,
 ⟨some 18, .app 1 1 (.t 15) (.t 17) false, none⟩,
 ⟨some 3, .mov (.t 18), none⟩] []) <|
 .keep [3, 9, 10, 11] [[8], [18]]) <|
 .keep [3, 9, 10, 11] [[8], [18]]) <|
 .seq (.reg [⟨some 19, .bin .add (.t 11) (.c (.v (.int .i64 1))), none⟩,
 ⟨some 11, .mov (.t 19), none⟩] []) <|
 .keep [3, 9, 10, 11] [[8], [18]]) <|
 .keep [3, 9, 10, 11] [[8], [18]]
def wire_Ints : CF := ⟨1, .seq (.seq (.reg [⟨some 2, .mov (.c (.z true)), none⟩] []) <|
 .keep [0] []) <|
 .seq (.seq (.reg [⟨some 6, .mov (.t 0), none⟩,
 ⟨some 7, .len (.t 6), none⟩,
 ⟨some 8, .call n_wire_Int [(.t 7)] true, none⟩,
 ⟨some 3, .mov (.t 8), none⟩] []) <|
 .keep [0, 3] [[8], [18]]) <|
 .seq (.seq (.seq (.reg [⟨some 9, .mov (.t 0), none⟩,
 ⟨some 10, .len (.t 9), none⟩,
 ⟨some 11, .mov (.c (.v (.int .i64 0))), none⟩] []) <|
 .keep [3, 9, 10, 11] [[8], [18]]) <|
 .seq (.blk 0 <|
 .seq (.keep [3, 9, 10, 11] [[8], [18]]) <|
 .loop wire_Ints_l0) <|
 .keep [3] [[8], [18]]) <|
 .seq (.seq (.reg [⟨some 20, .mov (.t 3), none⟩,
 ⟨some 2, .mov (.t 20), none⟩] []) <|
 .keep [2] [[8], [18]]) <|
 .ret, [.t 2]⟩

def wire_GetInts_l0 : C :=
 .seq (.seq (.seq (.reg [⟨some 27, .bin .lss (.t 26) (.t 25), none⟩] []) <|
 .keep [6, 8, 9, 25, 26, 27] [[40]]) <|
 .seq (.cond (.t 27) (.skip) <|
 .seq (.keep [6, 9] [[40]]) <|
 .exit 0) <|
 .seq (.seq (.blk 1 <|
 .seq (.seq (.reg [⟨some 29, .mov (.t 8), none⟩,
 ⟨some 30, .calv (.t 29) [], none⟩,
 ⟨some 28, .mov (.t 30), none⟩,
 ⟨some 31, .ext (.t 28) 0, none⟩,
 ⟨some 32, .ext (.t 28) 1, none⟩,
 ⟨some 33, .ext (.t 28) 2, none⟩,
 ⟨some 10, .mov (.t 31), none⟩,
 ⟨some 11, .mov (.t 32), none⟩,
 ⟨some 12, .mov (.t 33), none⟩] []) <|
 .keep [8, 9, 10, 11, 12, 25, 26] [[40]]) <|
 .seq (.seq (.seq (.reg [⟨some 34, .mov (.t 12), none⟩,
 ⟨some 35, .bin .neq (.t 34) (.c (.v (.int .i64 0))), none⟩] []) <|
 .keep [8, 9, 10, 11, 12, 25, 26, 35] [[40]]) <|
 .cond (.t 35) (.seq (.seq (.reg [⟨some 36, .mov (.t 12), none⟩,
 ⟨some 2, .mov (.c (.z true)), none⟩,
 ⟨some 3, .mov (.c (.v (.int .i64 0))), none⟩,
 ⟨some 4, .mov (.t 36), none⟩] []) <|
 .keep [2, 3, 4] [[40]]) <|
 .ret) <|
 .skip) <|
 .seq (.reg [⟨some 37, .mov (.t 9), none⟩,
 ⟨some 38, .mov (.t 10), none⟩,
 ⟨some 39, .lit 1 1 [.v (.int .i64 0)] [(0, (.t 38))] true, none⟩,
 ⟨some 40, .app 1 8 (.t 37) (.t 39) false, none⟩,
 ⟨some 41, .mov (.t 11), none⟩,
 ⟨some 9, .mov (.t 40), none⟩,
 ⟨some 6, .mov (.t 41), none⟩] []) <|
 .keep [6, 8, 9, 25, 26] [[40]]) <|
 .keep [6, 8, 9, 25, 26] [[40]]) <|
 .seq (.reg [⟨some 42, .bin .add (.t 26) (.c (.v (.int .i64 1))), none⟩,
 ⟨some 26, .mov (.t 42), none⟩] []) <|
 .keep [6, 8, 9, 25, 26] [[40]]) <|
 .keep [6, 8, 9, 25, 26] [[40]]
def wire_GetInts : CF := ⟨1, .seq (.seq (.reg [⟨some 2, .mov (.c (.z true)), none⟩,
 ⟨some 3, .mov (.c (.v (.int .i64 0))), none⟩,
 ⟨some 4, .mov (.c (.v (.int .i64 0))), none⟩] []) <|
 .keep [0] []) <|
 .seq (.seq (.reg [⟨some 14, .mov (.t 0), none⟩,
 ⟨some 15, .call n_wire_count [(.t 14), (.c (.v (.int .i64 1)))] false, none⟩,
 ⟨some 13, .mov (.t 15), none⟩,
 ⟨some 16, .ext (.t 13) 0, none⟩,
 ⟨some 17, .ext (.t 13) 1, none⟩,
 ⟨some 18, .ext (.t 13) 2, none⟩,
 ⟨some 5, .mov (.t 16), none⟩,
 ⟨some 6, .mov (.t 17), none⟩,
 ⟨some 7, .mov (.t 18), none⟩] []) <|
 .keep [0, 5, 6, 7] []) <|
 .seq (.seq (.seq (.reg [⟨some 19, .mov (.t 7), none⟩,
 ⟨some 20, .bin .neq (.t 19) (.c (.v (.int .i64 0))), none⟩] []) <|
 .keep [0, 5, 6, 7, 20] []) <|
 .cond (.t 20) (.seq (.seq (.reg [⟨some 21, .mov (.t 7), none⟩,
 ⟨some 2, .mov (.c (.z true)), none⟩,
 ⟨some 3, .mov (.c (.v (.int .i64 0))), none⟩,
 ⟨some 4, .mov (.t 21), none⟩] []) <|
 .keep [2, 3, 4] [[40]]) <|
 .ret) <|
 .skip) <|
 .seq (.seq (.reg [⟨some 22, .mov (.t 0), none⟩,
 ⟨some 23, .mov (.t 6), none⟩,
 ⟨some 24, .call n_wire_reader [(.t 22), (.t 23)] false, none⟩,
 ⟨some 8, .mov (.t 24), none⟩] []) <|
 .keep [5, 6, 8] []) <|
 .seq (.seq (.reg [⟨some 9, .mov (.c (.z true)), none⟩] []) <|
 .keep [5, 6, 8, 9] [[40]]) <|
 .seq (.seq (.seq (.reg [⟨some 25, .mov (.t 5), none⟩,
 ⟨some 26, .mov (.c (.v (.int .i64 0))), none⟩] []) <|
 .keep [6, 8, 9, 25, 26] [[40]]) <|
 .seq (.blk 0 <|
 .seq (.keep [6, 8, 9, 25, 26] [[40]]) <|
 .loop wire_GetInts_l0) <|
 .keep [6, 9] [[40]]) <|
 .seq (.seq (.reg [⟨some 43, .mov (.t 9), none⟩,
 ⟨some 44, .mov (.t 6), none⟩,
 ⟨some 2, .mov (.t 43), none⟩,
 ⟨some 3, .mov (.t 44), none⟩,
 ⟨some 4, .mov (.c (.v (.int .i64 0))), none⟩] []) <|
 .keep [2, 3, 4] [[40]]) <|
 .ret, [.t 2, .t 3, .t 4]⟩

def slices_Clone_int_int : CF := ⟨1, .seq (.seq (.reg [⟨some 2, .mov (.c (.z true)), none⟩] []) <|
 .keep [0] []) <|
 .seq (.seq (.seq (.reg [⟨some 3, .mov (.t 0), none⟩,
 ⟨some 4, .isn false (.t 3), none⟩] []) <|
 .keep [0, 4] []) <|
 .cond (.t 4) (.seq (.seq (.reg [⟨some 2, .mov (.c (.z true)), none⟩] []) <|
 .keep [2] [[5], [7]]) <|
 .ret) <|
 .skip) <|
 .seq (.seq (.reg [⟨some 5, .lit 1 0 [.v (.int .i64 0)] [] false, none⟩,
 ⟨some 6, .mov (.t 0), none⟩,
 ⟨some 7, .app 1 8 (.t 5) (.t 6) true, none⟩,
 ⟨some 2, .mov (.t 7), none⟩] []) <|
 .keep [2] [[5], [7]]) <|
 .ret, [.t 2]⟩

def gantryref04_decimal_l0 : C :=
 .seq (.seq (.seq (.seq (.reg [⟨some 4, .mov (.t 0), none⟩,
 ⟨some 5, .bin .gtr (.t 4) (.c (.v (.int .i64 0))), none⟩] []) <|
 .keep [0, 3, 5] []) <|
 .cond (.t 5) (.skip) <|
 .seq (.keep [3] []) <|
 .exit 0) <|
 .seq (.blk 1 <|
 .seq (.seq (.reg [⟨some 6, .mov (.t 0), none⟩,
 ⟨some 7, .bin .rem (.t 6) (.c (.v (.int .i64 10))), none⟩,
 ⟨some 8, .bin .add (.c (.v (.int .i64 48))) (.t 7), none⟩,
 ⟨some 9, .conv (.int .u8) (.t 8), none⟩,
 ⟨some 10, .lit 1 1 [.v (.int .u8 0)] [(0, (.t 9))] true, none⟩,
 ⟨some 11, .conv .b2s (.t 10), none⟩,
 ⟨some 12, .mov (.t 3), none⟩,
 ⟨some 13, .bin .add (.t 11) (.t 12), none⟩,
 ⟨some 3, .mov (.t 13), none⟩] []) <|
 .keep [0, 3] []) <|
 .seq (.reg [⟨some 14, .mov (.t 0), none⟩,
 ⟨some 15, .bin .quo (.t 14) (.c (.v (.int .i64 10))), none⟩,
 ⟨some 0, .mov (.t 15), none⟩] []) <|
 .keep [0, 3] []) <|
 .keep [0, 3] []) <|
 .keep [0, 3] []
def gantryref04_decimal : CF := ⟨1, .seq (.seq (.reg [⟨some 2, .mov (.c (.v (.string ⟨#[]⟩))), none⟩] []) <|
 .keep [0] []) <|
 .seq (.seq (.reg [⟨some 3, .mov (.c (.v (.string ⟨#[]⟩))), none⟩] []) <|
 .keep [0, 3] []) <|
 .seq (.seq (.blk 0 <|
 .seq (.keep [0, 3] []) <|
 .loop gantryref04_decimal_l0) <|
 .keep [3] []) <|
 .seq (.seq (.reg [⟨some 16, .mov (.t 3), none⟩,
 ⟨some 2, .mov (.t 16), none⟩] []) <|
 .keep [2] []) <|
 .ret, [.t 2]⟩

def gantryref01_GetInts_l0 : C :=
 .seq (.seq (.seq (.seq (.reg [⟨some 22, .mov (.t 9), none⟩,
 ⟨some 23, .mov (.t 5), none⟩,
 ⟨some 24, .bin .lss (.t 22) (.t 23), none⟩] []) <|
 .keep [0, 5, 6, 8, 9, 24] [[41]]) <|
 .cond (.t 24) (.skip) <|
 .seq (.keep [6, 8] [[41]]) <|
 .exit 0) <|
 .seq (.seq (.blk 1 <|
 .seq (.seq (.reg [⟨some 28, .mov (.t 0), none⟩,
 ⟨some 29, .mov (.t 6), none⟩,
 ⟨some 30, .slc 1 (.t 28) (some (.t 29)) none none, none⟩,
 ⟨some 31, .call n_gantryref01_GetInt [(.t 30)] false, none⟩,
 ⟨some 27, .mov (.t 31), none⟩,
 ⟨some 32, .ext (.t 27) 0, none⟩,
 ⟨some 33, .ext (.t 27) 1, none⟩,
 ⟨some 34, .ext (.t 27) 2, none⟩,
 ⟨some 10, .mov (.t 32), none⟩,
 ⟨some 11, .mov (.t 33), none⟩,
 ⟨some 12, .mov (.t 34), none⟩] []) <|
 .keep [0, 5, 6, 8, 9, 10, 11, 12] [[41]]) <|
 .seq (.seq (.seq (.reg [⟨some 35, .mov (.t 12), none⟩,
 ⟨some 36, .bin .neq (.t 35) (.c (.v (.int .i64 0))), none⟩] []) <|
 .keep [0, 5, 6, 8, 9, 10, 11, 12, 36] [[41]]) <|
 .cond (.t 36) (.seq (.seq (.reg [⟨some 37, .mov (.t 12), none⟩,
 ⟨some 2, .mov (.c (.z true)), none⟩,
 ⟨some 3, .mov (.c (.v (.int .i64 0))), none⟩,
 ⟨some 4, .mov (.t 37), none⟩] []) <|
 .keep [2, 3, 4] [[41]]) <|
 .ret) <|
 .skip) <|
 .seq (.seq (.reg [⟨some 38, .mov (.t 8), none⟩,
 ⟨some 39, .mov (.t 10), none⟩,
 ⟨some 40, .lit 1 1 [.v (.int .i64 0)] [(0, (.t 39))] true, none⟩,
 ⟨some 41, .app 1 8 (.t 38) (.t 40) false, none⟩,
 ⟨some 8, .mov (.t 41), none⟩] []) <|
 .keep [0, 5, 6, 8, 9, 11] [[41]]) <|
 .seq (.reg [⟨some 42, .mov (.t 6), none⟩,
 ⟨some 43, .mov (.t 11), none⟩,
 ⟨some 44, .bin .add (.t 42) (.t 43), none⟩,
 ⟨some 6, .mov (.t 44), none⟩] []) <|
 .keep [0, 5, 6, 8, 9] [[41]]) <|
 .keep [0, 5, 6, 8, 9] [[41]]) <|
 .seq (.reg [⟨some 25, .mov (.t 9), none⟩,
 ⟨some 26, .bin .add (.t 25) (.c (.v (.int .i64 1))), none⟩,
 ⟨some 9, .mov (.t 26), none⟩] []) <|
 .keep [0, 5, 6, 8, 9] [[41]]) <|
 .keep [0, 5, 6, 8, 9] [[41]]
def gantryref01_GetInts : CF := ⟨1, .seq (.seq (.reg [⟨some 2, .mov (.c (.z true)), none⟩,
 ⟨some 3, .mov (.c (.v (.int .i64 0))), none⟩,
 ⟨some 4, .mov (.c (.v (.int .i64 0))), none⟩] []) <|
 .keep [0] []) <|
 .seq (.seq (.reg [⟨some 14, .mov (.t 0), none⟩,
 ⟨some 15, .call n_gantryref01_count [(.t 14), (.c (.v (.int .i64 1)))] false, none⟩,
 ⟨some 13, .mov (.t 15), none⟩,
 ⟨some 16, .ext (.t 13) 0, none⟩,
 ⟨some 17, .ext (.t 13) 1, none⟩,
 ⟨some 18, .ext (.t 13) 2, none⟩,
 ⟨some 5, .mov (.t 16), none⟩,
 ⟨some 6, .mov (.t 17), none⟩,
 ⟨some 7, .mov (.t 18), none⟩] []) <|
 .keep [0, 5, 6, 7] []) <|
 .seq (.seq (.seq (.reg [⟨some 19, .mov (.t 7), none⟩,
 ⟨some 20, .bin .neq (.t 19) (.c (.v (.int .i64 0))), none⟩] []) <|
 .keep [0, 5, 6, 7, 20] []) <|
 .cond (.t 20) (.seq (.seq (.reg [⟨some 21, .mov (.t 7), none⟩,
 ⟨some 2, .mov (.c (.z true)), none⟩,
 ⟨some 3, .mov (.c (.v (.int .i64 0))), none⟩,
 ⟨some 4, .mov (.t 21), none⟩] []) <|
 .keep [2, 3, 4] [[41]]) <|
 .ret) <|
 .skip) <|
 .seq (.seq (.reg [⟨some 8, .mov (.c (.z true)), none⟩] []) <|
 .keep [0, 5, 6, 8] [[41]]) <|
 .seq (.seq (.seq (.reg [⟨some 9, .mov (.c (.v (.int .i64 0))), none⟩] []) <|
 .keep [0, 5, 6, 8, 9] [[41]]) <|
 .seq (.blk 0 <|
 .seq (.keep [0, 5, 6, 8, 9] [[41]]) <|
 .loop gantryref01_GetInts_l0) <|
 .keep [6, 8] [[41]]) <|
 .seq (.seq (.reg [⟨some 45, .mov (.t 8), none⟩,
 ⟨some 46, .mov (.t 6), none⟩,
 ⟨some 2, .mov (.t 45), none⟩,
 ⟨some 3, .mov (.t 46), none⟩,
 ⟨some 4, .mov (.c (.v (.int .i64 0))), none⟩] []) <|
 .keep [2, 3, 4] [[41]]) <|
 .ret, [.t 2, .t 3, .t 4]⟩

def gantryref04_plus_l0 : C :=
 .seq (.seq (.seq (.seq (.reg [⟨some 9, .mov (.t 7), none⟩,
 ⟨some 10, .mov (.t 0), none⟩,
 ⟨some 11, .len (.t 10), none⟩,
 ⟨some 12, .bin .lss (.t 9) (.t 11), none⟩,
 ⟨some 13, .mov (.t 12), none⟩,
 ⟨some 14, .mov (.t 7), (some (13, false))⟩,
 ⟨some 15, .mov (.t 1), (some (13, false))⟩,
 ⟨some 16, .len (.t 15), (some (13, false))⟩,
 ⟨some 17, .bin .lss (.t 14) (.t 16), (some (13, false))⟩,
 ⟨some 18, .pick (.t 13) (.c (.v (.bool true))) (.t 17), none⟩,
 ⟨some 19, .mov (.t 18), none⟩,
 ⟨some 20, .mov (.t 6), (some (19, false))⟩,
 ⟨some 21, .bin .gtr (.t 20) (.c (.v (.int .i64 0))), (some (19, false))⟩,
 ⟨some 22, .pick (.t 19) (.c (.v (.bool true))) (.t 21), none⟩] []) <|
 .keep [0, 1, 5, 6, 7, 22] [[38]]) <|
 .cond (.t 22) (.skip) <|
 .seq (.keep [5] [[38]]) <|
 .exit 0) <|
 .seq (.seq (.blk 1 <|
 .seq (.seq (.reg [⟨some 25, .mov (.t 0), none⟩,
 ⟨some 26, .mov (.t 7), none⟩,
 ⟨some 27, .call n_gantryref04_digit [(.t 25), (.t 26)] false, none⟩,
 ⟨some 28, .mov (.t 1), none⟩,
 ⟨some 29, .mov (.t 7), none⟩,
 ⟨some 30, .call n_gantryref04_digit [(.t 28), (.t 29)] false, none⟩,
 ⟨some 31, .bin .add (.t 27) (.t 30), none⟩,
 ⟨some 32, .mov (.t 6), none⟩,
 ⟨some 33, .bin .add (.t 31) (.t 32), none⟩,
 ⟨some 8, .mov (.t 33), none⟩] []) <|
 .keep [0, 1, 5, 7, 8] [[38]]) <|
 .seq (.seq (.reg [⟨some 34, .mov (.t 5), none⟩,
 ⟨some 35, .mov (.t 8), none⟩,
 ⟨some 36, .bin .rem (.t 35) (.c (.v (.int .i64 1000000000))), none⟩,
 ⟨some 37, .lit 1 1 [.v (.int .i64 0)] [(0, (.t 36))] true, none⟩,
 ⟨some 38, .app 1 8 (.t 34) (.t 37) false, none⟩,
 ⟨some 5, .mov (.t 38), none⟩] []) <|
 .keep [0, 1, 5, 7, 8] [[38]]) <|
 .seq (.reg [⟨some 39, .mov (.t 8), none⟩,
 ⟨some 40, .bin .quo (.t 39) (.c (.v (.int .i64 1000000000))), none⟩,
 ⟨some 6, .mov (.t 40), none⟩] []) <|
 .keep [0, 1, 5, 6, 7] [[38]]) <|
 .keep [0, 1, 5, 6, 7] [[38]]) <|
 .seq (.reg [⟨some 23, .mov (.t 7), none⟩,
 ⟨some 24, .bin .add (.t 23) (.c (.v (.int .i64 1))), none⟩,
 ⟨some 7, .mov (.t 24), none⟩] []) <|
 .keep [0, 1, 5, 6, 7] [[38]]) <|
 .keep [0, 1, 5, 6, 7] [[38]]
def gantryref04_plus : CF := ⟨2, .seq (.seq (.reg [⟨some 4, .mov (.c (.z true)), none⟩] []) <|
 .keep [0, 1] []) <|
 .seq (.seq (.reg [⟨some 5, .mov (.c (.z true)), none⟩] []) <|
 .keep [0, 1, 5] [[38]]) <|
 .seq (.seq (.reg [⟨some 6, .mov (.c (.v (.int .i64 0))), none⟩] []) <|
 .keep [0, 1, 5, 6] [[38]]) <|
 .seq (.seq (.seq (.reg [⟨some 7, .mov (.c (.v (.int .i64 0))), none⟩] []) <|
 .keep [0, 1, 5, 6, 7] [[38]]) <|
 .seq (.blk 0 <|
 .seq (.keep [0, 1, 5, 6, 7] [[38]]) <|
 .loop gantryref04_plus_l0) <|
 .keep [5] [[38]]) <|
 .seq (.seq (.reg [⟨some 41, .mov (.t 5), none⟩,
 ⟨some 4, .mov (.t 41), none⟩] []) <|
 .keep [4] [[38]]) <|
 .ret, [.t 4]⟩

def gantryref04_tiny : CF := ⟨1, .seq (.seq (.reg [⟨some 2, .mov (.c (.v (.int .i64 0))), none⟩] []) <|
 .keep [0] []) <|
 .seq (.seq (.reg [⟨some 3, .mov (.t 0), none⟩,
 ⟨some 4, .call n_gantryref04_digit [(.t 3), (.c (.v (.int .i64 1)))] false, none⟩,
 ⟨some 5, .bin .mul (.t 4) (.c (.v (.int .i64 1000000000))), none⟩,
 ⟨some 6, .mov (.t 0), none⟩,
 ⟨some 7, .call n_gantryref04_digit [(.t 6), (.c (.v (.int .i64 0)))] false, none⟩,
 ⟨some 8, .bin .add (.t 5) (.t 7), none⟩,
 ⟨some 2, .mov (.t 8), none⟩] []) <|
 .keep [2] []) <|
 .ret, [.t 2]⟩

def slices_ContainsFunc_int_int : CF := ⟨2, .seq (.seq (.reg [⟨some 4, .mov (.c (.v (.bool false))), none⟩] []) <|
 .keep [0, 1] []) <|
 .seq (.seq (.reg [⟨some 5, .mov (.t 0), none⟩,
 ⟨some 6, .mov (.t 1), none⟩,
 ⟨some 7, .call n_slices_IndexFunc_int_int [(.t 5), (.t 6)] false, none⟩,
 ⟨some 8, .bin .geq (.t 7) (.c (.v (.int .i64 0))), none⟩,
 ⟨some 4, .mov (.t 8), none⟩] []) <|
 .keep [4] []) <|
 .ret, [.t 4]⟩

def integer_Valid_1 : CF := ⟨1, .seq (.seq (.reg [⟨some 2, .mov (.c (.v (.bool false))), none⟩] []) <|
 .keep [0] []) <|
 .seq (.seq (.reg [⟨some 3, .mov (.t 0), none⟩,
 ⟨some 4, .bin .lss (.t 3) (.c (.v (.int .i64 0))), none⟩,
 ⟨some 5, .mov (.t 4), none⟩,
 ⟨some 6, .mov (.t 0), (some (5, false))⟩,
 ⟨some 7, .bin .geq (.t 6) (.c (.v (.int .i64 1000000000))), (some (5, false))⟩,
 ⟨some 8, .pick (.t 5) (.c (.v (.bool true))) (.t 7), none⟩,
 ⟨some 2, .mov (.t 8), none⟩] []) <|
 .keep [2] []) <|
 .ret, [.t 2]⟩

def integer_two : CF := ⟨1, .seq (.seq (.reg [⟨some 2, .mov (.c (.v (.int .i64 0))), none⟩,
 ⟨some 3, .mov (.c (.v (.bool false))), none⟩] []) <|
 .keep [0] []) <|
 .seq (.seq (.seq (.reg [⟨some 4, .mov (.t 0), none⟩,
 ⟨some 5, .len (.t 4), none⟩] []) <|
 .keep [0, 5] []) <|
 .seq (.blk 0 <|
 .seq (.seq (.reg [⟨some 7, .bin .eql (.t 5) (.c (.v (.int .i64 0))), none⟩,
 ⟨some 6, .mov (.t 7), none⟩] []) <|
 .keep [0, 5, 6] []) <|
 .cond (.t 6) (.seq (.seq (.reg [⟨some 2, .mov (.c (.v (.int .i64 0))), none⟩,
 ⟨some 3, .mov (.c (.v (.bool true))), none⟩] []) <|
 .keep [2, 3] []) <|
 .ret) <|
 .seq (.seq (.reg [⟨some 9, .bin .eql (.t 5) (.c (.v (.int .i64 1))), none⟩,
 ⟨some 8, .mov (.t 9), none⟩] []) <|
 .keep [0, 5, 8] []) <|
 .cond (.t 8) (.seq (.seq (.reg [⟨some 10, .mov (.t 0), none⟩,
 ⟨some 11, .ixa 1 (.t 10) (.c (.v (.int .i64 0))), none⟩,
 ⟨some 12, .load none (.t 11), none⟩,
 ⟨some 2, .mov (.t 12), none⟩,
 ⟨some 3, .mov (.c (.v (.bool true))), none⟩] []) <|
 .keep [2, 3] []) <|
 .ret) <|
 .seq (.seq (.reg [⟨some 14, .bin .eql (.t 5) (.c (.v (.int .i64 2))), none⟩,
 ⟨some 13, .mov (.t 14), none⟩] []) <|
 .keep [0, 13] []) <|
 .cond (.t 13) (.seq (.seq (.reg [⟨some 15, .mov (.t 0), none⟩,
 ⟨some 16, .ixa 1 (.t 15) (.c (.v (.int .i64 1))), none⟩,
 ⟨some 17, .load none (.t 16), none⟩,
 ⟨some 18, .bin .mul (.t 17) (.c (.v (.int .i64 1000000000))), none⟩,
 ⟨some 19, .mov (.t 0), none⟩,
 ⟨some 20, .ixa 1 (.t 19) (.c (.v (.int .i64 0))), none⟩,
 ⟨some 21, .load none (.t 20), none⟩,
 ⟨some 22, .bin .add (.t 18) (.t 21), none⟩,
 ⟨some 2, .mov (.t 22), none⟩,
 ⟨some 3, .mov (.c (.v (.bool true))), none⟩] []) <|
 .keep [2, 3] []) <|
 .ret) <|
 .skip) <|
 .keep [] []) <|
 .seq (.seq (.reg [⟨some 2, .mov (.c (.v (.int .i64 0))), none⟩,
 ⟨some 3, .mov (.c (.v (.bool false))), none⟩] []) <|
 .keep [2, 3] []) <|
 .ret, [.t 2, .t 3]⟩

def gantryref05_inverse : CF := ⟨1, .seq (.seq (.reg [⟨some 1, .box (.t 0), none⟩,
 ⟨some 2, .new [.v (.bool false), .z true, .v (.bool false), .z true], none⟩] []) <|
 .keep [1, 2] [[1], [2]]) <|
 .seq (.seq (.reg [⟨some 3, .load (some 4) (.t 1), none⟩,
 ⟨some 4, .call n_gantryref05_Den [(.t 3)] false, none⟩,
 ⟨some 5, .fad 0 (.t 1), none⟩,
 ⟨some 6, .load (some 2) (.t 5), none⟩,
 ⟨some 7, .call n_gantryref05_Make [(.t 4), (.t 6)] false, none⟩,
 ⟨none, .store 4 (.t 2) (.t 7), none⟩] []) <|
 .keep [2] [[2]]) <|
 .ret, [.cell 2 (some 4)]⟩

def integer_compare_l0 : C :=
 .seq (.seq (.seq (.seq (.reg [⟨some 19, .mov (.t 5), none⟩,
 ⟨some 20, .bin .geq (.t 19) (.c (.v (.int .i64 0))), none⟩] []) <|
 .keep [0, 1, 5, 20] []) <|
 .cond (.t 20) (.skip) <|
 .seq (.keep [] []) <|
 .exit 0) <|
 .seq (.seq (.blk 1 <|
 .seq (.seq (.reg [⟨some 23, .mov (.t 0), none⟩,
 ⟨some 24, .mov (.t 5), none⟩,
 ⟨some 25, .ixa 1 (.t 23) (.t 24), none⟩,
 ⟨some 26, .load none (.t 25), none⟩,
 ⟨some 27, .mov (.t 1), none⟩,
 ⟨some 28, .mov (.t 5), none⟩,
 ⟨some 29, .ixa 1 (.t 27) (.t 28), none⟩,
 ⟨some 30, .load none (.t 29), none⟩,
 ⟨some 31, .bin .neq (.t 26) (.t 30), none⟩] []) <|
 .keep [0, 1, 5, 31] []) <|
 .cond (.t 31) (.seq (.seq (.reg [⟨some 32, .mov (.t 0), none⟩,
 ⟨some 33, .mov (.t 5), none⟩,
 ⟨some 34, .ixa 1 (.t 32) (.t 33), none⟩,
 ⟨some 35, .load none (.t 34), none⟩,
 ⟨some 36, .mov (.t 1), none⟩,
 ⟨some 37, .mov (.t 5), none⟩,
 ⟨some 38, .ixa 1 (.t 36) (.t 37), none⟩,
 ⟨some 39, .load none (.t 38), none⟩,
 ⟨some 40, .call n_cmp_Compare_int [(.t 35), (.t 39)] false, none⟩,
 ⟨some 4, .mov (.t 40), none⟩] []) <|
 .keep [4] []) <|
 .ret) <|
 .skip) <|
 .keep [0, 1, 5] []) <|
 .seq (.reg [⟨some 21, .mov (.t 5), none⟩,
 ⟨some 22, .bin .sub (.t 21) (.c (.v (.int .i64 1))), none⟩,
 ⟨some 5, .mov (.t 22), none⟩] []) <|
 .keep [0, 1, 5] []) <|
 .keep [0, 1, 5] []
def integer_compare : CF := ⟨2, .seq (.seq (.reg [⟨some 4, .mov (.c (.v (.int .i64 0))), none⟩] []) <|
 .keep [0, 1] []) <|
 .seq (.seq (.seq (.reg [⟨some 6, .mov (.t 0), none⟩,
 ⟨some 7, .len (.t 6), none⟩,
 ⟨some 8, .mov (.t 1), none⟩,
 ⟨some 9, .len (.t 8), none⟩,
 ⟨some 10, .bin .neq (.t 7) (.t 9), none⟩] []) <|
 .keep [0, 1, 10] []) <|
 .cond (.t 10) (.seq (.seq (.reg [⟨some 11, .mov (.t 0), none⟩,
 ⟨some 12, .len (.t 11), none⟩,
 ⟨some 13, .mov (.t 1), none⟩,
 ⟨some 14, .len (.t 13), none⟩,
 ⟨some 15, .call n_cmp_Compare_int [(.t 12), (.t 14)] false, none⟩,
 ⟨some 4, .mov (.t 15), none⟩] []) <|
 .keep [4] []) <|
 .ret) <|
 .skip) <|
 .seq (.seq (.seq (.reg [⟨some 16, .mov (.t 0), none⟩,
 ⟨some 17, .len (.t 16), none⟩,
 ⟨some 18, .bin .sub (.t 17) (.c (.v (.int .i64 1))), none⟩,
 ⟨some 5, .mov (.t 18), none⟩] []) <|
 .keep [0, 1, 5] []) <|
 .seq (.blk 0 <|
 .seq (.keep [0, 1, 5] []) <|
 .loop integer_compare_l0) <|
 .keep [] []) <|
 .seq (.seq (.reg [⟨some 4, .mov (.c (.v (.int .i64 0))), none⟩] []) <|
 .keep [4] []) <|
 .ret, [.t 4]⟩

def integer_short_l0 : C :=
 .seq (.seq (.seq (.seq (.reg [⟨some 16, .mov (.t 8), none⟩,
 ⟨some 17, .bin .geq (.t 16) (.c (.v (.int .i64 0))), none⟩] []) <|
 .keep [0, 1, 6, 7, 8, 17] [[12]]) <|
 .cond (.t 17) (.skip) <|
 .seq (.keep [6, 7] [[12]]) <|
 .exit 0) <|
 .seq (.seq (.blk 1 <|
 .seq (.seq (.reg [⟨some 20, .mov (.t 7), none⟩,
 ⟨some 21, .bin .mul (.t 20) (.c (.v (.int .i64 1000000000))), none⟩,
 ⟨some 22, .mov (.t 0), none⟩,
 ⟨some 23, .mov (.t 8), none⟩,
 ⟨some 24, .ixa 1 (.t 22) (.t 23), none⟩,
 ⟨some 25, .load none (.t 24), none⟩,
 ⟨some 26, .bin .add (.t 21) (.t 25), none⟩,
 ⟨some 9, .mov (.t 26), none⟩] []) <|
 .keep [0, 1, 6, 8, 9] [[12]]) <|
 .seq (.reg [⟨some 27, .mov (.t 6), none⟩,
 ⟨some 28, .mov (.t 8), none⟩,
 ⟨some 29, .mov (.t 9), none⟩,
 ⟨some 30, .mov (.t 1), none⟩,
 ⟨some 31, .bin .quo (.t 29) (.t 30), none⟩,
 ⟨some 32, .mov (.t 9), none⟩,
 ⟨some 33, .mov (.t 1), none⟩,
 ⟨some 34, .bin .rem (.t 32) (.t 33), none⟩,
 ⟨some 35, .ixa 1 (.t 27) (.t 28), none⟩,
 ⟨none, .store 1 (.t 35) (.t 31), none⟩,
 ⟨some 7, .mov (.t 34), none⟩] []) <|
 .keep [0, 1, 6, 7, 8] [[12]]) <|
 .keep [0, 1, 6, 7, 8] [[12]]) <|
 .seq (.reg [⟨some 18, .mov (.t 8), none⟩,
 ⟨some 19, .bin .sub (.t 18) (.c (.v (.int .i64 1))), none⟩,
 ⟨some 8, .mov (.t 19), none⟩] []) <|
 .keep [0, 1, 6, 7, 8] [[12]]) <|
 .keep [0, 1, 6, 7, 8] [[12]]
def integer_short : CF := ⟨2, .seq (.seq (.reg [⟨some 4, .mov (.c (.z true)), none⟩,
 ⟨some 5, .mov (.c (.v (.int .i64 0))), none⟩] []) <|
 .keep [0, 1] []) <|
 .seq (.seq (.reg [⟨some 10, .mov (.t 0), none⟩,
 ⟨some 11, .len (.t 10), none⟩,
 ⟨some 12, .mksl 1 8 [.v (.int .i64 0)] (.t 11) (.t 11), none⟩,
 ⟨some 6, .mov (.t 12), none⟩] []) <|
 .keep [0, 1, 6] [[12]]) <|
 .seq (.seq (.reg [⟨some 7, .mov (.c (.v (.int .i64 0))), none⟩] []) <|
 .keep [0, 1, 6, 7] [[12]]) <|
 .seq (.seq (.seq (.reg [⟨some 13, .mov (.t 0), none⟩,
 ⟨some 14, .len (.t 13), none⟩,
 ⟨some 15, .bin .sub (.t 14) (.c (.v (.int .i64 1))), none⟩,
 ⟨some 8, .mov (.t 15), none⟩] []) <|
 .keep [0, 1, 6, 7, 8] [[12]]) <|
 .seq (.blk 0 <|
 .seq (.keep [0, 1, 6, 7, 8] [[12]]) <|
 .loop integer_short_l0) <|
 .keep [6, 7] [[12]]) <|
 .seq (.seq (.reg [⟨some 36, .mov (.t 6), none⟩,
 ⟨some 37, .mov (.t 7), none⟩,
 ⟨some 4, .mov (.t 36), none⟩,
 ⟨some 5, .mov (.t 37), none⟩] []) <|
 .keep [4, 5] [[12]]) <|
 .ret, [.t 4, .t 5]⟩

def integer_long_l0 : C :=
 .seq (.seq (.seq (.seq (.reg [⟨some 84, .mov (.t 13), none⟩,
 ⟨some 85, .bin .geq (.t 84) (.c (.v (.int .i64 1000000000))), none⟩,
 ⟨some 86, .mov (.t 85), none⟩,
 ⟨some 87, .mov (.t 13), (some (86, false))⟩,
 ⟨some 88, .mov (.t 8), (some (86, false))⟩,
 ⟨some 89, .mov (.t 9), (some (86, false))⟩,
 ⟨some 90, .bin .sub (.t 89) (.c (.v (.int .i64 2))), (some (86, false))⟩,
 ⟨some 91, .ixa 1 (.t 88) (.t 90), (some (86, false))⟩,
 ⟨some 92, .load none (.t 91), (some (86, false))⟩,
 ⟨some 93, .bin .mul (.t 87) (.t 92), (some (86, false))⟩,
 ⟨some 94, .mov (.t 14), (some (86, false))⟩,
 ⟨some 95, .bin .mul (.t 94) (.c (.v (.int .i64 1000000000))), (some (86, false))⟩,
 ⟨some 96, .mov (.t 7), (some (86, false))⟩,
 ⟨some 97, .mov (.t 11), (some (86, false))⟩,
 ⟨some 98, .mov (.t 9), (some (86, false))⟩,
 ⟨some 99, .bin .add (.t 97) (.t 98), (some (86, false))⟩,
 ⟨some 100, .bin .sub (.t 99) (.c (.v (.int .i64 2))), (some (86, false))⟩,
 ⟨some 101, .ixa 1 (.t 96) (.t 100), (some (86, false))⟩,
 ⟨some 102, .load none (.t 101), (some (86, false))⟩,
 ⟨some 103, .bin .add (.t 95) (.t 102), (some (86, false))⟩,
 ⟨some 104, .bin .gtr (.t 93) (.t 103), (some (86, false))⟩,
 ⟨some 105, .pick (.t 86) (.c (.v (.bool true))) (.t 104), none⟩] []) <|
 .keep [6, 7, 8, 9, 10, 11, 13, 14, 105] [[32], [46]]) <|
 .cond (.t 105) (.skip) <|
 .seq (.keep [6, 7, 8, 9, 10, 11, 13] [[32], [46]]) <|
 .exit 2) <|
 .seq (.blk 3 <|
 .seq (.seq (.reg [⟨some 106, .mov (.t 13), none⟩,
 ⟨some 107, .bin .sub (.t 106) (.c (.v (.int .i64 1))), none⟩,
 ⟨some 13, .mov (.t 107), none⟩] []) <|
 .keep [6, 7, 8, 9, 10, 11, 13, 14] [[32], [46]]) <|
 .seq (.seq (.reg [⟨some 108, .mov (.t 14), none⟩,
 ⟨some 109, .mov (.t 8), none⟩,
 ⟨some 110, .mov (.t 9), none⟩,
 ⟨some 111, .bin .sub (.t 110) (.c (.v (.int .i64 1))), none⟩,
 ⟨some 112, .ixa 1 (.t 109) (.t 111), none⟩,
 ⟨some 113, .load none (.t 112), none⟩,
 ⟨some 114, .bin .add (.t 108) (.t 113), none⟩,
 ⟨some 14, .mov (.t 114), none⟩] []) <|
 .keep [6, 7, 8, 9, 10, 11, 13, 14] [[32], [46]]) <|
 .seq (.seq (.reg [⟨some 115, .mov (.t 14), none⟩,
 ⟨some 116, .bin .geq (.t 115) (.c (.v (.int .i64 1000000000))), none⟩] []) <|
 .keep [6, 7, 8, 9, 10, 11, 13, 14, 116] [[32], [46]]) <|
 .cond (.t 116) (.seq (.keep [6, 7, 8, 9, 10, 11, 13] [[32], [46]]) <|
 .exit 2) <|
 .skip) <|
 .keep [6, 7, 8, 9, 10, 11, 13, 14] [[32], [46]]) <|
 .keep [6, 7, 8, 9, 10, 11, 13, 14] [[32], [46]]
def integer_long_l1 : C :=
 .seq (.seq (.seq (.reg [⟨some 119, .bin .lss (.t 118) (.t 117), none⟩] []) <|
 .keep [6, 7, 8, 9, 10, 11, 13, 15, 117, 118, 119] [[32], [46]]) <|
 .seq (.cond (.t 119) (.skip) <|
 .seq (.keep [6, 7, 8, 9, 10, 11, 13, 15] [[32], [46]]) <|
 .exit 4) <|
 .seq (.seq (.blk 5 <|
 .seq (.seq (.reg [⟨some 120, .mov (.t 118), none⟩,
 ⟨some 16, .mov (.t 120), none⟩] []) <|
 .keep [6, 7, 8, 9, 10, 11, 13, 15, 16, 117, 118] [[32], [46]]) <|
 .seq (.seq (.reg [⟨some 121, .mov (.t 7), none⟩,
 ⟨some 122, .mov (.t 16), none⟩,
 ⟨some 123, .mov (.t 11), none⟩,
 ⟨some 124, .bin .add (.t 122) (.t 123), none⟩,
 ⟨some 125, .ixa 1 (.t 121) (.t 124), none⟩,
 ⟨some 126, .load none (.t 125), none⟩,
 ⟨some 127, .mov (.t 13), none⟩,
 ⟨some 128, .mov (.t 8), none⟩,
 ⟨some 129, .mov (.t 16), none⟩,
 ⟨some 130, .ixa 1 (.t 128) (.t 129), none⟩,
 ⟨some 131, .load none (.t 130), none⟩,
 ⟨some 132, .bin .mul (.t 127) (.t 131), none⟩,
 ⟨some 133, .bin .sub (.t 126) (.t 132), none⟩,
 ⟨some 134, .mov (.t 15), none⟩,
 ⟨some 135, .bin .sub (.t 133) (.t 134), none⟩,
 ⟨some 17, .mov (.t 135), none⟩] []) <|
 .keep [6, 7, 8, 9, 10, 11, 13, 16, 17, 117, 118] [[32], [46]]) <|
 .seq (.seq (.reg [⟨some 15, .mov (.c (.v (.int .i64 0))), none⟩] []) <|
 .keep [6, 7, 8, 9, 10, 11, 13, 15, 16, 17, 117, 118] [[32], [46]]) <|
 .seq (.seq (.seq (.reg [⟨some 136, .mov (.t 17), none⟩,
 ⟨some 137, .bin .lss (.t 136) (.c (.v (.int .i64 0))), none⟩] []) <|
 .keep [6, 7, 8, 9, 10, 11, 13, 15, 16, 17, 117, 118, 137] [[32], [46]]) <|
 .cond (.t 137) (.seq (.seq (.reg [⟨some 138, .mov (.t 17), none⟩,
 ⟨some 139, .un .neg (.t 138), none⟩,
 ⟨some 140, .bin .add (.t 139) (.c (.v (.int .i64 1000000000))), none⟩,
 ⟨some 141, .bin .sub (.t 140) (.c (.v (.int .i64 1))), none⟩,
 ⟨some 142, .bin .quo (.t 141) (.c (.v (.int .i64 1000000000))), none⟩,
 ⟨some 15, .mov (.t 142), none⟩] []) <|
 .keep [6, 7, 8, 9, 10, 11, 13, 15, 16, 17, 117, 118] [[32], [46]]) <|
 .seq (.reg [⟨some 143, .mov (.t 17), none⟩,
 ⟨some 144, .mov (.t 15), none⟩,
 ⟨some 145, .bin .mul (.t 144) (.c (.v (.int .i64 1000000000))), none⟩,
 ⟨some 146, .bin .add (.t 143) (.t 145), none⟩,
 ⟨some 17, .mov (.t 146), none⟩] []) <|
 .keep [6, 7, 8, 9, 10, 11, 13, 15, 16, 17, 117, 118] [[32], [46]]) <|
 .skip) <|
 .seq (.reg [⟨some 147, .mov (.t 7), none⟩,
 ⟨some 148, .mov (.t 16), none⟩,
 ⟨some 149, .mov (.t 11), none⟩,
 ⟨some 150, .bin .add (.t 148) (.t 149), none⟩,
 ⟨some 151, .mov (.t 17), none⟩,
 ⟨some 152, .ixa 1 (.t 147) (.t 150), none⟩,
 ⟨none, .store 1 (.t 152) (.t 151), none⟩] []) <|
 .keep [6, 7, 8, 9, 10, 11, 13, 15, 117, 118] [[32], [46]]) <|
 .keep [6, 7, 8, 9, 10, 11, 13, 15, 117, 118] [[32], [46]]) <|
 .seq (.reg [⟨some 153, .bin .add (.t 118) (.c (.v (.int .i64 1))), none⟩,
 ⟨some 118, .mov (.t 153), none⟩] []) <|
 .keep [6, 7, 8, 9, 10, 11, 13, 15, 117, 118] [[32], [46]]) <|
 .keep [6, 7, 8, 9, 10, 11, 13, 15, 117, 118] [[32], [46]]
def integer_long_l2 : C :=
 .seq (.seq (.seq (.reg [⟨some 174, .bin .lss (.t 173) (.t 172), none⟩] []) <|
 .keep [6, 7, 8, 9, 10, 11, 13, 15, 172, 173, 174] [[32], [46]]) <|
 .seq (.cond (.t 174) (.skip) <|
 .seq (.keep [6, 7, 8, 9, 10, 11, 13, 15] [[32], [46]]) <|
 .exit 6) <|
 .seq (.seq (.blk 7 <|
 .seq (.seq (.reg [⟨some 175, .mov (.t 173), none⟩,
 ⟨some 18, .mov (.t 175), none⟩] []) <|
 .keep [6, 7, 8, 9, 10, 11, 13, 15, 18, 172, 173] [[32], [46]]) <|
 .seq (.seq (.reg [⟨some 176, .mov (.t 7), none⟩,
 ⟨some 177, .mov (.t 18), none⟩,
 ⟨some 178, .mov (.t 11), none⟩,
 ⟨some 179, .bin .add (.t 177) (.t 178), none⟩,
 ⟨some 180, .ixa 1 (.t 176) (.t 179), none⟩,
 ⟨some 181, .load none (.t 180), none⟩,
 ⟨some 182, .mov (.t 8), none⟩,
 ⟨some 183, .mov (.t 18), none⟩,
 ⟨some 184, .ixa 1 (.t 182) (.t 183), none⟩,
 ⟨some 185, .load none (.t 184), none⟩,
 ⟨some 186, .bin .add (.t 181) (.t 185), none⟩,
 ⟨some 187, .mov (.t 15), none⟩,
 ⟨some 188, .bin .add (.t 186) (.t 187), none⟩,
 ⟨some 19, .mov (.t 188), none⟩] []) <|
 .keep [6, 7, 8, 9, 10, 11, 13, 18, 19, 172, 173] [[32], [46]]) <|
 .seq (.reg [⟨some 189, .mov (.t 7), none⟩,
 ⟨some 190, .mov (.t 18), none⟩,
 ⟨some 191, .mov (.t 11), none⟩,
 ⟨some 192, .bin .add (.t 190) (.t 191), none⟩,
 ⟨some 193, .mov (.t 19), none⟩,
 ⟨some 194, .bin .rem (.t 193) (.c (.v (.int .i64 1000000000))), none⟩,
 ⟨some 195, .mov (.t 19), none⟩,
 ⟨some 196, .bin .quo (.t 195) (.c (.v (.int .i64 1000000000))), none⟩,
 ⟨some 197, .ixa 1 (.t 189) (.t 192), none⟩,
 ⟨none, .store 1 (.t 197) (.t 194), none⟩,
 ⟨some 15, .mov (.t 196), none⟩] []) <|
 .keep [6, 7, 8, 9, 10, 11, 13, 15, 172, 173] [[32], [46]]) <|
 .keep [6, 7, 8, 9, 10, 11, 13, 15, 172, 173] [[32], [46]]) <|
 .seq (.reg [⟨some 198, .bin .add (.t 173) (.c (.v (.int .i64 1))), none⟩,
 ⟨some 173, .mov (.t 198), none⟩] []) <|
 .keep [6, 7, 8, 9, 10, 11, 13, 15, 172, 173] [[32], [46]]) <|
 .keep [6, 7, 8, 9, 10, 11, 13, 15, 172, 173] [[32], [46]]
def integer_long_l3 : C :=
 .seq (.seq (.seq (.seq (.reg [⟨some 51, .mov (.t 11), none⟩,
 ⟨some 52, .bin .geq (.t 51) (.c (.v (.int .i64 0))), none⟩] []) <|
 .keep [6, 7, 8, 9, 10, 11, 52] [[32], [46]]) <|
 .cond (.t 52) (.skip) <|
 .seq (.keep [6, 7, 9, 10] [[32], [46]]) <|
 .exit 0) <|
 .seq (.seq (.blk 1 <|
 .seq (.seq (.reg [⟨some 55, .mov (.t 7), none⟩,
 ⟨some 56, .mov (.t 11), none⟩,
 ⟨some 57, .mov (.t 9), none⟩,
 ⟨some 58, .bin .add (.t 56) (.t 57), none⟩,
 ⟨some 59, .ixa 1 (.t 55) (.t 58), none⟩,
 ⟨some 60, .load none (.t 59), none⟩,
 ⟨some 61, .bin .mul (.t 60) (.c (.v (.int .i64 1000000000))), none⟩,
 ⟨some 62, .mov (.t 7), none⟩,
 ⟨some 63, .mov (.t 11), none⟩,
 ⟨some 64, .mov (.t 9), none⟩,
 ⟨some 65, .bin .add (.t 63) (.t 64), none⟩,
 ⟨some 66, .bin .sub (.t 65) (.c (.v (.int .i64 1))), none⟩,
 ⟨some 67, .ixa 1 (.t 62) (.t 66), none⟩,
 ⟨some 68, .load none (.t 67), none⟩,
 ⟨some 69, .bin .add (.t 61) (.t 68), none⟩,
 ⟨some 12, .mov (.t 69), none⟩] []) <|
 .keep [6, 7, 8, 9, 10, 11, 12] [[32], [46]]) <|
 .seq (.seq (.reg [⟨some 70, .mov (.t 12), none⟩,
 ⟨some 71, .mov (.t 8), none⟩,
 ⟨some 72, .mov (.t 9), none⟩,
 ⟨some 73, .bin .sub (.t 72) (.c (.v (.int .i64 1))), none⟩,
 ⟨some 74, .ixa 1 (.t 71) (.t 73), none⟩,
 ⟨some 75, .load none (.t 74), none⟩,
 ⟨some 76, .bin .quo (.t 70) (.t 75), none⟩,
 ⟨some 77, .mov (.t 12), none⟩,
 ⟨some 78, .mov (.t 8), none⟩,
 ⟨some 79, .mov (.t 9), none⟩,
 ⟨some 80, .bin .sub (.t 79) (.c (.v (.int .i64 1))), none⟩,
 ⟨some 81, .ixa 1 (.t 78) (.t 80), none⟩,
 ⟨some 82, .load none (.t 81), none⟩,
 ⟨some 83, .bin .rem (.t 77) (.t 82), none⟩,
 ⟨some 13, .mov (.t 76), none⟩,
 ⟨some 14, .mov (.t 83), none⟩] []) <|
 .keep [6, 7, 8, 9, 10, 11, 13, 14] [[32], [46]]) <|
 .seq (.skip) <|
 .seq (.seq (.blk 2 <|
 .seq (.keep [6, 7, 8, 9, 10, 11, 13, 14] [[32], [46]]) <|
 .loop integer_long_l0) <|
 .keep [6, 7, 8, 9, 10, 11, 13] [[32], [46]]) <|
 .seq (.seq (.reg [⟨some 15, .mov (.c (.v (.int .i64 0))), none⟩] []) <|
 .keep [6, 7, 8, 9, 10, 11, 13, 15] [[32], [46]]) <|
 .seq (.seq (.seq (.reg [⟨some 117, .mov (.t 9), none⟩,
 ⟨some 118, .mov (.c (.v (.int .i64 0))), none⟩] []) <|
 .keep [6, 7, 8, 9, 10, 11, 13, 15, 117, 118] [[32], [46]]) <|
 .seq (.blk 4 <|
 .seq (.keep [6, 7, 8, 9, 10, 11, 13, 15, 117, 118] [[32], [46]]) <|
 .loop integer_long_l1) <|
 .keep [6, 7, 8, 9, 10, 11, 13, 15] [[32], [46]]) <|
 .seq (.seq (.seq (.reg [⟨some 154, .mov (.t 7), none⟩,
 ⟨some 155, .mov (.t 11), none⟩,
 ⟨some 156, .mov (.t 9), none⟩,
 ⟨some 157, .bin .add (.t 155) (.t 156), none⟩,
 ⟨some 158, .ixa 1 (.t 154) (.t 157), none⟩,
 ⟨some 159, .load none (.t 158), none⟩,
 ⟨some 160, .mov (.t 15), none⟩,
 ⟨some 161, .bin .sub (.t 159) (.t 160), none⟩,
 ⟨some 162, .ixa 1 (.t 154) (.t 157), none⟩,
 ⟨none, .store 1 (.t 162) (.t 161), none⟩] []) <|
 .keep [6, 7, 8, 9, 10, 11, 13] [[32], [46]]) <|
 .seq (.seq (.reg [⟨some 163, .mov (.t 7), none⟩,
 ⟨some 164, .mov (.t 11), none⟩,
 ⟨some 165, .mov (.t 9), none⟩,
 ⟨some 166, .bin .add (.t 164) (.t 165), none⟩,
 ⟨some 167, .ixa 1 (.t 163) (.t 166), none⟩,
 ⟨some 168, .load none (.t 167), none⟩,
 ⟨some 169, .bin .lss (.t 168) (.c (.v (.int .i64 0))), none⟩] []) <|
 .keep [6, 7, 8, 9, 10, 11, 13, 169] [[32], [46]]) <|
 .cond (.t 169) (.seq (.seq (.reg [⟨some 170, .mov (.t 13), none⟩,
 ⟨some 171, .bin .sub (.t 170) (.c (.v (.int .i64 1))), none⟩,
 ⟨some 13, .mov (.t 171), none⟩] []) <|
 .keep [6, 7, 8, 9, 10, 11, 13] [[32], [46]]) <|
 .seq (.seq (.reg [⟨some 15, .mov (.c (.v (.int .i64 0))), none⟩] []) <|
 .keep [6, 7, 8, 9, 10, 11, 13, 15] [[32], [46]]) <|
 .seq (.seq (.seq (.reg [⟨some 172, .mov (.t 9), none⟩,
 ⟨some 173, .mov (.c (.v (.int .i64 0))), none⟩] []) <|
 .keep [6, 7, 8, 9, 10, 11, 13, 15, 172, 173] [[32], [46]]) <|
 .seq (.blk 6 <|
 .seq (.keep [6, 7, 8, 9, 10, 11, 13, 15, 172, 173] [[32], [46]]) <|
 .loop integer_long_l2) <|
 .keep [6, 7, 8, 9, 10, 11, 13, 15] [[32], [46]]) <|
 .seq (.reg [⟨some 199, .mov (.t 7), none⟩,
 ⟨some 200, .mov (.t 11), none⟩,
 ⟨some 201, .mov (.t 9), none⟩,
 ⟨some 202, .bin .add (.t 200) (.t 201), none⟩,
 ⟨some 203, .ixa 1 (.t 199) (.t 202), none⟩,
 ⟨some 204, .load none (.t 203), none⟩,
 ⟨some 205, .mov (.t 15), none⟩,
 ⟨some 206, .bin .add (.t 204) (.t 205), none⟩,
 ⟨some 207, .ixa 1 (.t 199) (.t 202), none⟩,
 ⟨none, .store 1 (.t 207) (.t 206), none⟩] []) <|
 .keep [6, 7, 8, 9, 10, 11, 13] [[32], [46]]) <|
 .skip) <|
 .seq (.reg [⟨some 208, .mov (.t 10), none⟩,
 ⟨some 209, .mov (.t 11), none⟩,
 ⟨some 210, .mov (.t 13), none⟩,
 ⟨some 211, .ixa 1 (.t 208) (.t 209), none⟩,
 ⟨none, .store 1 (.t 211) (.t 210), none⟩] []) <|
 .keep [6, 7, 8, 9, 10, 11] [[32], [46]]) <|
 .keep [6, 7, 8, 9, 10, 11] [[32], [46]]) <|
 .seq (.reg [⟨some 53, .mov (.t 11), none⟩,
 ⟨some 54, .bin .sub (.t 53) (.c (.v (.int .i64 1))), none⟩,
 ⟨some 11, .mov (.t 54), none⟩] []) <|
 .keep [6, 7, 8, 9, 10, 11] [[32], [46]]) <|
 .keep [6, 7, 8, 9, 10, 11] [[32], [46]]
def integer_long : CF := ⟨2, .seq (.seq (.reg [⟨some 4, .mov (.c (.z true)), none⟩,
 ⟨some 5, .mov (.c (.z true)), none⟩] []) <|
 .keep [0, 1] []) <|
 .seq (.seq (.reg [⟨some 22, .mov (.t 1), none⟩,
 ⟨some 23, .mov (.t 1), none⟩,
 ⟨some 24, .len (.t 23), none⟩,
 ⟨some 25, .bin .sub (.t 24) (.c (.v (.int .i64 1))), none⟩,
 ⟨some 26, .ixa 1 (.t 22) (.t 25), none⟩,
 ⟨some 27, .load none (.t 26), none⟩,
 ⟨some 28, .bin .add (.t 27) (.c (.v (.int .i64 1))), none⟩,
 ⟨some 29, .bin .quo (.c (.v (.int .i64 1000000000))) (.t 28), none⟩,
 ⟨some 6, .mov (.t 29), none⟩] []) <|
 .keep [0, 1, 6] []) <|
 .seq (.seq (.reg [⟨some 30, .mov (.t 0), none⟩,
 ⟨some 31, .mov (.t 6), none⟩,
 ⟨some 32, .call n_integer_scaled [(.t 30), (.t 31)] true, none⟩,
 ⟨some 33, .mov (.t 1), none⟩,
 ⟨some 34, .mov (.t 6), none⟩,
 ⟨some 35, .call n_integer_scaled [(.t 33), (.t 34)] false, none⟩,
 ⟨some 36, .mov (.t 1), none⟩,
 ⟨some 37, .len (.t 36), none⟩,
 ⟨some 38, .slc 1 (.t 35) none (some (.t 37)) none, none⟩,
 ⟨some 7, .mov (.t 32), none⟩,
 ⟨some 8, .mov (.t 38), none⟩] []) <|
 .keep [0, 1, 6, 7, 8] [[32]]) <|
 .seq (.seq (.reg [⟨some 39, .mov (.t 1), none⟩,
 ⟨some 40, .len (.t 39), none⟩,
 ⟨some 9, .mov (.t 40), none⟩] []) <|
 .keep [0, 6, 7, 8, 9] [[32]]) <|
 .seq (.seq (.reg [⟨some 41, .mov (.t 0), none⟩,
 ⟨some 42, .len (.t 41), none⟩,
 ⟨some 43, .mov (.t 9), none⟩,
 ⟨some 44, .bin .sub (.t 42) (.t 43), none⟩,
 ⟨some 45, .bin .add (.t 44) (.c (.v (.int .i64 1))), none⟩,
 ⟨some 46, .mksl 1 8 [.v (.int .i64 0)] (.t 45) (.t 45), none⟩,
 ⟨some 10, .mov (.t 46), none⟩] []) <|
 .keep [0, 6, 7, 8, 9, 10] [[32], [46]]) <|
 .seq (.seq (.seq (.reg [⟨some 47, .mov (.t 0), none⟩,
 ⟨some 48, .len (.t 47), none⟩,
 ⟨some 49, .mov (.t 9), none⟩,
 ⟨some 50, .bin .sub (.t 48) (.t 49), none⟩,
 ⟨some 11, .mov (.t 50), none⟩] []) <|
 .keep [6, 7, 8, 9, 10, 11] [[32], [46]]) <|
 .seq (.blk 0 <|
 .seq (.keep [6, 7, 8, 9, 10, 11] [[32], [46]]) <|
 .loop integer_long_l3) <|
 .keep [6, 7, 9, 10] [[32], [46]]) <|
 .seq (.seq (.frz 7) <|
 .seq (.reg [⟨some 213, .mov (.t 7), none⟩,
 ⟨some 214, .mov (.t 9), none⟩,
 ⟨some 215, .slc 1 (.t 213) none (some (.t 214)) none, none⟩,
 ⟨some 216, .mov (.t 6), none⟩,
 ⟨some 217, .call n_integer_short [(.t 215), (.t 216)] false, none⟩,
 ⟨some 212, .mov (.t 217), none⟩,
 ⟨some 218, .ext (.t 212) 0, none⟩,
 ⟨some 219, .ext (.t 212) 1, none⟩,
 ⟨some 20, .mov (.t 218), none⟩,
 ⟨some 21, .mov (.t 219), none⟩] []) <|
 .keep [10, 20] [[46]]) <|
 .seq (.seq (.reg [⟨some 220, .mov (.t 10), none⟩,
 ⟨some 221, .mov (.t 20), none⟩,
 ⟨some 4, .mov (.t 220), none⟩,
 ⟨some 5, .mov (.t 221), none⟩] []) <|
 .keep [4, 5] [[46]]) <|
 .ret, [.t 4, .t 5]⟩

def gantryref04_times : CF := ⟨2, .seq (.seq (.reg [⟨some 4, .mov (.c (.z true)), none⟩] []) <|
 .keep [0, 1] []) <|
 .seq (.seq (.reg [⟨some 6, .mov (.t 0), none⟩,
 ⟨some 7, .call n_gantryref04_normal [(.c (.v (.bool false))), (.t 6)] false, none⟩,
 ⟨some 8, .mov (.t 1), none⟩,
 ⟨some 9, .call n_gantryref04_Of [(.t 8)] false, none⟩,
 ⟨some 10, .call n_gantryref04_Mul [(.t 7), (.t 9)] false, none⟩,
 ⟨some 5, .new [.v (.bool false), .z true], none⟩,
 ⟨none, .store 2 (.t 5) (.t 10), none⟩] []) <|
 .keep [5] [[5]]) <|
 .seq (.seq (.reg [⟨some 11, .fad 1 (.t 5), none⟩,
 ⟨some 12, .load none (.t 11), none⟩,
 ⟨some 4, .mov (.t 12), none⟩] []) <|
 .keep [4] []) <|
 .ret, [.t 4]⟩

def gantryref04_digit : CF := ⟨2, .seq (.seq (.reg [⟨some 4, .mov (.c (.v (.int .i64 0))), none⟩] []) <|
 .keep [0, 1] []) <|
 .seq (.seq (.seq (.reg [⟨some 5, .mov (.t 1), none⟩,
 ⟨some 6, .mov (.t 0), none⟩,
 ⟨some 7, .len (.t 6), none⟩,
 ⟨some 8, .bin .lss (.t 5) (.t 7), none⟩] []) <|
 .keep [0, 1, 8] []) <|
 .cond (.t 8) (.seq (.seq (.reg [⟨some 9, .mov (.t 0), none⟩,
 ⟨some 10, .mov (.t 1), none⟩,
 ⟨some 11, .ixa 1 (.t 9) (.t 10), none⟩,
 ⟨some 12, .load none (.t 11), none⟩,
 ⟨some 4, .mov (.t 12), none⟩] []) <|
 .keep [4] []) <|
 .ret) <|
 .skip) <|
 .seq (.seq (.reg [⟨some 4, .mov (.c (.v (.int .i64 0))), none⟩] []) <|
 .keep [4] []) <|
 .ret, [.t 4]⟩

def strings_HasPrefix : CF := ⟨2, .seq (.seq (.reg [⟨some 4, .mov (.c (.v (.bool false))), none⟩] []) <|
 .keep [0, 1] []) <|
 .seq (.seq (.reg [⟨some 5, .mov (.t 0), none⟩,
 ⟨some 6, .mov (.t 1), none⟩,
 ⟨some 7, .call n_internal_stringslite_HasPrefix [(.t 5), (.t 6)] false, none⟩,
 ⟨some 4, .mov (.t 7), none⟩] []) <|
 .keep [4] []) <|
 .ret, [.t 4]⟩

def internal_stringslite_CutPrefix : CF := ⟨2, .seq (.seq (.reg [⟨some 4, .mov (.c (.v (.string ⟨#[]⟩))), none⟩,
 ⟨some 5, .mov (.c (.v (.bool false))), none⟩] []) <|
 .keep [0, 1] []) <|
 .seq (.seq (.seq (.reg [⟨some 6, .mov (.t 0), none⟩,
 ⟨some 7, .mov (.t 1), none⟩,
 ⟨some 8, .call n_internal_stringslite_HasPrefix [(.t 6), (.t 7)] false, none⟩,
 ⟨some 9, .un .not (.t 8), none⟩] []) <|
 .keep [0, 1, 9] []) <|
 .cond (.t 9) (.seq (.seq (.reg [⟨some 10, .mov (.t 0), none⟩,
 ⟨some 4, .mov (.t 10), none⟩,
 ⟨some 5, .mov (.c (.v (.bool false))), none⟩] []) <|
 .keep [4, 5] []) <|
 .ret) <|
 .skip) <|
 .seq (.seq (.reg [⟨some 11, .mov (.t 0), none⟩,
 ⟨some 12, .mov (.t 1), none⟩,
 ⟨some 13, .lns (.t 12), none⟩,
 ⟨some 14, .sls (.t 11) (some (.t 13)) none, none⟩,
 ⟨some 4, .mov (.t 14), none⟩,
 ⟨some 5, .mov (.c (.v (.bool true))), none⟩] []) <|
 .keep [4, 5] []) <|
 .ret, [.t 4, .t 5]⟩

def wire_Int_l0 : C :=
 .seq (.seq (.seq (.seq (.reg [⟨some 14, .mov (.t 5), none⟩,
 ⟨some 15, .bin .gtr (.t 14) (.c (.v (.int .i64 0))), none⟩] []) <|
 .keep [3, 4, 5, 15] []) <|
 .cond (.t 15) (.skip) <|
 .seq (.keep [3, 4, 5] []) <|
 .exit 0) <|
 .seq (.blk 1 <|
 .seq (.seq (.seq (.reg [⟨some 16, .mov (.t 3), none⟩,
 ⟨some 17, .mov (.t 5), none⟩,
 ⟨some 18, .bin .sub (.t 17) (.c (.v (.int .i64 1))), none⟩,
 ⟨some 19, .bin .mul (.c (.v (.int .i64 8))) (.t 18), none⟩,
 ⟨some 20, .bin .shr (.t 16) (.t 19), none⟩,
 ⟨some 21, .bin .gtr (.t 20) (.c (.v (.int .u64 0))), none⟩] []) <|
 .keep [3, 4, 5, 21] []) <|
 .cond (.t 21) (.seq (.keep [3, 4, 5] []) <|
 .exit 0) <|
 .skip) <|
 .seq (.reg [⟨some 22, .mov (.t 5), none⟩,
 ⟨some 23, .bin .sub (.t 22) (.c (.v (.int .i64 1))), none⟩,
 ⟨some 5, .mov (.t 23), none⟩] []) <|
 .keep [3, 4, 5] []) <|
 .keep [3, 4, 5] []) <|
 .keep [3, 4, 5] []
def wire_Int_l1 : C :=
 .seq (.seq (.seq (.seq (.reg [⟨some 32, .mov (.t 7), none⟩,
 ⟨some 33, .bin .geq (.t 32) (.c (.v (.int .i64 0))), none⟩] []) <|
 .keep [3, 4, 6, 7, 33] [[29], [45]]) <|
 .cond (.t 33) (.skip) <|
 .seq (.keep [6] [[29], [45]]) <|
 .exit 2) <|
 .seq (.seq (.blk 3 <|
 .seq (.reg [⟨some 36, .mov (.t 6), none⟩,
 ⟨some 37, .mov (.t 3), none⟩,
 ⟨some 38, .mov (.t 7), none⟩,
 ⟨some 39, .bin .mul (.c (.v (.int .i64 8))) (.t 38), none⟩,
 ⟨some 40, .bin .shr (.t 37) (.t 39), none⟩,
 ⟨some 41, .conv (.int .u8) (.t 40), none⟩,
 ⟨some 42, .mov (.t 4), none⟩,
 ⟨some 43, .bin .xor (.t 41) (.t 42), none⟩,
 ⟨some 44, .lit 1 1 [.v (.int .u8 0)] [(0, (.t 43))] true, none⟩,
 ⟨some 45, .app 1 1 (.t 36) (.t 44) false, none⟩,
 ⟨some 6, .mov (.t 45), none⟩] []) <|
 .keep [3, 4, 6, 7] [[29], [45]]) <|
 .keep [3, 4, 6, 7] [[29], [45]]) <|
 .seq (.reg [⟨some 34, .mov (.t 7), none⟩,
 ⟨some 35, .bin .sub (.t 34) (.c (.v (.int .i64 1))), none⟩,
 ⟨some 7, .mov (.t 35), none⟩] []) <|
 .keep [3, 4, 6, 7] [[29], [45]]) <|
 .keep [3, 4, 6, 7] [[29], [45]]
def wire_Int : CF := ⟨1, .seq (.seq (.reg [⟨some 2, .mov (.c (.z true)), none⟩] []) <|
 .keep [0] []) <|
 .seq (.seq (.reg [⟨some 8, .mov (.t 0), none⟩,
 ⟨some 9, .conv (.int .u64) (.t 8), none⟩,
 ⟨some 3, .mov (.t 9), none⟩,
 ⟨some 4, .mov (.c (.v (.int .u8 0))), none⟩] []) <|
 .keep [0, 3, 4] []) <|
 .seq (.seq (.seq (.reg [⟨some 10, .mov (.t 0), none⟩,
 ⟨some 11, .bin .lss (.t 10) (.c (.v (.int .i64 0))), none⟩] []) <|
 .keep [3, 4, 11] []) <|
 .cond (.t 11) (.seq (.reg [⟨some 12, .mov (.t 3), none⟩,
 ⟨some 13, .un .xor (.t 12), none⟩,
 ⟨some 3, .mov (.t 13), none⟩,
 ⟨some 4, .mov (.c (.v (.int .u8 255))), none⟩] []) <|
 .keep [3, 4] []) <|
 .skip) <|
 .seq (.seq (.reg [⟨some 5, .mov (.c (.v (.int .i64 8))), none⟩] []) <|
 .keep [3, 4, 5] []) <|
 .seq (.skip) <|
 .seq (.seq (.blk 0 <|
 .seq (.keep [3, 4, 5] []) <|
 .loop wire_Int_l0) <|
 .keep [3, 4, 5] []) <|
 .seq (.seq (.reg [⟨some 24, .mov (.t 5), none⟩,
 ⟨some 25, .bin .add (.c (.v (.int .i64 128))) (.t 24), none⟩,
 ⟨some 26, .conv (.int .u8) (.t 25), none⟩,
 ⟨some 27, .mov (.t 4), none⟩,
 ⟨some 28, .bin .xor (.t 26) (.t 27), none⟩,
 ⟨some 29, .lit 1 1 [.v (.int .u8 0)] [(0, (.t 28))] false, none⟩,
 ⟨some 6, .mov (.t 29), none⟩] []) <|
 .keep [3, 4, 5, 6] [[29], [45]]) <|
 .seq (.seq (.seq (.reg [⟨some 30, .mov (.t 5), none⟩,
 ⟨some 31, .bin .sub (.t 30) (.c (.v (.int .i64 1))), none⟩,
 ⟨some 7, .mov (.t 31), none⟩] []) <|
 .keep [3, 4, 6, 7] [[29], [45]]) <|
 .seq (.blk 2 <|
 .seq (.keep [3, 4, 6, 7] [[29], [45]]) <|
 .loop wire_Int_l1) <|
 .keep [6] [[29], [45]]) <|
 .seq (.seq (.reg [⟨some 46, .mov (.t 6), none⟩,
 ⟨some 2, .mov (.t 46), none⟩] []) <|
 .keep [2] [[29], [45]]) <|
 .ret, [.t 2]⟩

def wire_count : CF := ⟨2, .seq (.seq (.reg [⟨some 4, .mov (.c (.v (.int .i64 0))), none⟩,
 ⟨some 5, .mov (.c (.v (.int .i64 0))), none⟩,
 ⟨some 6, .mov (.c (.v (.int .i64 0))), none⟩] []) <|
 .keep [0, 1] []) <|
 .seq (.seq (.reg [⟨some 8, .mov (.t 0), none⟩,
 ⟨some 9, .call n_wire_GetInt [(.t 8)] false, none⟩,
 ⟨some 7, .mov (.t 9), none⟩,
 ⟨some 10, .ext (.t 7) 0, none⟩,
 ⟨some 11, .ext (.t 7) 1, none⟩,
 ⟨some 12, .ext (.t 7) 2, none⟩,
 ⟨some 4, .mov (.t 10), none⟩,
 ⟨some 5, .mov (.t 11), none⟩,
 ⟨some 6, .mov (.t 12), none⟩] []) <|
 .keep [0, 1, 4, 5, 6] []) <|
 .seq (.seq (.blk 0 <|
 .seq (.seq (.reg [⟨some 14, .mov (.t 6), none⟩,
 ⟨some 15, .bin .neq (.t 14) (.c (.v (.int .i64 0))), none⟩,
 ⟨some 13, .mov (.t 15), none⟩] []) <|
 .keep [0, 1, 4, 5, 6, 13] []) <|
 .cond (.t 13) (.skip) <|
 .seq (.seq (.reg [⟨some 17, .mov (.t 4), none⟩,
 ⟨some 18, .bin .lss (.t 17) (.c (.v (.int .i64 0))), none⟩,
 ⟨some 16, .mov (.t 18), none⟩] []) <|
 .keep [0, 1, 4, 5, 6, 16] []) <|
 .cond (.t 16) (.seq (.reg [⟨some 6, .mov (.c (.v (.int .i64 2))), none⟩] []) <|
 .keep [4, 5, 6] []) <|
 .seq (.seq (.reg [⟨some 20, .mov (.t 4), none⟩,
 ⟨some 21, .mov (.t 0), none⟩,
 ⟨some 22, .len (.t 21), none⟩,
 ⟨some 23, .mov (.t 5), none⟩,
 ⟨some 24, .bin .sub (.t 22) (.t 23), none⟩,
 ⟨some 25, .mov (.t 1), none⟩,
 ⟨some 26, .bin .quo (.t 24) (.t 25), none⟩,
 ⟨some 27, .bin .gtr (.t 20) (.t 26), none⟩,
 ⟨some 19, .mov (.t 27), none⟩] []) <|
 .keep [4, 5, 6, 19] []) <|
 .cond (.t 19) (.seq (.reg [⟨some 6, .mov (.c (.v (.int .i64 3))), none⟩] []) <|
 .keep [4, 5, 6] []) <|
 .skip) <|
 .keep [4, 5, 6] []) <|
 .seq (.seq (.reg [⟨some 28, .mov (.t 4), none⟩,
 ⟨some 29, .mov (.t 5), none⟩,
 ⟨some 30, .mov (.t 6), none⟩,
 ⟨some 4, .mov (.t 28), none⟩,
 ⟨some 5, .mov (.t 29), none⟩,
 ⟨some 6, .mov (.t 30), none⟩] []) <|
 .keep [4, 5, 6] []) <|
 .ret, [.t 4, .t 5, .t 6]⟩

def wire_reader : CF := ⟨2, .seq (.seq (.reg [⟨some 2, .box (.t 0), none⟩,
 ⟨some 3, .box (.t 1), none⟩,
 ⟨some 4, .mov (.c (.v (.nilFunc))), none⟩] []) <|
 .keep [2, 3] [[2], [3]]) <|
 .seq (.seq (.reg [⟨some 5, .mkfn n_wire_reader_1 [(.t 2), (.t 3)] true, none⟩,
 ⟨some 4, .mov (.t 5), none⟩] []) <|
 .keep [4] []) <|
 .ret, [.t 4]⟩

def gantryref01_count : CF := ⟨2, .seq (.seq (.reg [⟨some 4, .mov (.c (.v (.int .i64 0))), none⟩,
 ⟨some 5, .mov (.c (.v (.int .i64 0))), none⟩,
 ⟨some 6, .mov (.c (.v (.int .i64 0))), none⟩] []) <|
 .keep [0, 1] []) <|
 .seq (.seq (.reg [⟨some 11, .mov (.t 0), none⟩,
 ⟨some 12, .call n_gantryref01_GetInt [(.t 11)] false, none⟩,
 ⟨some 10, .mov (.t 12), none⟩,
 ⟨some 13, .ext (.t 10) 0, none⟩,
 ⟨some 14, .ext (.t 10) 1, none⟩,
 ⟨some 15, .ext (.t 10) 2, none⟩,
 ⟨some 7, .mov (.t 13), none⟩,
 ⟨some 8, .mov (.t 14), none⟩,
 ⟨some 9, .mov (.t 15), none⟩] []) <|
 .keep [0, 1, 7, 8, 9] []) <|
 .seq (.seq (.seq (.reg [⟨some 16, .mov (.t 9), none⟩,
 ⟨some 17, .bin .neq (.t 16) (.c (.v (.int .i64 0))), none⟩] []) <|
 .keep [0, 1, 7, 8, 9, 17] []) <|
 .cond (.t 17) (.seq (.seq (.reg [⟨some 18, .mov (.t 9), none⟩,
 ⟨some 4, .mov (.c (.v (.int .i64 0))), none⟩,
 ⟨some 5, .mov (.c (.v (.int .i64 0))), none⟩,
 ⟨some 6, .mov (.t 18), none⟩] []) <|
 .keep [4, 5, 6] []) <|
 .ret) <|
 .skip) <|
 .seq (.seq (.seq (.reg [⟨some 19, .mov (.t 7), none⟩,
 ⟨some 20, .bin .lss (.t 19) (.c (.v (.int .i64 0))), none⟩] []) <|
 .keep [0, 1, 7, 8, 20] []) <|
 .cond (.t 20) (.seq (.seq (.reg [⟨some 4, .mov (.c (.v (.int .i64 0))), none⟩,
 ⟨some 5, .mov (.c (.v (.int .i64 0))), none⟩,
 ⟨some 6, .mov (.c (.v (.int .i64 2))), none⟩] []) <|
 .keep [4, 5, 6] []) <|
 .ret) <|
 .skip) <|
 .seq (.seq (.seq (.reg [⟨some 21, .mov (.t 7), none⟩,
 ⟨some 22, .mov (.t 0), none⟩,
 ⟨some 23, .len (.t 22), none⟩,
 ⟨some 24, .bin .gtr (.t 21) (.t 23), none⟩,
 ⟨some 25, .mov (.t 24), none⟩,
 ⟨some 26, .mov (.t 7), (some (25, false))⟩,
 ⟨some 27, .mov (.t 1), (some (25, false))⟩,
 ⟨some 28, .bin .mul (.t 26) (.t 27), (some (25, false))⟩,
 ⟨some 29, .mov (.t 0), (some (25, false))⟩,
 ⟨some 30, .len (.t 29), (some (25, false))⟩,
 ⟨some 31, .mov (.t 8), (some (25, false))⟩,
 ⟨some 32, .bin .sub (.t 30) (.t 31), (some (25, false))⟩,
 ⟨some 33, .bin .gtr (.t 28) (.t 32), (some (25, false))⟩,
 ⟨some 34, .pick (.t 25) (.c (.v (.bool true))) (.t 33), none⟩] []) <|
 .keep [7, 8, 34] []) <|
 .cond (.t 34) (.seq (.seq (.reg [⟨some 4, .mov (.c (.v (.int .i64 0))), none⟩,
 ⟨some 5, .mov (.c (.v (.int .i64 0))), none⟩,
 ⟨some 6, .mov (.c (.v (.int .i64 3))), none⟩] []) <|
 .keep [4, 5, 6] []) <|
 .ret) <|
 .skip) <|
 .seq (.seq (.reg [⟨some 35, .mov (.t 7), none⟩,
 ⟨some 36, .mov (.t 8), none⟩,
 ⟨some 4, .mov (.t 35), none⟩,
 ⟨some 5, .mov (.t 36), none⟩,
 ⟨some 6, .mov (.c (.v (.int .i64 0))), none⟩] []) <|
 .keep [4, 5, 6] []) <|
 .ret, [.t 4, .t 5, .t 6]⟩

def gantryref01_GetInt_l0 : C :=
 .seq (.seq (.seq (.seq (.reg [⟨some 35, .mov (.t 8), none⟩,
 ⟨some 36, .mov (.t 6), none⟩,
 ⟨some 37, .bin .leq (.t 35) (.t 36), none⟩] []) <|
 .keep [0, 5, 6, 7, 8, 37] []) <|
 .cond (.t 37) (.skip) <|
 .seq (.keep [0, 5, 6, 7] []) <|
 .exit 0) <|
 .seq (.seq (.blk 1 <|
 .seq (.seq (.reg [⟨some 40, .mov (.t 0), none⟩,
 ⟨some 41, .mov (.t 8), none⟩,
 ⟨some 42, .ixa 1 (.t 40) (.t 41), none⟩,
 ⟨some 43, .load none (.t 42), none⟩,
 ⟨some 44, .conv (.int .i64) (.t 43), none⟩,
 ⟨some 9, .mov (.t 44), none⟩] []) <|
 .keep [0, 5, 6, 7, 8, 9] []) <|
 .seq (.seq (.seq (.reg [⟨some 45, .mov (.t 5), none⟩,
 ⟨some 46, .bin .lss (.t 45) (.c (.v (.int .i64 128))), none⟩] []) <|
 .keep [0, 5, 6, 7, 8, 9, 46] []) <|
 .cond (.t 46) (.seq (.reg [⟨some 47, .mov (.t 9), none⟩,
 ⟨some 48, .bin .sub (.c (.v (.int .i64 255))) (.t 47), none⟩,
 ⟨some 9, .mov (.t 48), none⟩] []) <|
 .keep [0, 5, 6, 7, 8, 9] []) <|
 .skip) <|
 .seq (.seq (.seq (.reg [⟨some 49, .mov (.t 7), none⟩,
 ⟨some 50, .bin .gtr (.t 49) (.c (.v (.int .i64 36028797018963967))), none⟩] []) <|
 .keep [0, 5, 6, 7, 8, 9, 50] []) <|
 .cond (.t 50) (.seq (.seq (.reg [⟨some 2, .mov (.c (.v (.int .i64 0))), none⟩,
 ⟨some 3, .mov (.c (.v (.int .i64 0))), none⟩,
 ⟨some 4, .mov (.c (.v (.int .i64 2))), none⟩] []) <|
 .keep [2, 3, 4] []) <|
 .ret) <|
 .skip) <|
 .seq (.reg [⟨some 51, .mov (.t 7), none⟩,
 ⟨some 52, .bin .mul (.c (.v (.int .i64 256))) (.t 51), none⟩,
 ⟨some 53, .mov (.t 9), none⟩,
 ⟨some 54, .bin .add (.t 52) (.t 53), none⟩,
 ⟨some 7, .mov (.t 54), none⟩] []) <|
 .keep [0, 5, 6, 7, 8] []) <|
 .keep [0, 5, 6, 7, 8] []) <|
 .seq (.reg [⟨some 38, .mov (.t 8), none⟩,
 ⟨some 39, .bin .add (.t 38) (.c (.v (.int .i64 1))), none⟩,
 ⟨some 8, .mov (.t 39), none⟩] []) <|
 .keep [0, 5, 6, 7, 8] []) <|
 .keep [0, 5, 6, 7, 8] []
def gantryref01_GetInt : CF := ⟨1, .seq (.seq (.reg [⟨some 2, .mov (.c (.v (.int .i64 0))), none⟩,
 ⟨some 3, .mov (.c (.v (.int .i64 0))), none⟩,
 ⟨some 4, .mov (.c (.v (.int .i64 0))), none⟩] []) <|
 .keep [0] []) <|
 .seq (.seq (.seq (.reg [⟨some 11, .mov (.t 0), none⟩,
 ⟨some 12, .len (.t 11), none⟩,
 ⟨some 13, .bin .eql (.t 12) (.c (.v (.int .i64 0))), none⟩] []) <|
 .keep [0, 13] []) <|
 .cond (.t 13) (.seq (.seq (.reg [⟨some 2, .mov (.c (.v (.int .i64 0))), none⟩,
 ⟨some 3, .mov (.c (.v (.int .i64 0))), none⟩,
 ⟨some 4, .mov (.c (.v (.int .i64 3))), none⟩] []) <|
 .keep [2, 3, 4] []) <|
 .ret) <|
 .skip) <|
 .seq (.seq (.reg [⟨some 14, .mov (.t 0), none⟩,
 ⟨some 15, .ixa 1 (.t 14) (.c (.v (.int .i64 0))), none⟩,
 ⟨some 16, .load none (.t 15), none⟩,
 ⟨some 17, .conv (.int .i64) (.t 16), none⟩,
 ⟨some 5, .mov (.t 17), none⟩] []) <|
 .keep [0, 5] []) <|
 .seq (.seq (.seq (.reg [⟨some 18, .mov (.t 5), none⟩,
 ⟨some 19, .bin .lss (.t 18) (.c (.v (.int .i64 119))), none⟩,
 ⟨some 20, .mov (.t 19), none⟩,
 ⟨some 21, .mov (.t 5), (some (20, false))⟩,
 ⟨some 22, .bin .gtr (.t 21) (.c (.v (.int .i64 136))), (some (20, false))⟩,
 ⟨some 23, .pick (.t 20) (.c (.v (.bool true))) (.t 22), none⟩] []) <|
 .keep [0, 5, 23] []) <|
 .cond (.t 23) (.seq (.seq (.reg [⟨some 2, .mov (.c (.v (.int .i64 0))), none⟩,
 ⟨some 3, .mov (.c (.v (.int .i64 0))), none⟩,
 ⟨some 4, .mov (.c (.v (.int .i64 2))), none⟩] []) <|
 .keep [2, 3, 4] []) <|
 .ret) <|
 .skip) <|
 .seq (.seq (.reg [⟨some 24, .mov (.t 5), none⟩,
 ⟨some 25, .bin .sub (.t 24) (.c (.v (.int .i64 128))), none⟩,
 ⟨some 6, .mov (.t 25), none⟩] []) <|
 .keep [0, 5, 6] []) <|
 .seq (.seq (.seq (.reg [⟨some 26, .mov (.t 5), none⟩,
 ⟨some 27, .bin .lss (.t 26) (.c (.v (.int .i64 128))), none⟩] []) <|
 .keep [0, 5, 6, 27] []) <|
 .cond (.t 27) (.seq (.reg [⟨some 28, .mov (.t 5), none⟩,
 ⟨some 29, .bin .sub (.c (.v (.int .i64 127))) (.t 28), none⟩,
 ⟨some 6, .mov (.t 29), none⟩] []) <|
 .keep [0, 5, 6] []) <|
 .skip) <|
 .seq (.seq (.seq (.reg [⟨some 30, .mov (.t 0), none⟩,
 ⟨some 31, .len (.t 30), none⟩,
 ⟨some 32, .mov (.t 6), none⟩,
 ⟨some 33, .bin .add (.t 32) (.c (.v (.int .i64 1))), none⟩,
 ⟨some 34, .bin .lss (.t 31) (.t 33), none⟩] []) <|
 .keep [0, 5, 6, 34] []) <|
 .cond (.t 34) (.seq (.seq (.reg [⟨some 2, .mov (.c (.v (.int .i64 0))), none⟩,
 ⟨some 3, .mov (.c (.v (.int .i64 0))), none⟩,
 ⟨some 4, .mov (.c (.v (.int .i64 3))), none⟩] []) <|
 .keep [2, 3, 4] []) <|
 .ret) <|
 .skip) <|
 .seq (.seq (.reg [⟨some 7, .mov (.c (.v (.int .i64 0))), none⟩] []) <|
 .keep [0, 5, 6, 7] []) <|
 .seq (.seq (.seq (.reg [⟨some 8, .mov (.c (.v (.int .i64 1))), none⟩] []) <|
 .keep [0, 5, 6, 7, 8] []) <|
 .seq (.blk 0 <|
 .seq (.keep [0, 5, 6, 7, 8] []) <|
 .loop gantryref01_GetInt_l0) <|
 .keep [0, 5, 6, 7] []) <|
 .seq (.seq (.reg [⟨some 55, .mov (.t 7), none⟩,
 ⟨some 10, .mov (.t 55), none⟩] []) <|
 .keep [0, 5, 6, 7, 10] []) <|
 .seq (.seq (.seq (.reg [⟨some 56, .mov (.t 5), none⟩,
 ⟨some 57, .bin .lss (.t 56) (.c (.v (.int .i64 128))), none⟩] []) <|
 .keep [0, 6, 7, 10, 57] []) <|
 .cond (.t 57) (.seq (.reg [⟨some 58, .mov (.t 7), none⟩,
 ⟨some 59, .bin .sub (.c (.v (.int .i64 (-1)))) (.t 58), none⟩,
 ⟨some 10, .mov (.t 59), none⟩] []) <|
 .keep [0, 6, 10] []) <|
 .skip) <|
 .seq (.seq (.seq (.reg [⟨some 60, .mov (.t 10), none⟩,
 ⟨some 61, .call n_gantryref01_Int [(.t 60)] false, none⟩,
 ⟨some 62, .mov (.t 0), none⟩,
 ⟨some 63, .mov (.t 6), none⟩,
 ⟨some 64, .bin .add (.t 63) (.c (.v (.int .i64 1))), none⟩,
 ⟨some 65, .slc 1 (.t 62) none (some (.t 64)) none, none⟩,
 ⟨some 66, .call n_gantryref01_Same [(.t 61), (.t 65)] false, none⟩,
 ⟨some 67, .un .not (.t 66), none⟩] []) <|
 .keep [6, 10, 67] []) <|
 .cond (.t 67) (.seq (.seq (.reg [⟨some 2, .mov (.c (.v (.int .i64 0))), none⟩,
 ⟨some 3, .mov (.c (.v (.int .i64 0))), none⟩,
 ⟨some 4, .mov (.c (.v (.int .i64 2))), none⟩] []) <|
 .keep [2, 3, 4] []) <|
 .ret) <|
 .skip) <|
 .seq (.seq (.reg [⟨some 68, .mov (.t 10), none⟩,
 ⟨some 69, .mov (.t 6), none⟩,
 ⟨some 70, .bin .add (.t 69) (.c (.v (.int .i64 1))), none⟩,
 ⟨some 2, .mov (.t 68), none⟩,
 ⟨some 3, .mov (.t 70), none⟩,
 ⟨some 4, .mov (.c (.v (.int .i64 0))), none⟩] []) <|
 .keep [2, 3, 4] []) <|
 .ret, [.t 2, .t 3, .t 4]⟩

def slices_IndexFunc_int_int_l0 : C :=
 .seq (.seq (.seq (.reg [⟨some 9, .bin .lss (.t 8) (.t 7), none⟩] []) <|
 .keep [0, 1, 7, 8, 9] []) <|
 .seq (.cond (.t 9) (.skip) <|
 .seq (.keep [] []) <|
 .exit 0) <|
 .seq (.seq (.blk 1 <|
 .seq (.seq (.reg [⟨some 10, .mov (.t 8), none⟩,
 ⟨some 5, .mov (.t 10), none⟩] []) <|
 .keep [0, 1, 5, 7, 8] []) <|
 .seq (.seq (.reg [⟨some 11, .mov (.t 1), none⟩,
 ⟨some 12, .mov (.t 0), none⟩,
 ⟨some 13, .mov (.t 5), none⟩,
 ⟨some 14, .ixa 1 (.t 12) (.t 13), none⟩,
 ⟨some 15, .load none (.t 14), none⟩,
 ⟨some 16, .calv (.t 11) [(.t 15)], none⟩] []) <|
 .keep [0, 1, 5, 7, 8, 16] []) <|
 .cond (.t 16) (.seq (.seq (.reg [⟨some 17, .mov (.t 5), none⟩,
 ⟨some 4, .mov (.t 17), none⟩] []) <|
 .keep [4] []) <|
 .ret) <|
 .skip) <|
 .keep [0, 1, 7, 8] []) <|
 .seq (.reg [⟨some 18, .bin .add (.t 8) (.c (.v (.int .i64 1))), none⟩,
 ⟨some 8, .mov (.t 18), none⟩] []) <|
 .keep [0, 1, 7, 8] []) <|
 .keep [0, 1, 7, 8] []
def slices_IndexFunc_int_int : CF := ⟨2, .seq (.seq (.reg [⟨some 4, .mov (.c (.v (.int .i64 0))), none⟩] []) <|
 .keep [0, 1] []) <|
 .seq (.seq (.seq (.reg [⟨some 6, .mov (.t 0), none⟩,
 ⟨some 7, .len (.t 6), none⟩,
 ⟨some 8, .mov (.c (.v (.int .i64 0))), none⟩] []) <|
 .keep [0, 1, 7, 8] []) <|
 .seq (.blk 0 <|
 .seq (.keep [0, 1, 7, 8] []) <|
 .loop slices_IndexFunc_int_int_l0) <|
 .keep [] []) <|
 .seq (.seq (.reg [⟨some 4, .mov (.c (.v (.int .i64 (-1)))), none⟩] []) <|
 .keep [4] []) <|
 .ret, [.t 4]⟩

def cmp_Compare_int : CF := ⟨2, .seq (.seq (.reg [⟨some 4, .mov (.c (.v (.int .i64 0))), none⟩] []) <|
 .keep [0, 1] []) <|
 .seq (.seq (.reg [⟨some 7, .mov (.t 0), none⟩,
 ⟨some 8, .call n_cmp_isNaN_int [(.t 7)] false, none⟩,
 ⟨some 5, .mov (.t 8), none⟩] []) <|
 .keep [0, 1, 5] []) <|
 .seq (.seq (.reg [⟨some 9, .mov (.t 1), none⟩,
 ⟨some 10, .call n_cmp_isNaN_int [(.t 9)] false, none⟩,
 ⟨some 6, .mov (.t 10), none⟩] []) <|
 .keep [0, 1, 5, 6] []) <|
 .seq (.seq (.seq (.reg [⟨some 11, .mov (.t 5), none⟩] []) <|
 .keep [0, 1, 6, 11] []) <|
 .cond (.t 11) (.seq (.seq (.seq (.reg [⟨some 12, .mov (.t 6), none⟩] []) <|
 .keep [12] []) <|
 .cond (.t 12) (.seq (.seq (.reg [⟨some 4, .mov (.c (.v (.int .i64 0))), none⟩] []) <|
 .keep [4] []) <|
 .ret) <|
 .skip) <|
 .seq (.seq (.reg [⟨some 4, .mov (.c (.v (.int .i64 (-1)))), none⟩] []) <|
 .keep [4] []) <|
 .ret) <|
 .skip) <|
 .seq (.seq (.seq (.reg [⟨some 13, .mov (.t 6), none⟩] []) <|
 .keep [0, 1, 13] []) <|
 .cond (.t 13) (.seq (.seq (.reg [⟨some 4, .mov (.c (.v (.int .i64 1))), none⟩] []) <|
 .keep [4] []) <|
 .ret) <|
 .skip) <|
 .seq (.seq (.seq (.reg [⟨some 14, .mov (.t 0), none⟩,
 ⟨some 15, .mov (.t 1), none⟩,
 ⟨some 16, .bin .lss (.t 14) (.t 15), none⟩] []) <|
 .keep [0, 1, 16] []) <|
 .cond (.t 16) (.seq (.seq (.reg [⟨some 4, .mov (.c (.v (.int .i64 (-1)))), none⟩] []) <|
 .keep [4] []) <|
 .ret) <|
 .skip) <|
 .seq (.seq (.seq (.reg [⟨some 17, .mov (.t 0), none⟩,
 ⟨some 18, .mov (.t 1), none⟩,
 ⟨some 19, .bin .gtr (.t 17) (.t 18), none⟩] []) <|
 .keep [19] []) <|
 .cond (.t 19) (.seq (.seq (.reg [⟨some 4, .mov (.c (.v (.int .i64 1))), none⟩] []) <|
 .keep [4] []) <|
 .ret) <|
 .skip) <|
 .seq (.seq (.reg [⟨some 4, .mov (.c (.v (.int .i64 0))), none⟩] []) <|
 .keep [4] []) <|
 .ret, [.t 4]⟩

def integer_scaled_l0 : C :=
 .seq (.seq (.seq (.reg [⟨some 17, .bin .lss (.t 16) (.t 15), none⟩] []) <|
 .keep [0, 1, 5, 6, 14, 15, 16, 17] [[13]]) <|
 .seq (.cond (.t 17) (.skip) <|
 .seq (.keep [0, 5, 6] [[13]]) <|
 .exit 0) <|
 .seq (.seq (.blk 1 <|
 .seq (.seq (.reg [⟨some 18, .mov (.t 16), none⟩,
 ⟨some 19, .ixa 1 (.t 14) (.t 16), none⟩,
 ⟨some 20, .load none (.t 19), none⟩,
 ⟨some 7, .mov (.t 18), none⟩,
 ⟨some 8, .mov (.t 20), none⟩] []) <|
 .keep [0, 1, 5, 6, 7, 8, 14, 15, 16] [[13]]) <|
 .seq (.seq (.reg [⟨some 21, .mov (.t 8), none⟩,
 ⟨some 22, .mov (.t 1), none⟩,
 ⟨some 23, .bin .mul (.t 21) (.t 22), none⟩,
 ⟨some 24, .mov (.t 6), none⟩,
 ⟨some 25, .bin .add (.t 23) (.t 24), none⟩,
 ⟨some 9, .mov (.t 25), none⟩] []) <|
 .keep [0, 1, 5, 7, 9, 14, 15, 16] [[13]]) <|
 .seq (.reg [⟨some 26, .mov (.t 5), none⟩,
 ⟨some 27, .mov (.t 7), none⟩,
 ⟨some 28, .mov (.t 9), none⟩,
 ⟨some 29, .bin .rem (.t 28) (.c (.v (.int .i64 1000000000))), none⟩,
 ⟨some 30, .mov (.t 9), none⟩,
 ⟨some 31, .bin .quo (.t 30) (.c (.v (.int .i64 1000000000))), none⟩,
 ⟨some 32, .ixa 1 (.t 26) (.t 27), none⟩,
 ⟨none, .store 1 (.t 32) (.t 29), none⟩,
 ⟨some 6, .mov (.t 31), none⟩] []) <|
 .keep [0, 1, 5, 6, 14, 15, 16] [[13]]) <|
 .keep [0, 1, 5, 6, 14, 15, 16] [[13]]) <|
 .seq (.reg [⟨some 33, .bin .add (.t 16) (.c (.v (.int .i64 1))), none⟩,
 ⟨some 16, .mov (.t 33), none⟩] []) <|
 .keep [0, 1, 5, 6, 14, 15, 16] [[13]]) <|
 .keep [0, 1, 5, 6, 14, 15, 16] [[13]]
def integer_scaled : CF := ⟨2, .seq (.seq (.reg [⟨some 4, .mov (.c (.z true)), none⟩] []) <|
 .keep [0, 1] []) <|
 .seq (.seq (.reg [⟨some 10, .mov (.t 0), none⟩,
 ⟨some 11, .len (.t 10), none⟩,
 ⟨some 12, .bin .add (.t 11) (.c (.v (.int .i64 1))), none⟩,
 ⟨some 13, .mksl 1 8 [.v (.int .i64 0)] (.t 12) (.t 12), none⟩,
 ⟨some 5, .mov (.t 13), none⟩] []) <|
 .keep [0, 1, 5] [[13]]) <|
 .seq (.seq (.reg [⟨some 6, .mov (.c (.v (.int .i64 0))), none⟩] []) <|
 .keep [0, 1, 5, 6] [[13]]) <|
 .seq (.seq (.seq (.reg [⟨some 14, .mov (.t 0), none⟩,
 ⟨some 15, .len (.t 14), none⟩,
 ⟨some 16, .mov (.c (.v (.int .i64 0))), none⟩] []) <|
 .keep [0, 1, 5, 6, 14, 15, 16] [[13]]) <|
 .seq (.blk 0 <|
 .seq (.keep [0, 1, 5, 6, 14, 15, 16] [[13]]) <|
 .loop integer_scaled_l0) <|
 .keep [0, 5, 6] [[13]]) <|
 .seq (.seq (.reg [⟨some 34, .mov (.t 5), none⟩,
 ⟨some 35, .mov (.t 0), none⟩,
 ⟨some 36, .len (.t 35), none⟩,
 ⟨some 37, .mov (.t 6), none⟩,
 ⟨some 38, .ixa 1 (.t 34) (.t 36), none⟩,
 ⟨none, .store 1 (.t 38) (.t 37), none⟩] []) <|
 .keep [5] [[13]]) <|
 .seq (.seq (.reg [⟨some 39, .mov (.t 5), none⟩,
 ⟨some 4, .mov (.t 39), none⟩] []) <|
 .keep [4] [[13]]) <|
 .ret, [.t 4]⟩

def internal_stringslite_HasPrefix : CF := ⟨2, .seq (.seq (.reg [⟨some 4, .mov (.c (.v (.bool false))), none⟩] []) <|
 .keep [0, 1] []) <|
 .seq (.seq (.reg [⟨some 5, .mov (.t 0), none⟩,
 ⟨some 6, .lns (.t 5), none⟩,
 ⟨some 7, .mov (.t 1), none⟩,
 ⟨some 8, .lns (.t 7), none⟩,
 ⟨some 9, .bin .geq (.t 6) (.t 8), none⟩,
 ⟨some 10, .mov (.t 9), none⟩,
 ⟨some 11, .mov (.t 0), (some (10, true))⟩,
 ⟨some 12, .mov (.t 1), (some (10, true))⟩,
 ⟨some 13, .lns (.t 12), (some (10, true))⟩,
 ⟨some 14, .sls (.t 11) none (some (.t 13)), (some (10, true))⟩,
 ⟨some 15, .mov (.t 1), (some (10, true))⟩,
 ⟨some 16, .bin .eql (.t 14) (.t 15), (some (10, true))⟩,
 ⟨some 17, .pick (.t 10) (.t 16) (.c (.v (.bool false))), none⟩,
 ⟨some 4, .mov (.t 17), none⟩] []) <|
 .keep [4] []) <|
 .ret, [.t 4]⟩

def wire_GetInt_l0 : C :=
 .seq (.seq (.seq (.reg [⟨some 49, .bin .lss (.t 48) (.t 47), none⟩] []) <|
 .keep [5, 6, 7, 46, 47, 48, 49] []) <|
 .seq (.cond (.t 49) (.skip) <|
 .seq (.keep [5, 6, 7] []) <|
 .exit 1) <|
 .seq (.seq (.blk 2 <|
 .seq (.seq (.reg [⟨some 50, .ixa 1 (.t 46) (.t 48), none⟩,
 ⟨some 51, .load none (.t 50), none⟩,
 ⟨some 9, .mov (.t 51), none⟩] []) <|
 .keep [5, 6, 7, 9, 46, 47, 48] []) <|
 .seq (.reg [⟨some 52, .mov (.t 7), none⟩,
 ⟨some 53, .bin .shl (.t 52) (.c (.v (.int .u64 8))), none⟩,
 ⟨some 54, .mov (.t 9), none⟩,
 ⟨some 55, .mov (.t 5), none⟩,
 ⟨some 56, .bin .xor (.t 54) (.t 55), none⟩,
 ⟨some 57, .conv (.int .u64) (.t 56), none⟩,
 ⟨some 58, .bin .or (.t 53) (.t 57), none⟩,
 ⟨some 7, .mov (.t 58), none⟩] []) <|
 .keep [5, 6, 7, 46, 47, 48] []) <|
 .keep [5, 6, 7, 46, 47, 48] []) <|
 .seq (.reg [⟨some 59, .bin .add (.t 48) (.c (.v (.int .i64 1))), none⟩,
 ⟨some 48, .mov (.t 59), none⟩] []) <|
 .keep [5, 6, 7, 46, 47, 48] []) <|
 .keep [5, 6, 7, 46, 47, 48] []
def wire_GetInt : CF := ⟨1, .seq (.seq (.reg [⟨some 2, .mov (.c (.v (.int .i64 0))), none⟩,
 ⟨some 3, .mov (.c (.v (.int .i64 0))), none⟩,
 ⟨some 4, .mov (.c (.v (.int .i64 0))), none⟩] []) <|
 .keep [0] []) <|
 .seq (.seq (.seq (.reg [⟨some 10, .mov (.t 0), none⟩,
 ⟨some 11, .len (.t 10), none⟩,
 ⟨some 12, .bin .eql (.t 11) (.c (.v (.int .i64 0))), none⟩] []) <|
 .keep [0, 12] []) <|
 .cond (.t 12) (.seq (.seq (.reg [⟨some 2, .mov (.c (.v (.int .i64 0))), none⟩,
 ⟨some 3, .mov (.c (.v (.int .i64 0))), none⟩,
 ⟨some 4, .mov (.c (.v (.int .i64 3))), none⟩] []) <|
 .keep [2, 3, 4] []) <|
 .ret) <|
 .skip) <|
 .seq (.seq (.reg [⟨some 5, .mov (.c (.v (.int .u8 0))), none⟩] []) <|
 .keep [0, 5] []) <|
 .seq (.seq (.seq (.reg [⟨some 13, .mov (.t 0), none⟩,
 ⟨some 14, .ixa 1 (.t 13) (.c (.v (.int .i64 0))), none⟩,
 ⟨some 15, .load none (.t 14), none⟩,
 ⟨some 16, .bin .lss (.t 15) (.c (.v (.int .u8 128))), none⟩] []) <|
 .keep [0, 5, 16] []) <|
 .cond (.t 16) (.seq (.reg [⟨some 5, .mov (.c (.v (.int .u8 255))), none⟩] []) <|
 .keep [0, 5] []) <|
 .skip) <|
 .seq (.seq (.reg [⟨some 17, .mov (.t 0), none⟩,
 ⟨some 18, .ixa 1 (.t 17) (.c (.v (.int .i64 0))), none⟩,
 ⟨some 19, .load none (.t 18), none⟩,
 ⟨some 20, .mov (.t 5), none⟩,
 ⟨some 21, .bin .xor (.t 19) (.t 20), none⟩,
 ⟨some 22, .conv (.int .i64) (.t 21), none⟩,
 ⟨some 23, .bin .sub (.t 22) (.c (.v (.int .i64 128))), none⟩,
 ⟨some 6, .mov (.t 23), none⟩] []) <|
 .keep [0, 5, 6] []) <|
 .seq (.seq (.blk 0 <|
 .seq (.seq (.reg [⟨some 25, .mov (.t 6), none⟩,
 ⟨some 26, .bin .gtr (.t 25) (.c (.v (.int .i64 8))), none⟩,
 ⟨some 24, .mov (.t 26), none⟩] []) <|
 .keep [0, 5, 6, 24] []) <|
 .cond (.t 24) (.seq (.seq (.reg [⟨some 2, .mov (.c (.v (.int .i64 0))), none⟩,
 ⟨some 3, .mov (.c (.v (.int .i64 0))), none⟩,
 ⟨some 4, .mov (.c (.v (.int .i64 2))), none⟩] []) <|
 .keep [2, 3, 4] []) <|
 .ret) <|
 .seq (.seq (.reg [⟨some 28, .mov (.t 0), none⟩,
 ⟨some 29, .len (.t 28), none⟩,
 ⟨some 30, .mov (.t 6), none⟩,
 ⟨some 31, .bin .leq (.t 29) (.t 30), none⟩,
 ⟨some 27, .mov (.t 31), none⟩] []) <|
 .keep [0, 5, 6, 27] []) <|
 .cond (.t 27) (.seq (.seq (.reg [⟨some 2, .mov (.c (.v (.int .i64 0))), none⟩,
 ⟨some 3, .mov (.c (.v (.int .i64 0))), none⟩,
 ⟨some 4, .mov (.c (.v (.int .i64 3))), none⟩] []) <|
 .keep [2, 3, 4] []) <|
 .ret) <|
 .seq (.seq (.reg [⟨some 33, .mov (.t 6), none⟩,
 ⟨some 34, .bin .gtr (.t 33) (.c (.v (.int .i64 0))), none⟩,
 ⟨some 35, .mov (.t 34), none⟩,
 ⟨some 36, .mov (.t 0), (some (35, true))⟩,
 ⟨some 37, .ixa 1 (.t 36) (.c (.v (.int .i64 1))), (some (35, true))⟩,
 ⟨some 38, .load none (.t 37), (some (35, true))⟩,
 ⟨some 39, .mov (.t 5), (some (35, true))⟩,
 ⟨some 40, .bin .xor (.t 38) (.t 39), (some (35, true))⟩,
 ⟨some 41, .bin .eql (.t 40) (.c (.v (.int .u8 0))), (some (35, true))⟩,
 ⟨some 42, .pick (.t 35) (.t 41) (.c (.v (.bool false))), none⟩,
 ⟨some 32, .mov (.t 42), none⟩] []) <|
 .keep [0, 5, 6, 32] []) <|
 .cond (.t 32) (.seq (.seq (.reg [⟨some 2, .mov (.c (.v (.int .i64 0))), none⟩,
 ⟨some 3, .mov (.c (.v (.int .i64 0))), none⟩,
 ⟨some 4, .mov (.c (.v (.int .i64 2))), none⟩] []) <|
 .keep [2, 3, 4] []) <|
 .ret) <|
 .skip) <|
 .keep [0, 5, 6] []) <|
 .seq (.seq (.reg [⟨some 7, .mov (.c (.v (.int .u64 0))), none⟩] []) <|
 .keep [0, 5, 6, 7] []) <|
 .seq (.seq (.seq (.reg [⟨some 43, .mov (.t 0), none⟩,
 ⟨some 44, .mov (.t 6), none⟩,
 ⟨some 45, .bin .add (.t 44) (.c (.v (.int .i64 1))), none⟩,
 ⟨some 46, .slc 1 (.t 43) (some (.c (.v (.int .i64 1)))) (some (.t 45)) none, none⟩,
 ⟨some 47, .len (.t 46), none⟩,
 ⟨some 48, .mov (.c (.v (.int .i64 0))), none⟩] []) <|
 .keep [5, 6, 7, 46, 47, 48] []) <|
 .seq (.blk 1 <|
 .seq (.keep [5, 6, 7, 46, 47, 48] []) <|
 .loop wire_GetInt_l0) <|
 .keep [5, 6, 7] []) <|
 .seq (.seq (.seq (.reg [⟨some 60, .mov (.t 7), none⟩,
 ⟨some 61, .bin .shr (.t 60) (.c (.v (.int .u64 63))), none⟩,
 ⟨some 62, .bin .gtr (.t 61) (.c (.v (.int .u64 0))), none⟩] []) <|
 .keep [5, 6, 7, 62] []) <|
 .cond (.t 62) (.seq (.seq (.reg [⟨some 2, .mov (.c (.v (.int .i64 0))), none⟩,
 ⟨some 3, .mov (.c (.v (.int .i64 0))), none⟩,
 ⟨some 4, .mov (.c (.v (.int .i64 2))), none⟩] []) <|
 .keep [2, 3, 4] []) <|
 .ret) <|
 .skip) <|
 .seq (.seq (.seq (.reg [⟨some 63, .mov (.t 5), none⟩,
 ⟨some 64, .bin .gtr (.t 63) (.c (.v (.int .u8 0))), none⟩] []) <|
 .keep [6, 7, 64] []) <|
 .cond (.t 64) (.seq (.reg [⟨some 65, .mov (.t 7), none⟩,
 ⟨some 66, .un .xor (.t 65), none⟩,
 ⟨some 7, .mov (.t 66), none⟩] []) <|
 .keep [6, 7] []) <|
 .skip) <|
 .seq (.seq (.reg [⟨some 67, .mov (.t 7), none⟩,
 ⟨some 68, .conv (.int .i64) (.t 67), none⟩,
 ⟨some 69, .mov (.t 6), none⟩,
 ⟨some 70, .bin .add (.t 69) (.c (.v (.int .i64 1))), none⟩,
 ⟨some 2, .mov (.t 68), none⟩,
 ⟨some 3, .mov (.t 70), none⟩,
 ⟨some 4, .mov (.c (.v (.int .i64 0))), none⟩] []) <|
 .keep [2, 3, 4] []) <|
 .ret, [.t 2, .t 3, .t 4]⟩

def wire_reader_1 : CF := ⟨2, .seq (.seq (.reg [⟨some 2, .mov (.c (.v (.int .i64 0))), none⟩,
 ⟨some 3, .mov (.c (.v (.int .i64 0))), none⟩,
 ⟨some 4, .mov (.c (.v (.int .i64 0))), none⟩] []) <|
 .keep [0, 1] []) <|
 .seq (.seq (.reg [⟨some 9, .load none (.t 0), none⟩,
 ⟨some 10, .load none (.t 1), none⟩,
 ⟨some 11, .slc 1 (.t 9) (some (.t 10)) none none, none⟩,
 ⟨some 12, .call n_wire_GetInt [(.t 11)] false, none⟩,
 ⟨some 8, .mov (.t 12), none⟩,
 ⟨some 13, .ext (.t 8) 0, none⟩,
 ⟨some 14, .ext (.t 8) 1, none⟩,
 ⟨some 15, .ext (.t 8) 2, none⟩,
 ⟨some 5, .mov (.t 13), none⟩,
 ⟨some 6, .mov (.t 14), none⟩,
 ⟨some 7, .mov (.t 15), none⟩] []) <|
 .keep [1, 5, 6, 7] []) <|
 .seq (.seq (.reg [⟨some 16, .load none (.t 1), none⟩,
 ⟨some 17, .mov (.t 6), none⟩,
 ⟨some 18, .bin .add (.t 16) (.t 17), none⟩,
 ⟨none, .store 1 (.t 1) (.t 18), none⟩] []) <|
 .keep [1, 5, 7] []) <|
 .seq (.seq (.reg [⟨some 19, .mov (.t 5), none⟩,
 ⟨some 20, .load none (.t 1), none⟩,
 ⟨some 21, .mov (.t 7), none⟩,
 ⟨some 2, .mov (.t 19), none⟩,
 ⟨some 3, .mov (.t 20), none⟩,
 ⟨some 4, .mov (.t 21), none⟩] []) <|
 .keep [2, 3, 4] []) <|
 .ret, [.t 2, .t 3, .t 4]⟩

def cmp_isNaN_int : CF := ⟨1, .seq (.seq (.reg [⟨some 2, .mov (.c (.v (.bool false))), none⟩] []) <|
 .keep [0] []) <|
 .seq (.seq (.reg [⟨some 3, .mov (.t 0), none⟩,
 ⟨some 4, .mov (.t 0), none⟩,
 ⟨some 5, .bin .neq (.t 3) (.t 4), none⟩,
 ⟨some 2, .mov (.t 5), none⟩] []) <|
 .keep [2] []) <|
 .ret, [.t 2]⟩

end Go.AM

