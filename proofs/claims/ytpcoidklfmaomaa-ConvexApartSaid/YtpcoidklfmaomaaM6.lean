/- Part 6 of the proof: a small machine, its soundness against the model, and what the program's functions compute on it. -/
import Derived.Test.YtpcoidklfmaomaaM5
import Derived.Test.YtpcoidklfmaomaaProg
import Derived.KernelRfl
import Derived.Test.YtpcoidklfmaomaaM3
import Derived.Test.YtpcoidklfmaomaaM0
import Derived.RowKit
set_option linter.unusedVariables false
set_option linter.unusedSimpArgs false
set_option maxRecDepth 100000
namespace Go.AM
open Go Go.Proofs


def gantryref04_Div : CF := ⟨2, .seq (.seq (.reg [⟨some 2, .box (.t 0), none⟩,
 ⟨some 3, .box (.t 1), none⟩,
 ⟨some 4, .new [.v (.bool false), .z true], none⟩,
 ⟨some 5, .new [.v (.bool false), .z true], none⟩] []) <|
 .keep [2, 3, 4, 5] [[2], [3], [4], [5]]) <|
 .seq (.seq (.seq (.reg [⟨some 10, .fad 1 (.t 3), none⟩,
 ⟨some 11, .load none (.t 10), none⟩,
 ⟨some 12, .len (.t 11), none⟩,
 ⟨some 13, .bin .eql (.t 12) (.c (.v (.int .i64 0))), none⟩] []) <|
 .keep [2, 3, 4, 5, 13] [[2], [3], [4], [5]]) <|
 .cond (.t 13) (.seq (.seq (.reg [⟨some 14, .build [.v (.bool false), .z true] [], none⟩,
 ⟨some 15, .build [.v (.bool false), .z true] [], none⟩,
 ⟨none, .store 2 (.t 4) (.t 14), none⟩,
 ⟨none, .store 2 (.t 5) (.t 15), none⟩] []) <|
 .keep [4, 5] [[4], [5]]) <|
 .ret) <|
 .skip) <|
 .seq (.seq (.reg [⟨some 17, .fad 1 (.t 2), none⟩,
 ⟨some 18, .load none (.t 17), none⟩,
 ⟨some 19, .fad 1 (.t 3), none⟩,
 ⟨some 20, .load none (.t 19), none⟩,
 ⟨some 21, .call n_gantryref04_divided [(.t 18), (.t 20)] false, none⟩,
 ⟨some 16, .mov (.t 21), none⟩,
 ⟨some 22, .ext (.t 16) 0, none⟩,
 ⟨some 23, .ext (.t 16) 1, none⟩,
 ⟨some 6, .mov (.t 22), none⟩,
 ⟨some 7, .mov (.t 23), none⟩] []) <|
 .keep [2, 3, 4, 5, 6, 7] [[2], [3], [4], [5]]) <|
 .seq (.seq (.reg [⟨some 24, .fad 0 (.t 2), none⟩,
 ⟨some 25, .load none (.t 24), none⟩,
 ⟨some 26, .fad 0 (.t 3), none⟩,
 ⟨some 27, .load none (.t 26), none⟩,
 ⟨some 28, .binb true (.t 25) (.t 27), none⟩,
 ⟨some 29, .mov (.t 6), none⟩,
 ⟨some 30, .call n_gantryref04_normal [(.t 28), (.t 29)] false, none⟩,
 ⟨some 8, .new [.v (.bool false), .z true], none⟩,
 ⟨none, .store 2 (.t 8) (.t 30), none⟩] []) <|
 .keep [2, 3, 4, 5, 7, 8] [[2], [3], [4], [5], [8]]) <|
 .seq (.seq (.reg [⟨some 31, .mov (.t 7), none⟩,
 ⟨some 32, .call n_gantryref04_normal [(.c (.v (.bool false))), (.t 31)] false, none⟩,
 ⟨some 9, .new [.v (.bool false), .z true], none⟩,
 ⟨none, .store 2 (.t 9) (.t 32), none⟩] []) <|
 .keep [2, 3, 4, 5, 8, 9] [[2], [3], [4], [5], [8], [9]]) <|
 .seq (.seq (.seq (.reg [⟨some 33, .fad 0 (.t 2), none⟩,
 ⟨some 34, .load none (.t 33), none⟩,
 ⟨some 35, .mov (.t 34), none⟩,
 ⟨some 36, .fad 1 (.t 9), (some (35, true))⟩,
 ⟨some 37, .load none (.t 36), (some (35, true))⟩,
 ⟨some 38, .len (.t 37), (some (35, true))⟩,
 ⟨some 39, .bin .gtr (.t 38) (.c (.v (.int .i64 0))), (some (35, true))⟩,
 ⟨some 40, .pick (.t 35) (.t 39) (.c (.v (.bool false))), none⟩] []) <|
 .keep [2, 3, 4, 5, 8, 9, 40] [[2], [3], [4], [5], [8], [9]]) <|
 .cond (.t 40) (.seq (.seq (.reg [⟨some 41, .load (some 2) (.t 8), none⟩,
 ⟨some 42, .fad 0 (.t 2), none⟩,
 ⟨some 43, .load none (.t 42), none⟩,
 ⟨some 44, .fad 0 (.t 3), none⟩,
 ⟨some 45, .load none (.t 44), none⟩,
 ⟨some 46, .binb true (.t 43) (.t 45), none⟩,
 ⟨some 47, .lit 1 1 [.v (.int .i64 0)] [(0, (.c (.v (.int .i64 1))))] true, none⟩,
 ⟨some 48, .call n_gantryref04_normal [(.t 46), (.t 47)] false, none⟩,
 ⟨some 49, .call n_gantryref04_Add [(.t 41), (.t 48)] false, none⟩,
 ⟨none, .store 2 (.t 8) (.t 49), none⟩] []) <|
 .keep [3, 4, 5, 8, 9] [[3], [4], [5], [8], [9]]) <|
 .seq (.reg [⟨some 50, .fad 1 (.t 3), none⟩,
 ⟨some 51, .load none (.t 50), none⟩,
 ⟨some 52, .fad 1 (.t 9), none⟩,
 ⟨some 53, .load none (.t 52), none⟩,
 ⟨some 54, .call n_gantryref04_minus [(.t 51), (.t 53)] false, none⟩,
 ⟨some 55, .call n_gantryref04_normal [(.c (.v (.bool false))), (.t 54)] false, none⟩,
 ⟨none, .store 2 (.t 9) (.t 55), none⟩] []) <|
 .keep [4, 5, 8, 9] [[4], [5], [8], [9]]) <|
 .skip) <|
 .seq (.seq (.reg [⟨some 56, .load (some 2) (.t 8), none⟩,
 ⟨some 57, .load (some 2) (.t 9), none⟩,
 ⟨none, .store 2 (.t 4) (.t 56), none⟩,
 ⟨none, .store 2 (.t 5) (.t 57), none⟩] [((.t 9), 2, (.t 4), 2)]) <|
 .keep [4, 5] [[4], [5]]) <|
 .ret, [.cell 4 (some 2), .cell 5 (some 2)]⟩

def gantryref04_Neg : CF := ⟨1, .seq (.seq (.reg [⟨some 1, .box (.t 0), none⟩,
 ⟨some 2, .new [.v (.bool false), .z true], none⟩] []) <|
 .keep [1, 2] [[1], [2]]) <|
 .seq (.seq (.reg [⟨some 3, .fad 0 (.t 1), none⟩,
 ⟨some 4, .load none (.t 3), none⟩,
 ⟨some 5, .un .not (.t 4), none⟩,
 ⟨some 6, .fad 1 (.t 1), none⟩,
 ⟨some 7, .load none (.t 6), none⟩,
 ⟨some 8, .call n_gantryref04_normal [(.t 5), (.t 7)] false, none⟩,
 ⟨none, .store 2 (.t 2) (.t 8), none⟩] []) <|
 .keep [2] [[2]]) <|
 .ret, [.cell 2 (some 2)]⟩

def gantryref05_one : CF := ⟨1, .seq (.seq (.reg [⟨some 1, .box (.t 0), none⟩,
 ⟨some 2, .mov (.c (.v (.bool false))), none⟩] []) <|
 .keep [1] [[1]]) <|
 .seq (.seq (.seq (.reg [⟨some 3, .fad 0 (.t 1), none⟩,
 ⟨some 4, .load none (.t 3), none⟩,
 ⟨some 5, .mov (.t 4), none⟩,
 ⟨some 6, .fad 1 (.t 1), (some (5, false))⟩,
 ⟨some 7, .load none (.t 6), (some (5, false))⟩,
 ⟨some 8, .len (.t 7), (some (5, false))⟩,
 ⟨some 9, .bin .neq (.t 8) (.c (.v (.int .i64 1))), (some (5, false))⟩,
 ⟨some 10, .pick (.t 5) (.c (.v (.bool true))) (.t 9), none⟩] []) <|
 .keep [1, 10] [[1]]) <|
 .cond (.t 10) (.seq (.seq (.reg [⟨some 2, .mov (.c (.v (.bool false))), none⟩] []) <|
 .keep [2] []) <|
 .ret) <|
 .skip) <|
 .seq (.seq (.reg [⟨some 11, .fad 1 (.t 1), none⟩,
 ⟨some 12, .load none (.t 11), none⟩,
 ⟨some 13, .ixa 1 (.t 12) (.c (.v (.int .i64 0))), none⟩,
 ⟨some 14, .load none (.t 13), none⟩,
 ⟨some 15, .bin .eql (.t 14) (.c (.v (.int .i64 1))), none⟩,
 ⟨some 2, .mov (.t 15), none⟩] []) <|
 .keep [2] []) <|
 .ret, [.t 2]⟩

def gantryref04_Root_l0 : C :=
 .seq (.seq (.seq (.seq (.reg [⟨some 25, .load (some 2) (.t 4), none⟩,
 ⟨some 26, .load (some 2) (.t 6), none⟩,
 ⟨some 27, .call n_gantryref04_Add [(.t 25), (.t 26)] false, none⟩,
 ⟨some 28, .load (some 2) (.t 5), none⟩,
 ⟨some 29, .call n_gantryref04_Compare [(.t 27), (.t 28)] false, none⟩,
 ⟨some 30, .bin .lss (.t 29) (.c (.v (.int .i64 0))), none⟩] []) <|
 .keep [1, 2, 4, 5, 6, 7, 30] [[1], [2], [4], [5], [6], [7]]) <|
 .cond (.t 30) (.skip) <|
 .seq (.keep [1, 2, 4] [[1], [2], [4]]) <|
 .exit 0) <|
 .seq (.blk 1 <|
 .seq (.seq (.reg [⟨some 32, .load (some 2) (.t 4), none⟩,
 ⟨some 33, .load (some 2) (.t 5), none⟩,
 ⟨some 34, .call n_gantryref04_Add [(.t 32), (.t 33)] false, none⟩,
 ⟨some 35, .load (some 2) (.t 7), none⟩,
 ⟨some 36, .call n_gantryref04_Div [(.t 34), (.t 35)] false, none⟩,
 ⟨some 31, .mov (.t 36), none⟩,
 ⟨some 37, .ext (.t 31) 0, none⟩,
 ⟨some 38, .ext (.t 31) 1, none⟩,
 ⟨some 8, .new [.v (.bool false), .z true], none⟩,
 ⟨some 9, .new [.v (.bool false), .z true], none⟩,
 ⟨none, .store 2 (.t 8) (.t 37), none⟩,
 ⟨none, .store 2 (.t 9) (.t 38), none⟩] []) <|
 .keep [1, 2, 4, 5, 6, 7, 8] [[1], [2], [4], [5], [6], [7], [8]]) <|
 .seq (.seq (.reg [⟨some 39, .load (some 2) (.t 8), none⟩,
 ⟨some 40, .load (some 2) (.t 8), none⟩,
 ⟨some 41, .call n_gantryref04_Mul [(.t 39), (.t 40)] false, none⟩,
 ⟨some 42, .load (some 2) (.t 1), none⟩,
 ⟨some 43, .call n_gantryref04_Compare [(.t 41), (.t 42)] false, none⟩,
 ⟨some 44, .bin .leq (.t 43) (.c (.v (.int .i64 0))), none⟩] []) <|
 .keep [1, 2, 4, 5, 6, 7, 8, 44] [[1], [2], [4], [5], [6], [7], [8]]) <|
 .cond (.t 44) (.seq (.reg [⟨some 45, .load (some 2) (.t 8), none⟩,
 ⟨none, .store 2 (.t 4) (.t 45), none⟩] []) <|
 .keep [1, 2, 4, 5, 6, 7] [[1], [2], [4], [5], [6], [7]]) <|
 .seq (.reg [⟨some 46, .load (some 2) (.t 8), none⟩,
 ⟨none, .store 2 (.t 5) (.t 46), none⟩] []) <|
 .keep [1, 2, 4, 5, 6, 7] [[1], [2], [4], [5], [6], [7]]) <|
 .keep [1, 2, 4, 5, 6, 7] [[1], [2], [4], [5], [6], [7]]) <|
 .keep [1, 2, 4, 5, 6, 7] [[1], [2], [4], [5], [6], [7]]
def gantryref04_Root : CF := ⟨1, .seq (.seq (.reg [⟨some 1, .box (.t 0), none⟩,
 ⟨some 2, .new [.v (.bool false), .z true], none⟩,
 ⟨some 3, .mov (.c (.v (.bool false))), none⟩] []) <|
 .keep [1, 2] [[1], [2]]) <|
 .seq (.seq (.seq (.reg [⟨some 10, .fad 0 (.t 1), none⟩,
 ⟨some 11, .load none (.t 10), none⟩] []) <|
 .keep [1, 2, 11] [[1], [2]]) <|
 .cond (.t 11) (.seq (.seq (.reg [⟨some 12, .build [.v (.bool false), .z true] [], none⟩,
 ⟨none, .store 2 (.t 2) (.t 12), none⟩,
 ⟨some 3, .mov (.c (.v (.bool false))), none⟩] []) <|
 .keep [2, 3] [[2]]) <|
 .ret) <|
 .skip) <|
 .seq (.seq (.reg [⟨some 13, .build [.v (.bool false), .z true] [], none⟩,
 ⟨some 4, .new [.v (.bool false), .z true], none⟩,
 ⟨none, .store 2 (.t 4) (.t 13), none⟩] []) <|
 .keep [1, 2, 4] [[1], [2], [4]]) <|
 .seq (.seq (.reg [⟨some 14, .fad 1 (.t 1), none⟩,
 ⟨some 15, .load none (.t 14), none⟩,
 ⟨some 16, .len (.t 15), none⟩,
 ⟨some 17, .bin .quo (.t 16) (.c (.v (.int .i64 2))), none⟩,
 ⟨some 18, .bin .add (.t 17) (.c (.v (.int .i64 1))), none⟩,
 ⟨some 19, .mksl 1 8 [.v (.int .i64 0)] (.t 18) (.t 18), none⟩,
 ⟨some 20, .lit 1 1 [.v (.int .i64 0)] [(0, (.c (.v (.int .i64 1))))] true, none⟩,
 ⟨some 21, .app 1 8 (.t 19) (.t 20) true, none⟩,
 ⟨some 22, .call n_gantryref04_normal [(.c (.v (.bool false))), (.t 21)] false, none⟩,
 ⟨some 5, .new [.v (.bool false), .z true], none⟩,
 ⟨none, .store 2 (.t 5) (.t 22), none⟩] []) <|
 .keep [1, 2, 4, 5] [[1], [2], [4], [5]]) <|
 .seq (.seq (.reg [⟨some 23, .call n_gantryref04_Of [(.c (.v (.int .i64 1)))] false, none⟩,
 ⟨some 6, .new [.v (.bool false), .z true], none⟩,
 ⟨none, .store 2 (.t 6) (.t 23), none⟩] []) <|
 .keep [1, 2, 4, 5, 6] [[1], [2], [4], [5], [6]]) <|
 .seq (.seq (.reg [⟨some 24, .call n_gantryref04_Of [(.c (.v (.int .i64 2)))] false, none⟩,
 ⟨some 7, .new [.v (.bool false), .z true], none⟩,
 ⟨none, .store 2 (.t 7) (.t 24), none⟩] []) <|
 .keep [1, 2, 4, 5, 6, 7] [[1], [2], [4], [5], [6], [7]]) <|
 .seq (.seq (.blk 0 <|
 .seq (.keep [1, 2, 4, 5, 6, 7] [[1], [2], [4], [5], [6], [7]]) <|
 .loop gantryref04_Root_l0) <|
 .keep [1, 2, 4] [[1], [2], [4]]) <|
 .seq (.seq (.reg [⟨some 47, .load (some 2) (.t 4), none⟩,
 ⟨some 48, .load (some 2) (.t 4), none⟩,
 ⟨some 49, .load (some 2) (.t 4), none⟩,
 ⟨some 50, .call n_gantryref04_Mul [(.t 48), (.t 49)] false, none⟩,
 ⟨some 51, .load (some 2) (.t 1), none⟩,
 ⟨some 52, .call n_gantryref04_Compare [(.t 50), (.t 51)] false, none⟩,
 ⟨some 53, .bin .eql (.t 52) (.c (.v (.int .i64 0))), none⟩,
 ⟨none, .store 2 (.t 2) (.t 47), none⟩,
 ⟨some 3, .mov (.t 53), none⟩] []) <|
 .keep [2, 3] [[2]]) <|
 .ret, [.cell 2 (some 2), .t 3]⟩

def gantryref04_Small_l0 : C :=
 .seq (.seq (.seq (.seq (.reg [⟨some 20, .mov (.t 5), none⟩,
 ⟨some 21, .bin .geq (.t 20) (.c (.v (.int .i64 0))), none⟩] []) <|
 .keep [1, 4, 5, 21] [[1]]) <|
 .cond (.t 21) (.skip) <|
 .seq (.keep [4] []) <|
 .exit 0) <|
 .seq (.seq (.blk 1 <|
 .seq (.seq (.reg [⟨some 24, .fad 0 (.t 1), none⟩,
 ⟨some 25, .load none (.t 24), none⟩] []) <|
 .keep [1, 4, 5, 25] [[1]]) <|
 .cond (.t 25) (.seq (.reg [⟨some 26, .mov (.t 4), none⟩,
 ⟨some 27, .bin .mul (.t 26) (.c (.v (.int .i64 1000000000))), none⟩,
 ⟨some 28, .fad 1 (.t 1), none⟩,
 ⟨some 29, .load none (.t 28), none⟩,
 ⟨some 30, .mov (.t 5), none⟩,
 ⟨some 31, .ixa 1 (.t 29) (.t 30), none⟩,
 ⟨some 32, .load none (.t 31), none⟩,
 ⟨some 33, .bin .sub (.t 27) (.t 32), none⟩,
 ⟨some 4, .mov (.t 33), none⟩] []) <|
 .keep [1, 4, 5] [[1]]) <|
 .seq (.reg [⟨some 34, .mov (.t 4), none⟩,
 ⟨some 35, .bin .mul (.t 34) (.c (.v (.int .i64 1000000000))), none⟩,
 ⟨some 36, .fad 1 (.t 1), none⟩,
 ⟨some 37, .load none (.t 36), none⟩,
 ⟨some 38, .mov (.t 5), none⟩,
 ⟨some 39, .ixa 1 (.t 37) (.t 38), none⟩,
 ⟨some 40, .load none (.t 39), none⟩,
 ⟨some 41, .bin .add (.t 35) (.t 40), none⟩,
 ⟨some 4, .mov (.t 41), none⟩] []) <|
 .keep [1, 4, 5] [[1]]) <|
 .keep [1, 4, 5] [[1]]) <|
 .seq (.reg [⟨some 22, .mov (.t 5), none⟩,
 ⟨some 23, .bin .sub (.t 22) (.c (.v (.int .i64 1))), none⟩,
 ⟨some 5, .mov (.t 23), none⟩] []) <|
 .keep [1, 4, 5] [[1]]) <|
 .keep [1, 4, 5] [[1]]
def gantryref04_Small : CF := ⟨1, .seq (.seq (.reg [⟨some 1, .box (.t 0), none⟩,
 ⟨some 2, .mov (.c (.v (.int .i64 0))), none⟩,
 ⟨some 3, .mov (.c (.v (.bool false))), none⟩] []) <|
 .keep [1] [[1]]) <|
 .seq (.seq (.seq (.reg [⟨some 6, .load (some 2) (.t 1), none⟩,
 ⟨some 7, .call n_gantryref04_Of [(.c (.v (.int .i64 9223372036854775807)))] false, none⟩,
 ⟨some 8, .call n_gantryref04_Compare [(.t 6), (.t 7)] false, none⟩,
 ⟨some 9, .bin .gtr (.t 8) (.c (.v (.int .i64 0))), none⟩,
 ⟨some 10, .mov (.t 9), none⟩,
 ⟨some 11, .load (some 2) (.t 1), (some (10, false))⟩,
 ⟨some 12, .call n_gantryref04_Of [(.c (.v (.int .i64 (-9223372036854775808))))] false, (some (10, false))⟩,
 ⟨some 13, .call n_gantryref04_Compare [(.t 11), (.t 12)] false, (some (10, false))⟩,
 ⟨some 14, .bin .lss (.t 13) (.c (.v (.int .i64 0))), (some (10, false))⟩,
 ⟨some 15, .pick (.t 10) (.c (.v (.bool true))) (.t 14), none⟩] []) <|
 .keep [1, 15] [[1]]) <|
 .cond (.t 15) (.seq (.seq (.reg [⟨some 2, .mov (.c (.v (.int .i64 0))), none⟩,
 ⟨some 3, .mov (.c (.v (.bool false))), none⟩] []) <|
 .keep [2, 3] []) <|
 .ret) <|
 .skip) <|
 .seq (.seq (.reg [⟨some 4, .mov (.c (.v (.int .i64 0))), none⟩] []) <|
 .keep [1, 4] [[1]]) <|
 .seq (.seq (.seq (.reg [⟨some 16, .fad 1 (.t 1), none⟩,
 ⟨some 17, .load none (.t 16), none⟩,
 ⟨some 18, .len (.t 17), none⟩,
 ⟨some 19, .bin .sub (.t 18) (.c (.v (.int .i64 1))), none⟩,
 ⟨some 5, .mov (.t 19), none⟩] []) <|
 .keep [1, 4, 5] [[1]]) <|
 .seq (.blk 0 <|
 .seq (.keep [1, 4, 5] [[1]]) <|
 .loop gantryref04_Small_l0) <|
 .keep [4] []) <|
 .seq (.seq (.reg [⟨some 42, .mov (.t 4), none⟩,
 ⟨some 2, .mov (.t 42), none⟩,
 ⟨some 3, .mov (.c (.v (.bool true))), none⟩] []) <|
 .keep [2, 3] []) <|
 .ret, [.t 2, .t 3]⟩

def gantryref12_divisor_l0 : C :=
 .seq (.seq (.seq (.seq (.reg [⟨some 6, .mov (.t 1), none⟩,
 ⟨some 7, .bin .neq (.t 6) (.c (.v (.int .i64 0))), none⟩] []) <|
 .keep [0, 1, 7] []) <|
 .cond (.t 7) (.skip) <|
 .seq (.keep [0] []) <|
 .exit 0) <|
 .seq (.blk 1 <|
 .seq (.seq (.reg [⟨some 8, .mov (.t 0), none⟩,
 ⟨some 9, .mov (.t 1), none⟩,
 ⟨some 10, .bin .rem (.t 8) (.t 9), none⟩,
 ⟨some 5, .mov (.t 10), none⟩] []) <|
 .keep [1, 5] []) <|
 .seq (.seq (.reg [⟨some 11, .mov (.t 1), none⟩,
 ⟨some 0, .mov (.t 11), none⟩] []) <|
 .keep [0, 5] []) <|
 .seq (.reg [⟨some 12, .mov (.t 5), none⟩,
 ⟨some 1, .mov (.t 12), none⟩] []) <|
 .keep [0, 1] []) <|
 .keep [0, 1] []) <|
 .keep [0, 1] []
def gantryref12_divisor : CF := ⟨2, .seq (.seq (.reg [⟨some 4, .mov (.c (.v (.int .i64 0))), none⟩] []) <|
 .keep [0, 1] []) <|
 .seq (.seq (.blk 0 <|
 .seq (.keep [0, 1] []) <|
 .loop gantryref12_divisor_l0) <|
 .keep [0] []) <|
 .seq (.seq (.reg [⟨some 13, .mov (.t 0), none⟩,
 ⟨some 4, .mov (.t 13), none⟩] []) <|
 .keep [4] []) <|
 .ret, [.t 4]⟩

def gantryref12_size : CF := ⟨1, .seq (.seq (.reg [⟨some 2, .mov (.c (.v (.int .i64 0))), none⟩] []) <|
 .keep [0] []) <|
 .seq (.seq (.reg [⟨some 3, .mov (.t 0), none⟩,
 ⟨some 4, .mov (.t 0), none⟩,
 ⟨some 5, .un .neg (.t 4), none⟩,
 ⟨some 6, .mx [(.t 3), (.t 5)], none⟩,
 ⟨some 2, .mov (.t 6), none⟩] []) <|
 .keep [2] []) <|
 .ret, [.t 2]⟩

def gantryref04_plus_l0 : C :=
 .seq (.seq (.seq (.seq (.reg [⟨some 9, .mov (.t 7), none⟩,
 ⟨some 10, .mov (.t 0), none⟩,
 ⟨some 11, .len (.t 10), none⟩,
 ⟨some 12, .bin .lss (.t 9) (.t 11), none⟩,
 ⟨some 13, .mov (.t 12), none⟩,
 ⟨some 14, .mov (.t 7), (some (13, false))⟩,
 ⟨some 15, .mov (.t 1), (some (13, false))⟩,
 ⟨some 16, .len (.t 15), (some (13, false))⟩,
 ⟨some 17, .bin .lss (.t 14) (.t 16), (some (13, false))⟩,
 ⟨some 18, .pick (.t 13) (.c (.v (.bool true))) (.t 17), none⟩,
 ⟨some 19, .mov (.t 18), none⟩,
 ⟨some 20, .mov (.t 6), (some (19, false))⟩,
 ⟨some 21, .bin .gtr (.t 20) (.c (.v (.int .i64 0))), (some (19, false))⟩,
 ⟨some 22, .pick (.t 19) (.c (.v (.bool true))) (.t 21), none⟩] []) <|
 .keep [0, 1, 5, 6, 7, 22] [[38]]) <|
 .cond (.t 22) (.skip) <|
 .seq (.keep [5] [[38]]) <|
 .exit 0) <|
 .seq (.seq (.blk 1 <|
 .seq (.seq (.reg [⟨some 25, .mov (.t 0), none⟩,
 ⟨some 26, .mov (.t 7), none⟩,
 ⟨some 27, .call n_gantryref04_digit [(.t 25), (.t 26)] false, none⟩,
 ⟨some 28, .mov (.t 1), none⟩,
 ⟨some 29, .mov (.t 7), none⟩,
 ⟨some 30, .call n_gantryref04_digit [(.t 28), (.t 29)] false, none⟩,
 ⟨some 31, .bin .add (.t 27) (.t 30), none⟩,
 ⟨some 32, .mov (.t 6), none⟩,
 ⟨some 33, .bin .add (.t 31) (.t 32), none⟩,
 ⟨some 8, .mov (.t 33), none⟩] []) <|
 .keep [0, 1, 5, 7, 8] [[38]]) <|
 .seq (.seq (.reg [⟨some 34, .mov (.t 5), none⟩,
 ⟨some 35, .mov (.t 8), none⟩,
 ⟨some 36, .bin .rem (.t 35) (.c (.v (.int .i64 1000000000))), none⟩,
 ⟨some 37, .lit 1 1 [.v (.int .i64 0)] [(0, (.t 36))] true, none⟩,
 ⟨some 38, .app 1 8 (.t 34) (.t 37) false, none⟩,
 ⟨some 5, .mov (.t 38), none⟩] []) <|
 .keep [0, 1, 5, 7, 8] [[38]]) <|
 .seq (.reg [⟨some 39, .mov (.t 8), none⟩,
 ⟨some 40, .bin .quo (.t 39) (.c (.v (.int .i64 1000000000))), none⟩,
 ⟨some 6, .mov (.t 40), none⟩] []) <|
 .keep [0, 1, 5, 6, 7] [[38]]) <|
 .keep [0, 1, 5, 6, 7] [[38]]) <|
 .seq (.reg [⟨some 23, .mov (.t 7), none⟩,
 ⟨some 24, .bin .add (.t 23) (.c (.v (.int .i64 1))), none⟩,
 ⟨some 7, .mov (.t 24), none⟩] []) <|
 .keep [0, 1, 5, 6, 7] [[38]]) <|
 .keep [0, 1, 5, 6, 7] [[38]]
def gantryref04_plus : CF := ⟨2, .seq (.seq (.reg [⟨some 4, .mov (.c (.z true)), none⟩] []) <|
 .keep [0, 1] []) <|
 .seq (.seq (.reg [⟨some 5, .mov (.c (.z true)), none⟩] []) <|
 .keep [0, 1, 5] [[38]]) <|
 .seq (.seq (.reg [⟨some 6, .mov (.c (.v (.int .i64 0))), none⟩] []) <|
 .keep [0, 1, 5, 6] [[38]]) <|
 .seq (.seq (.seq (.reg [⟨some 7, .mov (.c (.v (.int .i64 0))), none⟩] []) <|
 .keep [0, 1, 5, 6, 7] [[38]]) <|
 .seq (.blk 0 <|
 .seq (.keep [0, 1, 5, 6, 7] [[38]]) <|
 .loop gantryref04_plus_l0) <|
 .keep [5] [[38]]) <|
 .seq (.seq (.reg [⟨some 41, .mov (.t 5), none⟩,
 ⟨some 4, .mov (.t 41), none⟩] []) <|
 .keep [4] [[38]]) <|
 .ret, [.t 4]⟩

def gantryref04_minus_l0 : C :=
 .seq (.seq (.seq (.seq (.reg [⟨some 9, .mov (.t 7), none⟩,
 ⟨some 10, .mov (.t 0), none⟩,
 ⟨some 11, .len (.t 10), none⟩,
 ⟨some 12, .bin .lss (.t 9) (.t 11), none⟩] []) <|
 .keep [0, 1, 5, 6, 7, 12] [[32]]) <|
 .cond (.t 12) (.skip) <|
 .seq (.keep [5] [[32]]) <|
 .exit 0) <|
 .seq (.seq (.blk 1 <|
 .seq (.seq (.reg [⟨some 15, .mov (.t 0), none⟩,
 ⟨some 16, .mov (.t 7), none⟩,
 ⟨some 17, .ixa 1 (.t 15) (.t 16), none⟩,
 ⟨some 18, .load none (.t 17), none⟩,
 ⟨some 19, .mov (.t 1), none⟩,
 ⟨some 20, .mov (.t 7), none⟩,
 ⟨some 21, .call n_gantryref04_digit [(.t 19), (.t 20)] false, none⟩,
 ⟨some 22, .bin .sub (.t 18) (.t 21), none⟩,
 ⟨some 23, .mov (.t 6), none⟩,
 ⟨some 24, .bin .sub (.t 22) (.t 23), none⟩,
 ⟨some 8, .mov (.t 24), none⟩] []) <|
 .keep [0, 1, 5, 7, 8] [[32]]) <|
 .seq (.seq (.reg [⟨some 6, .mov (.c (.v (.int .i64 0))), none⟩] []) <|
 .keep [0, 1, 5, 6, 7, 8] [[32]]) <|
 .seq (.seq (.seq (.reg [⟨some 25, .mov (.t 8), none⟩,
 ⟨some 26, .bin .lss (.t 25) (.c (.v (.int .i64 0))), none⟩] []) <|
 .keep [0, 1, 5, 6, 7, 8, 26] [[32]]) <|
 .cond (.t 26) (.seq (.seq (.reg [⟨some 27, .mov (.t 8), none⟩,
 ⟨some 28, .bin .add (.t 27) (.c (.v (.int .i64 1000000000))), none⟩,
 ⟨some 8, .mov (.t 28), none⟩] []) <|
 .keep [0, 1, 5, 7, 8] [[32]]) <|
 .seq (.reg [⟨some 6, .mov (.c (.v (.int .i64 1))), none⟩] []) <|
 .keep [0, 1, 5, 6, 7, 8] [[32]]) <|
 .skip) <|
 .seq (.reg [⟨some 29, .mov (.t 5), none⟩,
 ⟨some 30, .mov (.t 8), none⟩,
 ⟨some 31, .lit 1 1 [.v (.int .i64 0)] [(0, (.t 30))] true, none⟩,
 ⟨some 32, .app 1 8 (.t 29) (.t 31) false, none⟩,
 ⟨some 5, .mov (.t 32), none⟩] []) <|
 .keep [0, 1, 5, 6, 7] [[32]]) <|
 .keep [0, 1, 5, 6, 7] [[32]]) <|
 .seq (.reg [⟨some 13, .mov (.t 7), none⟩,
 ⟨some 14, .bin .add (.t 13) (.c (.v (.int .i64 1))), none⟩,
 ⟨some 7, .mov (.t 14), none⟩] []) <|
 .keep [0, 1, 5, 6, 7] [[32]]) <|
 .keep [0, 1, 5, 6, 7] [[32]]
def gantryref04_minus : CF := ⟨2, .seq (.seq (.reg [⟨some 4, .mov (.c (.z true)), none⟩] []) <|
 .keep [0, 1] []) <|
 .seq (.seq (.reg [⟨some 5, .mov (.c (.z true)), none⟩] []) <|
 .keep [0, 1, 5] [[32]]) <|
 .seq (.seq (.reg [⟨some 6, .mov (.c (.v (.int .i64 0))), none⟩] []) <|
 .keep [0, 1, 5, 6] [[32]]) <|
 .seq (.seq (.seq (.reg [⟨some 7, .mov (.c (.v (.int .i64 0))), none⟩] []) <|
 .keep [0, 1, 5, 6, 7] [[32]]) <|
 .seq (.blk 0 <|
 .seq (.keep [0, 1, 5, 6, 7] [[32]]) <|
 .loop gantryref04_minus_l0) <|
 .keep [5] [[32]]) <|
 .seq (.seq (.reg [⟨some 33, .mov (.t 5), none⟩,
 ⟨some 4, .mov (.t 33), none⟩] []) <|
 .keep [4] [[32]]) <|
 .ret, [.t 4]⟩

def integer_two : CF := ⟨1, .seq (.seq (.reg [⟨some 2, .mov (.c (.v (.int .i64 0))), none⟩,
 ⟨some 3, .mov (.c (.v (.bool false))), none⟩] []) <|
 .keep [0] []) <|
 .seq (.seq (.seq (.reg [⟨some 4, .mov (.t 0), none⟩,
 ⟨some 5, .len (.t 4), none⟩] []) <|
 .keep [0, 5] []) <|
 .seq (.blk 0 <|
 .seq (.seq (.reg [⟨some 7, .bin .eql (.t 5) (.c (.v (.int .i64 0))), none⟩,
 ⟨some 6, .mov (.t 7), none⟩] []) <|
 .keep [0, 5, 6] []) <|
 .cond (.t 6) (.seq (.seq (.reg [⟨some 2, .mov (.c (.v (.int .i64 0))), none⟩,
 ⟨some 3, .mov (.c (.v (.bool true))), none⟩] []) <|
 .keep [2, 3] []) <|
 .ret) <|
 .seq (.seq (.reg [⟨some 9, .bin .eql (.t 5) (.c (.v (.int .i64 1))), none⟩,
 ⟨some 8, .mov (.t 9), none⟩] []) <|
 .keep [0, 5, 8] []) <|
 .cond (.t 8) (.seq (.seq (.reg [⟨some 10, .mov (.t 0), none⟩,
 ⟨some 11, .ixa 1 (.t 10) (.c (.v (.int .i64 0))), none⟩,
 ⟨some 12, .load none (.t 11), none⟩,
 ⟨some 2, .mov (.t 12), none⟩,
 ⟨some 3, .mov (.c (.v (.bool true))), none⟩] []) <|
 .keep [2, 3] []) <|
 .ret) <|
 .seq (.seq (.reg [⟨some 14, .bin .eql (.t 5) (.c (.v (.int .i64 2))), none⟩,
 ⟨some 13, .mov (.t 14), none⟩] []) <|
 .keep [0, 13] []) <|
 .cond (.t 13) (.seq (.seq (.reg [⟨some 15, .mov (.t 0), none⟩,
 ⟨some 16, .ixa 1 (.t 15) (.c (.v (.int .i64 1))), none⟩,
 ⟨some 17, .load none (.t 16), none⟩,
 ⟨some 18, .bin .mul (.t 17) (.c (.v (.int .i64 1000000000))), none⟩,
 ⟨some 19, .mov (.t 0), none⟩,
 ⟨some 20, .ixa 1 (.t 19) (.c (.v (.int .i64 0))), none⟩,
 ⟨some 21, .load none (.t 20), none⟩,
 ⟨some 22, .bin .add (.t 18) (.t 21), none⟩,
 ⟨some 2, .mov (.t 22), none⟩,
 ⟨some 3, .mov (.c (.v (.bool true))), none⟩] []) <|
 .keep [2, 3] []) <|
 .ret) <|
 .skip) <|
 .keep [] []) <|
 .seq (.seq (.reg [⟨some 2, .mov (.c (.v (.int .i64 0))), none⟩,
 ⟨some 3, .mov (.c (.v (.bool false))), none⟩] []) <|
 .keep [2, 3] []) <|
 .ret, [.t 2, .t 3]⟩

def integer_divide : CF := ⟨2, .seq (.seq (.reg [⟨some 4, .new [.v (.bool false), .z true], none⟩,
 ⟨some 5, .new [.v (.bool false), .z true], none⟩] []) <|
 .keep [0, 1, 4, 5] [[4], [5]]) <|
 .seq (.seq (.seq (.reg [⟨some 15, .mov (.t 0), none⟩,
 ⟨some 16, .call n_integer_two [(.t 15)] false, none⟩,
 ⟨some 14, .mov (.t 16), none⟩,
 ⟨some 17, .ext (.t 14) 0, none⟩,
 ⟨some 18, .ext (.t 14) 1, none⟩,
 ⟨some 6, .mov (.t 17), none⟩,
 ⟨some 7, .mov (.t 18), none⟩] []) <|
 .keep [0, 1, 4, 5, 6, 7] [[4], [5]]) <|
 .seq (.seq (.reg [⟨some 19, .mov (.t 7), none⟩] []) <|
 .keep [0, 1, 4, 5, 6, 19] [[4], [5]]) <|
 .cond (.t 19) (.seq (.seq (.reg [⟨some 21, .mov (.t 1), none⟩,
 ⟨some 22, .call n_integer_two [(.t 21)] false, none⟩,
 ⟨some 20, .mov (.t 22), none⟩,
 ⟨some 23, .ext (.t 20) 0, none⟩,
 ⟨some 24, .ext (.t 20) 1, none⟩,
 ⟨some 8, .mov (.t 23), none⟩,
 ⟨some 9, .mov (.t 24), none⟩] []) <|
 .keep [0, 1, 4, 5, 6, 8, 9] [[4], [5]]) <|
 .seq (.seq (.reg [⟨some 25, .mov (.t 9), none⟩] []) <|
 .keep [0, 1, 4, 5, 6, 8, 25] [[4], [5]]) <|
 .cond (.t 25) (.seq (.seq (.reg [⟨some 26, .mov (.t 6), none⟩,
 ⟨some 27, .mov (.t 8), none⟩,
 ⟨some 28, .bin .quo (.t 26) (.t 27), none⟩,
 ⟨some 29, .conv (.int .u64) (.t 28), none⟩,
 ⟨some 30, .call n_integer_unsigned [(.c (.v (.bool false))), (.t 29)] false, none⟩,
 ⟨some 31, .mov (.t 6), none⟩,
 ⟨some 32, .mov (.t 8), none⟩,
 ⟨some 33, .bin .rem (.t 31) (.t 32), none⟩,
 ⟨some 34, .conv (.int .u64) (.t 33), none⟩,
 ⟨some 35, .call n_integer_unsigned [(.c (.v (.bool false))), (.t 34)] false, none⟩,
 ⟨none, .store 2 (.t 4) (.t 30), none⟩,
 ⟨none, .store 2 (.t 5) (.t 35), none⟩] []) <|
 .keep [4, 5] [[4], [5]]) <|
 .ret) <|
 .skip) <|
 .skip) <|
 .seq (.seq (.seq (.reg [⟨some 36, .mov (.t 0), none⟩,
 ⟨some 37, .mov (.t 1), none⟩,
 ⟨some 38, .call n_integer_compare [(.t 36), (.t 37)] false, none⟩,
 ⟨some 39, .bin .lss (.t 38) (.c (.v (.int .i64 0))), none⟩] []) <|
 .keep [0, 1, 4, 5, 39] [[4], [5]]) <|
 .cond (.t 39) (.seq (.seq (.reg [⟨some 40, .build [.v (.bool false), .z true] [], none⟩,
 ⟨some 41, .mov (.t 0), none⟩,
 ⟨some 42, .call n_integer_of [(.c (.v (.bool false))), (.t 41)] false, none⟩,
 ⟨none, .store 2 (.t 4) (.t 40), none⟩,
 ⟨none, .store 2 (.t 5) (.t 42), none⟩] []) <|
 .keep [4, 5] [[4], [5]]) <|
 .ret) <|
 .skip) <|
 .seq (.seq (.seq (.reg [⟨some 43, .mov (.t 1), none⟩,
 ⟨some 44, .len (.t 43), none⟩,
 ⟨some 45, .bin .eql (.t 44) (.c (.v (.int .i64 1))), none⟩] []) <|
 .keep [0, 1, 4, 5, 45] [[4], [5]]) <|
 .cond (.t 45) (.seq (.seq (.reg [⟨some 47, .mov (.t 0), none⟩,
 ⟨some 48, .mov (.t 1), none⟩,
 ⟨some 49, .ixa 1 (.t 48) (.c (.v (.int .i64 0))), none⟩,
 ⟨some 50, .load none (.t 49), none⟩,
 ⟨some 51, .call n_integer_short [(.t 47), (.t 50)] false, none⟩,
 ⟨some 46, .mov (.t 51), none⟩,
 ⟨some 52, .ext (.t 46) 0, none⟩,
 ⟨some 53, .ext (.t 46) 1, none⟩,
 ⟨some 10, .mov (.t 52), none⟩,
 ⟨some 11, .mov (.t 53), none⟩] []) <|
 .keep [4, 5, 10, 11] [[4], [5]]) <|
 .seq (.seq (.reg [⟨some 54, .mov (.t 10), none⟩,
 ⟨some 55, .call n_integer_of [(.c (.v (.bool false))), (.t 54)] false, none⟩,
 ⟨some 56, .mov (.t 11), none⟩,
 ⟨some 57, .conv (.int .u64) (.t 56), none⟩,
 ⟨some 58, .call n_integer_unsigned [(.c (.v (.bool false))), (.t 57)] false, none⟩,
 ⟨none, .store 2 (.t 4) (.t 55), none⟩,
 ⟨none, .store 2 (.t 5) (.t 58), none⟩] []) <|
 .keep [4, 5] [[4], [5]]) <|
 .ret) <|
 .skip) <|
 .seq (.seq (.reg [⟨some 60, .mov (.t 0), none⟩,
 ⟨some 61, .mov (.t 1), none⟩,
 ⟨some 62, .call n_integer_long [(.t 60), (.t 61)] false, none⟩,
 ⟨some 59, .mov (.t 62), none⟩,
 ⟨some 63, .ext (.t 59) 0, none⟩,
 ⟨some 64, .ext (.t 59) 1, none⟩,
 ⟨some 12, .mov (.t 63), none⟩,
 ⟨some 13, .mov (.t 64), none⟩] []) <|
 .keep [4, 5, 12, 13] [[4], [5]]) <|
 .seq (.seq (.reg [⟨some 65, .mov (.t 12), none⟩,
 ⟨some 66, .call n_integer_of [(.c (.v (.bool false))), (.t 65)] false, none⟩,
 ⟨some 67, .mov (.t 13), none⟩,
 ⟨some 68, .call n_integer_of [(.c (.v (.bool false))), (.t 67)] false, none⟩,
 ⟨none, .store 2 (.t 4) (.t 66), none⟩,
 ⟨none, .store 2 (.t 5) (.t 68), none⟩] []) <|
 .keep [4, 5] [[4], [5]]) <|
 .ret, [.cell 4 (some 2), .cell 5 (some 2)]⟩

def integer_plus_l0 : C :=
 .seq (.seq (.seq (.reg [⟨some 24, .bin .lss (.t 23) (.t 22), none⟩] []) <|
 .keep [0, 1, 5, 6, 21, 22, 23, 24] [[20]]) <|
 .seq (.cond (.t 24) (.skip) <|
 .seq (.keep [0, 5, 6] [[20]]) <|
 .exit 0) <|
 .seq (.seq (.blk 1 <|
 .seq (.seq (.reg [⟨some 25, .mov (.t 23), none⟩,
 ⟨some 26, .ixa 1 (.t 21) (.t 23), none⟩,
 ⟨some 27, .load none (.t 26), none⟩,
 ⟨some 7, .mov (.t 25), none⟩,
 ⟨some 8, .mov (.t 27), none⟩] []) <|
 .keep [0, 1, 5, 6, 7, 8, 21, 22, 23] [[20]]) <|
 .seq (.seq (.reg [⟨some 28, .mov (.t 8), none⟩,
 ⟨some 29, .mov (.t 6), none⟩,
 ⟨some 30, .bin .add (.t 28) (.t 29), none⟩,
 ⟨some 9, .mov (.t 30), none⟩] []) <|
 .keep [0, 1, 5, 7, 9, 21, 22, 23] [[20]]) <|
 .seq (.seq (.seq (.reg [⟨some 31, .mov (.t 7), none⟩,
 ⟨some 32, .mov (.t 1), none⟩,
 ⟨some 33, .len (.t 32), none⟩,
 ⟨some 34, .bin .lss (.t 31) (.t 33), none⟩] []) <|
 .keep [0, 1, 5, 7, 9, 21, 22, 23, 34] [[20]]) <|
 .cond (.t 34) (.seq (.reg [⟨some 35, .mov (.t 9), none⟩,
 ⟨some 36, .mov (.t 1), none⟩,
 ⟨some 37, .mov (.t 7), none⟩,
 ⟨some 38, .ixa 1 (.t 36) (.t 37), none⟩,
 ⟨some 39, .load none (.t 38), none⟩,
 ⟨some 40, .bin .add (.t 35) (.t 39), none⟩,
 ⟨some 9, .mov (.t 40), none⟩] []) <|
 .keep [0, 1, 5, 7, 9, 21, 22, 23] [[20]]) <|
 .skip) <|
 .seq (.seq (.reg [⟨some 6, .mov (.c (.v (.int .i64 0))), none⟩] []) <|
 .keep [0, 1, 5, 6, 7, 9, 21, 22, 23] [[20]]) <|
 .seq (.seq (.seq (.reg [⟨some 41, .mov (.t 9), none⟩,
 ⟨some 42, .bin .geq (.t 41) (.c (.v (.int .i64 1000000000))), none⟩] []) <|
 .keep [0, 1, 5, 6, 7, 9, 21, 22, 23, 42] [[20]]) <|
 .cond (.t 42) (.seq (.reg [⟨some 43, .mov (.t 9), none⟩,
 ⟨some 44, .bin .sub (.t 43) (.c (.v (.int .i64 1000000000))), none⟩,
 ⟨some 9, .mov (.t 44), none⟩,
 ⟨some 6, .mov (.c (.v (.int .i64 1))), none⟩] []) <|
 .keep [0, 1, 5, 6, 7, 9, 21, 22, 23] [[20]]) <|
 .skip) <|
 .seq (.reg [⟨some 45, .mov (.t 5), none⟩,
 ⟨some 46, .mov (.t 7), none⟩,
 ⟨some 47, .mov (.t 9), none⟩,
 ⟨some 48, .ixa 1 (.t 45) (.t 46), none⟩,
 ⟨none, .store 1 (.t 48) (.t 47), none⟩] []) <|
 .keep [0, 1, 5, 6, 21, 22, 23] [[20]]) <|
 .keep [0, 1, 5, 6, 21, 22, 23] [[20]]) <|
 .seq (.reg [⟨some 49, .bin .add (.t 23) (.c (.v (.int .i64 1))), none⟩,
 ⟨some 23, .mov (.t 49), none⟩] []) <|
 .keep [0, 1, 5, 6, 21, 22, 23] [[20]]) <|
 .keep [0, 1, 5, 6, 21, 22, 23] [[20]]
def integer_plus : CF := ⟨2, .seq (.seq (.reg [⟨some 4, .mov (.c (.z true)), none⟩] []) <|
 .keep [0, 1] []) <|
 .seq (.seq (.seq (.reg [⟨some 10, .mov (.t 0), none⟩,
 ⟨some 11, .len (.t 10), none⟩,
 ⟨some 12, .mov (.t 1), none⟩,
 ⟨some 13, .len (.t 12), none⟩,
 ⟨some 14, .bin .lss (.t 11) (.t 13), none⟩] []) <|
 .keep [0, 1, 14] []) <|
 .cond (.t 14) (.seq (.reg [⟨some 15, .mov (.t 1), none⟩,
 ⟨some 16, .mov (.t 0), none⟩,
 ⟨some 0, .mov (.t 15), none⟩,
 ⟨some 1, .mov (.t 16), none⟩] []) <|
 .keep [0, 1] []) <|
 .skip) <|
 .seq (.seq (.reg [⟨some 17, .mov (.t 0), none⟩,
 ⟨some 18, .len (.t 17), none⟩,
 ⟨some 19, .bin .add (.t 18) (.c (.v (.int .i64 1))), none⟩,
 ⟨some 20, .mksl 1 8 [.v (.int .i64 0)] (.t 19) (.t 19), none⟩,
 ⟨some 5, .mov (.t 20), none⟩] []) <|
 .keep [0, 1, 5] [[20]]) <|
 .seq (.seq (.reg [⟨some 6, .mov (.c (.v (.int .i64 0))), none⟩] []) <|
 .keep [0, 1, 5, 6] [[20]]) <|
 .seq (.seq (.seq (.reg [⟨some 21, .mov (.t 0), none⟩,
 ⟨some 22, .len (.t 21), none⟩,
 ⟨some 23, .mov (.c (.v (.int .i64 0))), none⟩] []) <|
 .keep [0, 1, 5, 6, 21, 22, 23] [[20]]) <|
 .seq (.blk 0 <|
 .seq (.keep [0, 1, 5, 6, 21, 22, 23] [[20]]) <|
 .loop integer_plus_l0) <|
 .keep [0, 5, 6] [[20]]) <|
 .seq (.seq (.reg [⟨some 50, .mov (.t 5), none⟩,
 ⟨some 51, .mov (.t 0), none⟩,
 ⟨some 52, .len (.t 51), none⟩,
 ⟨some 53, .mov (.t 6), none⟩,
 ⟨some 54, .ixa 1 (.t 50) (.t 52), none⟩,
 ⟨none, .store 1 (.t 54) (.t 53), none⟩] []) <|
 .keep [5] [[20]]) <|
 .seq (.seq (.reg [⟨some 55, .mov (.t 5), none⟩,
 ⟨some 4, .mov (.t 55), none⟩] []) <|
 .keep [4] [[20]]) <|
 .ret, [.t 4]⟩

def integer_minus_l0 : C :=
 .seq (.seq (.seq (.reg [⟨some 16, .bin .lss (.t 15) (.t 14), none⟩] []) <|
 .keep [1, 5, 14, 15, 16] [[9]]) <|
 .seq (.cond (.t 16) (.skip) <|
 .seq (.keep [5] [[9]]) <|
 .exit 0) <|
 .seq (.seq (.blk 1 <|
 .seq (.seq (.reg [⟨some 17, .mov (.t 15), none⟩,
 ⟨some 6, .mov (.t 17), none⟩] []) <|
 .keep [1, 5, 6, 14, 15] [[9]]) <|
 .seq (.seq (.seq (.reg [⟨some 18, .mov (.t 6), none⟩,
 ⟨some 19, .mov (.t 1), none⟩,
 ⟨some 20, .len (.t 19), none⟩,
 ⟨some 21, .bin .lss (.t 18) (.t 20), none⟩] []) <|
 .keep [1, 5, 6, 14, 15, 21] [[9]]) <|
 .cond (.t 21) (.seq (.reg [⟨some 22, .mov (.t 5), none⟩,
 ⟨some 23, .mov (.t 6), none⟩,
 ⟨some 24, .ixa 1 (.t 22) (.t 23), none⟩,
 ⟨some 25, .load none (.t 24), none⟩,
 ⟨some 26, .mov (.t 1), none⟩,
 ⟨some 27, .mov (.t 6), none⟩,
 ⟨some 28, .ixa 1 (.t 26) (.t 27), none⟩,
 ⟨some 29, .load none (.t 28), none⟩,
 ⟨some 30, .bin .sub (.t 25) (.t 29), none⟩,
 ⟨some 31, .ixa 1 (.t 22) (.t 23), none⟩,
 ⟨none, .store 1 (.t 31) (.t 30), none⟩] []) <|
 .keep [1, 5, 6, 14, 15] [[9]]) <|
 .skip) <|
 .seq (.seq (.reg [⟨some 32, .mov (.t 5), none⟩,
 ⟨some 33, .mov (.t 6), none⟩,
 ⟨some 34, .ixa 1 (.t 32) (.t 33), none⟩,
 ⟨some 35, .load none (.t 34), none⟩,
 ⟨some 36, .bin .lss (.t 35) (.c (.v (.int .i64 0))), none⟩] []) <|
 .keep [1, 5, 6, 14, 15, 36] [[9]]) <|
 .cond (.t 36) (.seq (.seq (.reg [⟨some 37, .mov (.t 5), none⟩,
 ⟨some 38, .mov (.t 6), none⟩,
 ⟨some 39, .ixa 1 (.t 37) (.t 38), none⟩,
 ⟨some 40, .load none (.t 39), none⟩,
 ⟨some 41, .bin .add (.t 40) (.c (.v (.int .i64 1000000000))), none⟩,
 ⟨some 42, .ixa 1 (.t 37) (.t 38), none⟩,
 ⟨none, .store 1 (.t 42) (.t 41), none⟩] []) <|
 .keep [1, 5, 6, 14, 15] [[9]]) <|
 .seq (.reg [⟨some 43, .mov (.t 5), none⟩,
 ⟨some 44, .mov (.t 6), none⟩,
 ⟨some 45, .bin .add (.t 44) (.c (.v (.int .i64 1))), none⟩,
 ⟨some 46, .ixa 1 (.t 43) (.t 45), none⟩,
 ⟨some 47, .load none (.t 46), none⟩,
 ⟨some 48, .bin .sub (.t 47) (.c (.v (.int .i64 1))), none⟩,
 ⟨some 49, .ixa 1 (.t 43) (.t 45), none⟩,
 ⟨none, .store 1 (.t 49) (.t 48), none⟩] []) <|
 .keep [1, 5, 14, 15] [[9]]) <|
 .skip) <|
 .keep [1, 5, 14, 15] [[9]]) <|
 .seq (.reg [⟨some 50, .bin .add (.t 15) (.c (.v (.int .i64 1))), none⟩,
 ⟨some 15, .mov (.t 50), none⟩] []) <|
 .keep [1, 5, 14, 15] [[9]]) <|
 .keep [1, 5, 14, 15] [[9]]
def integer_minus : CF := ⟨2, .seq (.seq (.reg [⟨some 4, .mov (.c (.z true)), none⟩] []) <|
 .keep [0, 1] []) <|
 .seq (.seq (.reg [⟨some 7, .mov (.t 0), none⟩,
 ⟨some 8, .len (.t 7), none⟩,
 ⟨some 9, .mksl 1 8 [.v (.int .i64 0)] (.t 8) (.t 8), none⟩,
 ⟨some 5, .mov (.t 9), none⟩] []) <|
 .keep [0, 1, 5] [[9]]) <|
 .seq (.seq (.reg [⟨some 10, .mov (.t 5), none⟩,
 ⟨some 11, .mov (.t 0), none⟩,
 ⟨some 12, .cpy 1 (.t 10) (.t 11), none⟩] []) <|
 .keep [1, 5] [[9]]) <|
 .seq (.seq (.seq (.reg [⟨some 13, .mov (.t 5), none⟩,
 ⟨some 14, .len (.t 13), none⟩,
 ⟨some 15, .mov (.c (.v (.int .i64 0))), none⟩] []) <|
 .keep [1, 5, 14, 15] [[9]]) <|
 .seq (.blk 0 <|
 .seq (.keep [1, 5, 14, 15] [[9]]) <|
 .loop integer_minus_l0) <|
 .keep [5] [[9]]) <|
 .seq (.seq (.reg [⟨some 51, .mov (.t 5), none⟩,
 ⟨some 4, .mov (.t 51), none⟩] []) <|
 .keep [4] [[9]]) <|
 .ret, [.t 4]⟩

def gantryref04_tiny : CF := ⟨1, .seq (.seq (.reg [⟨some 2, .mov (.c (.v (.int .i64 0))), none⟩] []) <|
 .keep [0] []) <|
 .seq (.seq (.reg [⟨some 3, .mov (.t 0), none⟩,
 ⟨some 4, .call n_gantryref04_digit [(.t 3), (.c (.v (.int .i64 1)))] false, none⟩,
 ⟨some 5, .bin .mul (.t 4) (.c (.v (.int .i64 1000000000))), none⟩,
 ⟨some 6, .mov (.t 0), none⟩,
 ⟨some 7, .call n_gantryref04_digit [(.t 6), (.c (.v (.int .i64 0)))] false, none⟩,
 ⟨some 8, .bin .add (.t 5) (.t 7), none⟩,
 ⟨some 2, .mov (.t 8), none⟩] []) <|
 .keep [2] []) <|
 .ret, [.t 2]⟩

def gantryref04_divided_l0 : C :=
 .seq (.seq (.seq (.seq (.reg [⟨some 64, .mov (.t 12), none⟩,
 ⟨some 65, .mov (.t 13), none⟩,
 ⟨some 66, .bin .lss (.t 64) (.t 65), none⟩] []) <|
 .keep [0, 1, 8, 9, 10, 12, 13, 66] [[42]]) <|
 .cond (.t 66) (.skip) <|
 .seq (.keep [0, 1, 8, 9, 10, 12] [[42]]) <|
 .exit 2) <|
 .seq (.blk 3 <|
 .seq (.seq (.reg [⟨some 67, .mov (.t 12), none⟩,
 ⟨some 68, .mov (.t 13), none⟩,
 ⟨some 69, .bin .add (.t 67) (.t 68), none⟩,
 ⟨some 70, .bin .add (.t 69) (.c (.v (.int .i64 1))), none⟩,
 ⟨some 71, .bin .quo (.t 70) (.c (.v (.int .i64 2))), none⟩,
 ⟨some 14, .mov (.t 71), none⟩] []) <|
 .keep [0, 1, 8, 9, 10, 12, 13, 14] [[42]]) <|
 .seq (.seq (.reg [⟨some 72, .mov (.t 1), none⟩,
 ⟨some 73, .mov (.t 14), none⟩,
 ⟨some 74, .call n_gantryref04_times [(.t 72), (.t 73)] false, none⟩,
 ⟨some 75, .mov (.t 9), none⟩,
 ⟨some 76, .call n_gantryref04_compared [(.t 74), (.t 75)] false, none⟩,
 ⟨some 77, .bin .leq (.t 76) (.c (.v (.int .i64 0))), none⟩] []) <|
 .keep [0, 1, 8, 9, 10, 12, 13, 14, 77] [[42]]) <|
 .cond (.t 77) (.seq (.reg [⟨some 78, .mov (.t 14), none⟩,
 ⟨some 12, .mov (.t 78), none⟩] []) <|
 .keep [0, 1, 8, 9, 10, 12, 13] [[42]]) <|
 .seq (.reg [⟨some 79, .mov (.t 14), none⟩,
 ⟨some 80, .bin .sub (.t 79) (.c (.v (.int .i64 1))), none⟩,
 ⟨some 13, .mov (.t 80), none⟩] []) <|
 .keep [0, 1, 8, 9, 10, 12, 13] [[42]]) <|
 .keep [0, 1, 8, 9, 10, 12, 13] [[42]]) <|
 .keep [0, 1, 8, 9, 10, 12, 13] [[42]]
def gantryref04_divided_l1 : C :=
 .seq (.seq (.seq (.seq (.reg [⟨some 46, .mov (.t 10), none⟩,
 ⟨some 47, .bin .geq (.t 46) (.c (.v (.int .i64 0))), none⟩] []) <|
 .keep [0, 1, 8, 9, 10, 47] [[42]]) <|
 .cond (.t 47) (.skip) <|
 .seq (.keep [8, 9] [[42]]) <|
 .exit 0) <|
 .seq (.seq (.blk 1 <|
 .seq (.seq (.reg [⟨some 50, .mov (.t 0), none⟩,
 ⟨some 51, .mov (.t 10), none⟩,
 ⟨some 52, .ixa 1 (.t 50) (.t 51), none⟩,
 ⟨some 53, .load none (.t 52), none⟩,
 ⟨some 54, .lit 1 1 [.v (.int .i64 0)] [(0, (.t 53))] false, none⟩,
 ⟨some 55, .mov (.t 9), none⟩,
 ⟨some 56, .app 1 8 (.t 54) (.t 55) true, none⟩,
 ⟨some 57, .call n_gantryref04_normal [(.c (.v (.bool false))), (.t 56)] false, none⟩,
 ⟨some 11, .new [.v (.bool false), .z true], none⟩,
 ⟨none, .store 2 (.t 11) (.t 57), none⟩] []) <|
 .keep [0, 1, 8, 10, 11] [[11], [42]]) <|
 .seq (.seq (.reg [⟨some 58, .fad 1 (.t 11), none⟩,
 ⟨some 59, .load none (.t 58), none⟩,
 ⟨some 9, .mov (.t 59), none⟩] []) <|
 .keep [0, 1, 8, 9, 10] [[42]]) <|
 .seq (.seq (.reg [⟨some 12, .mov (.c (.v (.int .i64 0))), none⟩] []) <|
 .keep [0, 1, 8, 9, 10, 12] [[42]]) <|
 .seq (.seq (.reg [⟨some 13, .mov (.c (.v (.int .i64 999999999))), none⟩] []) <|
 .keep [0, 1, 8, 9, 10, 12, 13] [[42]]) <|
 .seq (.seq (.seq (.reg [⟨some 60, .mov (.t 9), none⟩,
 ⟨some 61, .mov (.t 1), none⟩,
 ⟨some 62, .call n_gantryref04_compared [(.t 60), (.t 61)] false, none⟩,
 ⟨some 63, .bin .lss (.t 62) (.c (.v (.int .i64 0))), none⟩] []) <|
 .keep [0, 1, 8, 9, 10, 12, 13, 63] [[42]]) <|
 .cond (.t 63) (.seq (.reg [⟨some 13, .mov (.c (.v (.int .i64 0))), none⟩] []) <|
 .keep [0, 1, 8, 9, 10, 12, 13] [[42]]) <|
 .skip) <|
 .seq (.seq (.blk 2 <|
 .seq (.keep [0, 1, 8, 9, 10, 12, 13] [[42]]) <|
 .loop gantryref04_divided_l0) <|
 .keep [0, 1, 8, 9, 10, 12] [[42]]) <|
 .seq (.seq (.reg [⟨some 81, .mov (.t 9), none⟩,
 ⟨some 82, .mov (.t 1), none⟩,
 ⟨some 83, .mov (.t 12), none⟩,
 ⟨some 84, .call n_gantryref04_times [(.t 82), (.t 83)] false, none⟩,
 ⟨some 85, .call n_gantryref04_minus [(.t 81), (.t 84)] false, none⟩,
 ⟨some 86, .call n_gantryref04_normal [(.c (.v (.bool false))), (.t 85)] false, none⟩,
 ⟨some 15, .new [.v (.bool false), .z true], none⟩,
 ⟨none, .store 2 (.t 15) (.t 86), none⟩] []) <|
 .keep [0, 1, 8, 10, 12, 15] [[15], [42]]) <|
 .seq (.seq (.reg [⟨some 87, .mov (.t 8), none⟩,
 ⟨some 88, .mov (.t 10), none⟩,
 ⟨some 89, .mov (.t 12), none⟩,
 ⟨some 90, .ixa 1 (.t 87) (.t 88), none⟩,
 ⟨none, .store 1 (.t 90) (.t 89), none⟩] []) <|
 .keep [0, 1, 8, 10, 15] [[15], [42]]) <|
 .seq (.reg [⟨some 91, .fad 1 (.t 15), none⟩,
 ⟨some 92, .load none (.t 91), none⟩,
 ⟨some 9, .mov (.t 92), none⟩] []) <|
 .keep [0, 1, 8, 9, 10] [[42]]) <|
 .keep [0, 1, 8, 9, 10] [[42]]) <|
 .seq (.reg [⟨some 48, .mov (.t 10), none⟩,
 ⟨some 49, .bin .sub (.t 48) (.c (.v (.int .i64 1))), none⟩,
 ⟨some 10, .mov (.t 49), none⟩] []) <|
 .keep [0, 1, 8, 9, 10] [[42]]) <|
 .keep [0, 1, 8, 9, 10] [[42]]
def gantryref04_divided : CF := ⟨2, .seq (.seq (.reg [⟨some 4, .mov (.c (.z true)), none⟩,
 ⟨some 5, .mov (.c (.z true)), none⟩] []) <|
 .keep [0, 1] []) <|
 .seq (.seq (.seq (.reg [⟨some 16, .mov (.t 0), none⟩,
 ⟨some 17, .len (.t 16), none⟩,
 ⟨some 18, .bin .leq (.t 17) (.c (.v (.int .i64 2))), none⟩,
 ⟨some 19, .mov (.t 18), none⟩,
 ⟨some 20, .mov (.t 1), (some (19, true))⟩,
 ⟨some 21, .len (.t 20), (some (19, true))⟩,
 ⟨some 22, .bin .leq (.t 21) (.c (.v (.int .i64 2))), (some (19, true))⟩,
 ⟨some 23, .pick (.t 19) (.t 22) (.c (.v (.bool false))), none⟩] []) <|
 .keep [0, 1, 23] []) <|
 .cond (.t 23) (.seq (.seq (.reg [⟨some 24, .mov (.t 0), none⟩,
 ⟨some 25, .call n_gantryref04_tiny [(.t 24)] false, none⟩,
 ⟨some 26, .mov (.t 1), none⟩,
 ⟨some 27, .call n_gantryref04_tiny [(.t 26)] false, none⟩,
 ⟨some 28, .bin .quo (.t 25) (.t 27), none⟩,
 ⟨some 29, .call n_gantryref04_Of [(.t 28)] false, none⟩,
 ⟨some 6, .new [.v (.bool false), .z true], none⟩,
 ⟨none, .store 2 (.t 6) (.t 29), none⟩] []) <|
 .keep [0, 1, 6] [[6]]) <|
 .seq (.seq (.reg [⟨some 30, .mov (.t 0), none⟩,
 ⟨some 31, .call n_gantryref04_tiny [(.t 30)] false, none⟩,
 ⟨some 32, .mov (.t 1), none⟩,
 ⟨some 33, .call n_gantryref04_tiny [(.t 32)] false, none⟩,
 ⟨some 34, .bin .rem (.t 31) (.t 33), none⟩,
 ⟨some 35, .call n_gantryref04_Of [(.t 34)] false, none⟩,
 ⟨some 7, .new [.v (.bool false), .z true], none⟩,
 ⟨none, .store 2 (.t 7) (.t 35), none⟩] []) <|
 .keep [6, 7] [[6], [7]]) <|
 .seq (.seq (.reg [⟨some 36, .fad 1 (.t 6), none⟩,
 ⟨some 37, .load none (.t 36), none⟩,
 ⟨some 38, .fad 1 (.t 7), none⟩,
 ⟨some 39, .load none (.t 38), none⟩,
 ⟨some 4, .mov (.t 37), none⟩,
 ⟨some 5, .mov (.t 39), none⟩] []) <|
 .keep [4, 5] [[42]]) <|
 .ret) <|
 .skip) <|
 .seq (.seq (.reg [⟨some 40, .mov (.t 0), none⟩,
 ⟨some 41, .len (.t 40), none⟩,
 ⟨some 42, .mksl 1 8 [.v (.int .i64 0)] (.t 41) (.t 41), none⟩,
 ⟨some 8, .mov (.t 42), none⟩] []) <|
 .keep [0, 1, 8] [[42]]) <|
 .seq (.seq (.reg [⟨some 9, .mov (.c (.z true)), none⟩] []) <|
 .keep [0, 1, 8, 9] [[42]]) <|
 .seq (.seq (.seq (.reg [⟨some 43, .mov (.t 0), none⟩,
 ⟨some 44, .len (.t 43), none⟩,
 ⟨some 45, .bin .sub (.t 44) (.c (.v (.int .i64 1))), none⟩,
 ⟨some 10, .mov (.t 45), none⟩] []) <|
 .keep [0, 1, 8, 9, 10] [[42]]) <|
 .seq (.blk 0 <|
 .seq (.keep [0, 1, 8, 9, 10] [[42]]) <|
 .loop gantryref04_divided_l1) <|
 .keep [8, 9] [[42]]) <|
 .seq (.seq (.reg [⟨some 93, .mov (.t 8), none⟩,
 ⟨some 94, .mov (.t 9), none⟩,
 ⟨some 4, .mov (.t 93), none⟩,
 ⟨some 5, .mov (.t 94), none⟩] []) <|
 .keep [4, 5] [[42]]) <|
 .ret, [.t 4, .t 5]⟩

def gantryref04_digit : CF := ⟨2, .seq (.seq (.reg [⟨some 4, .mov (.c (.v (.int .i64 0))), none⟩] []) <|
 .keep [0, 1] []) <|
 .seq (.seq (.seq (.reg [⟨some 5, .mov (.t 1), none⟩,
 ⟨some 6, .mov (.t 0), none⟩,
 ⟨some 7, .len (.t 6), none⟩,
 ⟨some 8, .bin .lss (.t 5) (.t 7), none⟩] []) <|
 .keep [0, 1, 8] []) <|
 .cond (.t 8) (.seq (.seq (.reg [⟨some 9, .mov (.t 0), none⟩,
 ⟨some 10, .mov (.t 1), none⟩,
 ⟨some 11, .ixa 1 (.t 9) (.t 10), none⟩,
 ⟨some 12, .load none (.t 11), none⟩,
 ⟨some 4, .mov (.t 12), none⟩] []) <|
 .keep [4] []) <|
 .ret) <|
 .skip) <|
 .seq (.seq (.reg [⟨some 4, .mov (.c (.v (.int .i64 0))), none⟩] []) <|
 .keep [4] []) <|
 .ret, [.t 4]⟩

def integer_short_l0 : C :=
 .seq (.seq (.seq (.seq (.reg [⟨some 16, .mov (.t 8), none⟩,
 ⟨some 17, .bin .geq (.t 16) (.c (.v (.int .i64 0))), none⟩] []) <|
 .keep [0, 1, 6, 7, 8, 17] [[12]]) <|
 .cond (.t 17) (.skip) <|
 .seq (.keep [6, 7] [[12]]) <|
 .exit 0) <|
 .seq (.seq (.blk 1 <|
 .seq (.seq (.reg [⟨some 20, .mov (.t 7), none⟩,
 ⟨some 21, .bin .mul (.t 20) (.c (.v (.int .i64 1000000000))), none⟩,
 ⟨some 22, .mov (.t 0), none⟩,
 ⟨some 23, .mov (.t 8), none⟩,
 ⟨some 24, .ixa 1 (.t 22) (.t 23), none⟩,
 ⟨some 25, .load none (.t 24), none⟩,
 ⟨some 26, .bin .add (.t 21) (.t 25), none⟩,
 ⟨some 9, .mov (.t 26), none⟩] []) <|
 .keep [0, 1, 6, 8, 9] [[12]]) <|
 .seq (.reg [⟨some 27, .mov (.t 6), none⟩,
 ⟨some 28, .mov (.t 8), none⟩,
 ⟨some 29, .mov (.t 9), none⟩,
 ⟨some 30, .mov (.t 1), none⟩,
 ⟨some 31, .bin .quo (.t 29) (.t 30), none⟩,
 ⟨some 32, .mov (.t 9), none⟩,
 ⟨some 33, .mov (.t 1), none⟩,
 ⟨some 34, .bin .rem (.t 32) (.t 33), none⟩,
 ⟨some 35, .ixa 1 (.t 27) (.t 28), none⟩,
 ⟨none, .store 1 (.t 35) (.t 31), none⟩,
 ⟨some 7, .mov (.t 34), none⟩] []) <|
 .keep [0, 1, 6, 7, 8] [[12]]) <|
 .keep [0, 1, 6, 7, 8] [[12]]) <|
 .seq (.reg [⟨some 18, .mov (.t 8), none⟩,
 ⟨some 19, .bin .sub (.t 18) (.c (.v (.int .i64 1))), none⟩,
 ⟨some 8, .mov (.t 19), none⟩] []) <|
 .keep [0, 1, 6, 7, 8] [[12]]) <|
 .keep [0, 1, 6, 7, 8] [[12]]
def integer_short : CF := ⟨2, .seq (.seq (.reg [⟨some 4, .mov (.c (.z true)), none⟩,
 ⟨some 5, .mov (.c (.v (.int .i64 0))), none⟩] []) <|
 .keep [0, 1] []) <|
 .seq (.seq (.reg [⟨some 10, .mov (.t 0), none⟩,
 ⟨some 11, .len (.t 10), none⟩,
 ⟨some 12, .mksl 1 8 [.v (.int .i64 0)] (.t 11) (.t 11), none⟩,
 ⟨some 6, .mov (.t 12), none⟩] []) <|
 .keep [0, 1, 6] [[12]]) <|
 .seq (.seq (.reg [⟨some 7, .mov (.c (.v (.int .i64 0))), none⟩] []) <|
 .keep [0, 1, 6, 7] [[12]]) <|
 .seq (.seq (.seq (.reg [⟨some 13, .mov (.t 0), none⟩,
 ⟨some 14, .len (.t 13), none⟩,
 ⟨some 15, .bin .sub (.t 14) (.c (.v (.int .i64 1))), none⟩,
 ⟨some 8, .mov (.t 15), none⟩] []) <|
 .keep [0, 1, 6, 7, 8] [[12]]) <|
 .seq (.blk 0 <|
 .seq (.keep [0, 1, 6, 7, 8] [[12]]) <|
 .loop integer_short_l0) <|
 .keep [6, 7] [[12]]) <|
 .seq (.seq (.reg [⟨some 36, .mov (.t 6), none⟩,
 ⟨some 37, .mov (.t 7), none⟩,
 ⟨some 4, .mov (.t 36), none⟩,
 ⟨some 5, .mov (.t 37), none⟩] []) <|
 .keep [4, 5] [[12]]) <|
 .ret, [.t 4, .t 5]⟩

def integer_long_l0 : C :=
 .seq (.seq (.seq (.seq (.reg [⟨some 84, .mov (.t 13), none⟩,
 ⟨some 85, .bin .geq (.t 84) (.c (.v (.int .i64 1000000000))), none⟩,
 ⟨some 86, .mov (.t 85), none⟩,
 ⟨some 87, .mov (.t 13), (some (86, false))⟩,
 ⟨some 88, .mov (.t 8), (some (86, false))⟩,
 ⟨some 89, .mov (.t 9), (some (86, false))⟩,
 ⟨some 90, .bin .sub (.t 89) (.c (.v (.int .i64 2))), (some (86, false))⟩,
 ⟨some 91, .ixa 1 (.t 88) (.t 90), (some (86, false))⟩,
 ⟨some 92, .load none (.t 91), (some (86, false))⟩,
 ⟨some 93, .bin .mul (.t 87) (.t 92), (some (86, false))⟩,
 ⟨some 94, .mov (.t 14), (some (86, false))⟩,
 ⟨some 95, .bin .mul (.t 94) (.c (.v (.int .i64 1000000000))), (some (86, false))⟩,
 ⟨some 96, .mov (.t 7), (some (86, false))⟩,
 ⟨some 97, .mov (.t 11), (some (86, false))⟩,
 ⟨some 98, .mov (.t 9), (some (86, false))⟩,
 ⟨some 99, .bin .add (.t 97) (.t 98), (some (86, false))⟩,
 ⟨some 100, .bin .sub (.t 99) (.c (.v (.int .i64 2))), (some (86, false))⟩,
 ⟨some 101, .ixa 1 (.t 96) (.t 100), (some (86, false))⟩,
 ⟨some 102, .load none (.t 101), (some (86, false))⟩,
 ⟨some 103, .bin .add (.t 95) (.t 102), (some (86, false))⟩,
 ⟨some 104, .bin .gtr (.t 93) (.t 103), (some (86, false))⟩,
 ⟨some 105, .pick (.t 86) (.c (.v (.bool true))) (.t 104), none⟩] []) <|
 .keep [6, 7, 8, 9, 10, 11, 13, 14, 105] [[32], [46]]) <|
 .cond (.t 105) (.skip) <|
 .seq (.keep [6, 7, 8, 9, 10, 11, 13] [[32], [46]]) <|
 .exit 2) <|
 .seq (.blk 3 <|
 .seq (.seq (.reg [⟨some 106, .mov (.t 13), none⟩,
 ⟨some 107, .bin .sub (.t 106) (.c (.v (.int .i64 1))), none⟩,
 ⟨some 13, .mov (.t 107), none⟩] []) <|
 .keep [6, 7, 8, 9, 10, 11, 13, 14] [[32], [46]]) <|
 .seq (.seq (.reg [⟨some 108, .mov (.t 14), none⟩,
 ⟨some 109, .mov (.t 8), none⟩,
 ⟨some 110, .mov (.t 9), none⟩,
 ⟨some 111, .bin .sub (.t 110) (.c (.v (.int .i64 1))), none⟩,
 ⟨some 112, .ixa 1 (.t 109) (.t 111), none⟩,
 ⟨some 113, .load none (.t 112), none⟩,
 ⟨some 114, .bin .add (.t 108) (.t 113), none⟩,
 ⟨some 14, .mov (.t 114), none⟩] []) <|
 .keep [6, 7, 8, 9, 10, 11, 13, 14] [[32], [46]]) <|
 .seq (.seq (.reg [⟨some 115, .mov (.t 14), none⟩,
 ⟨some 116, .bin .geq (.t 115) (.c (.v (.int .i64 1000000000))), none⟩] []) <|
 .keep [6, 7, 8, 9, 10, 11, 13, 14, 116] [[32], [46]]) <|
 .cond (.t 116) (.seq (.keep [6, 7, 8, 9, 10, 11, 13] [[32], [46]]) <|
 .exit 2) <|
 .skip) <|
 .keep [6, 7, 8, 9, 10, 11, 13, 14] [[32], [46]]) <|
 .keep [6, 7, 8, 9, 10, 11, 13, 14] [[32], [46]]
def integer_long_l1 : C :=
 .seq (.seq (.seq (.reg [⟨some 119, .bin .lss (.t 118) (.t 117), none⟩] []) <|
 .keep [6, 7, 8, 9, 10, 11, 13, 15, 117, 118, 119] [[32], [46]]) <|
 .seq (.cond (.t 119) (.skip) <|
 .seq (.keep [6, 7, 8, 9, 10, 11, 13, 15] [[32], [46]]) <|
 .exit 4) <|
 .seq (.seq (.blk 5 <|
 .seq (.seq (.reg [⟨some 120, .mov (.t 118), none⟩,
 ⟨some 16, .mov (.t 120), none⟩] []) <|
 .keep [6, 7, 8, 9, 10, 11, 13, 15, 16, 117, 118] [[32], [46]]) <|
 .seq (.seq (.reg [⟨some 121, .mov (.t 7), none⟩,
 ⟨some 122, .mov (.t 16), none⟩,
 ⟨some 123, .mov (.t 11), none⟩,
 ⟨some 124, .bin .add (.t 122) (.t 123), none⟩,
 ⟨some 125, .ixa 1 (.t 121) (.t 124), none⟩,
 ⟨some 126, .load none (.t 125), none⟩,
 ⟨some 127, .mov (.t 13), none⟩,
 ⟨some 128, .mov (.t 8), none⟩,
 ⟨some 129, .mov (.t 16), none⟩,
 ⟨some 130, .ixa 1 (.t 128) (.t 129), none⟩,
 ⟨some 131, .load none (.t 130), none⟩,
 ⟨some 132, .bin .mul (.t 127) (.t 131), none⟩,
 ⟨some 133, .bin .sub (.t 126) (.t 132), none⟩,
 ⟨some 134, .mov (.t 15), none⟩,
 ⟨some 135, .bin .sub (.t 133) (.t 134), none⟩,
 ⟨some 17, .mov (.t 135), none⟩] []) <|
 .keep [6, 7, 8, 9, 10, 11, 13, 16, 17, 117, 118] [[32], [46]]) <|
 .seq (.seq (.reg [⟨some 15, .mov (.c (.v (.int .i64 0))), none⟩] []) <|
 .keep [6, 7, 8, 9, 10, 11, 13, 15, 16, 17, 117, 118] [[32], [46]]) <|
 .seq (.seq (.seq (.reg [⟨some 136, .mov (.t 17), none⟩,
 ⟨some 137, .bin .lss (.t 136) (.c (.v (.int .i64 0))), none⟩] []) <|
 .keep [6, 7, 8, 9, 10, 11, 13, 15, 16, 17, 117, 118, 137] [[32], [46]]) <|
 .cond (.t 137) (.seq (.seq (.reg [⟨some 138, .mov (.t 17), none⟩,
 ⟨some 139, .un .neg (.t 138), none⟩,
 ⟨some 140, .bin .add (.t 139) (.c (.v (.int .i64 1000000000))), none⟩,
 ⟨some 141, .bin .sub (.t 140) (.c (.v (.int .i64 1))), none⟩,
 ⟨some 142, .bin .quo (.t 141) (.c (.v (.int .i64 1000000000))), none⟩,
 ⟨some 15, .mov (.t 142), none⟩] []) <|
 .keep [6, 7, 8, 9, 10, 11, 13, 15, 16, 17, 117, 118] [[32], [46]]) <|
 .seq (.reg [⟨some 143, .mov (.t 17), none⟩,
 ⟨some 144, .mov (.t 15), none⟩,
 ⟨some 145, .bin .mul (.t 144) (.c (.v (.int .i64 1000000000))), none⟩,
 ⟨some 146, .bin .add (.t 143) (.t 145), none⟩,
 ⟨some 17, .mov (.t 146), none⟩] []) <|
 .keep [6, 7, 8, 9, 10, 11, 13, 15, 16, 17, 117, 118] [[32], [46]]) <|
 .skip) <|
 .seq (.reg [⟨some 147, .mov (.t 7), none⟩,
 ⟨some 148, .mov (.t 16), none⟩,
 ⟨some 149, .mov (.t 11), none⟩,
 ⟨some 150, .bin .add (.t 148) (.t 149), none⟩,
 ⟨some 151, .mov (.t 17), none⟩,
 ⟨some 152, .ixa 1 (.t 147) (.t 150), none⟩,
 ⟨none, .store 1 (.t 152) (.t 151), none⟩] []) <|
 .keep [6, 7, 8, 9, 10, 11, 13, 15, 117, 118] [[32], [46]]) <|
 .keep [6, 7, 8, 9, 10, 11, 13, 15, 117, 118] [[32], [46]]) <|
 .seq (.reg [⟨some 153, .bin .add (.t 118) (.c (.v (.int .i64 1))), none⟩,
 ⟨some 118, .mov (.t 153), none⟩] []) <|
 .keep [6, 7, 8, 9, 10, 11, 13, 15, 117, 118] [[32], [46]]) <|
 .keep [6, 7, 8, 9, 10, 11, 13, 15, 117, 118] [[32], [46]]
def integer_long_l2 : C :=
 .seq (.seq (.seq (.reg [⟨some 174, .bin .lss (.t 173) (.t 172), none⟩] []) <|
 .keep [6, 7, 8, 9, 10, 11, 13, 15, 172, 173, 174] [[32], [46]]) <|
 .seq (.cond (.t 174) (.skip) <|
 .seq (.keep [6, 7, 8, 9, 10, 11, 13, 15] [[32], [46]]) <|
 .exit 6) <|
 .seq (.seq (.blk 7 <|
 .seq (.seq (.reg [⟨some 175, .mov (.t 173), none⟩,
 ⟨some 18, .mov (.t 175), none⟩] []) <|
 .keep [6, 7, 8, 9, 10, 11, 13, 15, 18, 172, 173] [[32], [46]]) <|
 .seq (.seq (.reg [⟨some 176, .mov (.t 7), none⟩,
 ⟨some 177, .mov (.t 18), none⟩,
 ⟨some 178, .mov (.t 11), none⟩,
 ⟨some 179, .bin .add (.t 177) (.t 178), none⟩,
 ⟨some 180, .ixa 1 (.t 176) (.t 179), none⟩,
 ⟨some 181, .load none (.t 180), none⟩,
 ⟨some 182, .mov (.t 8), none⟩,
 ⟨some 183, .mov (.t 18), none⟩,
 ⟨some 184, .ixa 1 (.t 182) (.t 183), none⟩,
 ⟨some 185, .load none (.t 184), none⟩,
 ⟨some 186, .bin .add (.t 181) (.t 185), none⟩,
 ⟨some 187, .mov (.t 15), none⟩,
 ⟨some 188, .bin .add (.t 186) (.t 187), none⟩,
 ⟨some 19, .mov (.t 188), none⟩] []) <|
 .keep [6, 7, 8, 9, 10, 11, 13, 18, 19, 172, 173] [[32], [46]]) <|
 .seq (.reg [⟨some 189, .mov (.t 7), none⟩,
 ⟨some 190, .mov (.t 18), none⟩,
 ⟨some 191, .mov (.t 11), none⟩,
 ⟨some 192, .bin .add (.t 190) (.t 191), none⟩,
 ⟨some 193, .mov (.t 19), none⟩,
 ⟨some 194, .bin .rem (.t 193) (.c (.v (.int .i64 1000000000))), none⟩,
 ⟨some 195, .mov (.t 19), none⟩,
 ⟨some 196, .bin .quo (.t 195) (.c (.v (.int .i64 1000000000))), none⟩,
 ⟨some 197, .ixa 1 (.t 189) (.t 192), none⟩,
 ⟨none, .store 1 (.t 197) (.t 194), none⟩,
 ⟨some 15, .mov (.t 196), none⟩] []) <|
 .keep [6, 7, 8, 9, 10, 11, 13, 15, 172, 173] [[32], [46]]) <|
 .keep [6, 7, 8, 9, 10, 11, 13, 15, 172, 173] [[32], [46]]) <|
 .seq (.reg [⟨some 198, .bin .add (.t 173) (.c (.v (.int .i64 1))), none⟩,
 ⟨some 173, .mov (.t 198), none⟩] []) <|
 .keep [6, 7, 8, 9, 10, 11, 13, 15, 172, 173] [[32], [46]]) <|
 .keep [6, 7, 8, 9, 10, 11, 13, 15, 172, 173] [[32], [46]]
def integer_long_l3 : C :=
 .seq (.seq (.seq (.seq (.reg [⟨some 51, .mov (.t 11), none⟩,
 ⟨some 52, .bin .geq (.t 51) (.c (.v (.int .i64 0))), none⟩] []) <|
 .keep [6, 7, 8, 9, 10, 11, 52] [[32], [46]]) <|
 .cond (.t 52) (.skip) <|
 .seq (.keep [6, 7, 9, 10] [[32], [46]]) <|
 .exit 0) <|
 .seq (.seq (.blk 1 <|
 .seq (.seq (.reg [⟨some 55, .mov (.t 7), none⟩,
 ⟨some 56, .mov (.t 11), none⟩,
 ⟨some 57, .mov (.t 9), none⟩,
 ⟨some 58, .bin .add (.t 56) (.t 57), none⟩,
 ⟨some 59, .ixa 1 (.t 55) (.t 58), none⟩,
 ⟨some 60, .load none (.t 59), none⟩,
 ⟨some 61, .bin .mul (.t 60) (.c (.v (.int .i64 1000000000))), none⟩,
 ⟨some 62, .mov (.t 7), none⟩,
 ⟨some 63, .mov (.t 11), none⟩,
 ⟨some 64, .mov (.t 9), none⟩,
 ⟨some 65, .bin .add (.t 63) (.t 64), none⟩,
 ⟨some 66, .bin .sub (.t 65) (.c (.v (.int .i64 1))), none⟩,
 ⟨some 67, .ixa 1 (.t 62) (.t 66), none⟩,
 ⟨some 68, .load none (.t 67), none⟩,
 ⟨some 69, .bin .add (.t 61) (.t 68), none⟩,
 ⟨some 12, .mov (.t 69), none⟩] []) <|
 .keep [6, 7, 8, 9, 10, 11, 12] [[32], [46]]) <|
 .seq (.seq (.reg [⟨some 70, .mov (.t 12), none⟩,
 ⟨some 71, .mov (.t 8), none⟩,
 ⟨some 72, .mov (.t 9), none⟩,
 ⟨some 73, .bin .sub (.t 72) (.c (.v (.int .i64 1))), none⟩,
 ⟨some 74, .ixa 1 (.t 71) (.t 73), none⟩,
 ⟨some 75, .load none (.t 74), none⟩,
 ⟨some 76, .bin .quo (.t 70) (.t 75), none⟩,
 ⟨some 77, .mov (.t 12), none⟩,
 ⟨some 78, .mov (.t 8), none⟩,
 ⟨some 79, .mov (.t 9), none⟩,
 ⟨some 80, .bin .sub (.t 79) (.c (.v (.int .i64 1))), none⟩,
 ⟨some 81, .ixa 1 (.t 78) (.t 80), none⟩,
 ⟨some 82, .load none (.t 81), none⟩,
 ⟨some 83, .bin .rem (.t 77) (.t 82), none⟩,
 ⟨some 13, .mov (.t 76), none⟩,
 ⟨some 14, .mov (.t 83), none⟩] []) <|
 .keep [6, 7, 8, 9, 10, 11, 13, 14] [[32], [46]]) <|
 .seq (.skip) <|
 .seq (.seq (.blk 2 <|
 .seq (.keep [6, 7, 8, 9, 10, 11, 13, 14] [[32], [46]]) <|
 .loop integer_long_l0) <|
 .keep [6, 7, 8, 9, 10, 11, 13] [[32], [46]]) <|
 .seq (.seq (.reg [⟨some 15, .mov (.c (.v (.int .i64 0))), none⟩] []) <|
 .keep [6, 7, 8, 9, 10, 11, 13, 15] [[32], [46]]) <|
 .seq (.seq (.seq (.reg [⟨some 117, .mov (.t 9), none⟩,
 ⟨some 118, .mov (.c (.v (.int .i64 0))), none⟩] []) <|
 .keep [6, 7, 8, 9, 10, 11, 13, 15, 117, 118] [[32], [46]]) <|
 .seq (.blk 4 <|
 .seq (.keep [6, 7, 8, 9, 10, 11, 13, 15, 117, 118] [[32], [46]]) <|
 .loop integer_long_l1) <|
 .keep [6, 7, 8, 9, 10, 11, 13, 15] [[32], [46]]) <|
 .seq (.seq (.seq (.reg [⟨some 154, .mov (.t 7), none⟩,
 ⟨some 155, .mov (.t 11), none⟩,
 ⟨some 156, .mov (.t 9), none⟩,
 ⟨some 157, .bin .add (.t 155) (.t 156), none⟩,
 ⟨some 158, .ixa 1 (.t 154) (.t 157), none⟩,
 ⟨some 159, .load none (.t 158), none⟩,
 ⟨some 160, .mov (.t 15), none⟩,
 ⟨some 161, .bin .sub (.t 159) (.t 160), none⟩,
 ⟨some 162, .ixa 1 (.t 154) (.t 157), none⟩,
 ⟨none, .store 1 (.t 162) (.t 161), none⟩] []) <|
 .keep [6, 7, 8, 9, 10, 11, 13] [[32], [46]]) <|
 .seq (.seq (.reg [⟨some 163, .mov (.t 7), none⟩,
 ⟨some 164, .mov (.t 11), none⟩,
 ⟨some 165, .mov (.t 9), none⟩,
 ⟨some 166, .bin .add (.t 164) (.t 165), none⟩,
 ⟨some 167, .ixa 1 (.t 163) (.t 166), none⟩,
 ⟨some 168, .load none (.t 167), none⟩,
 ⟨some 169, .bin .lss (.t 168) (.c (.v (.int .i64 0))), none⟩] []) <|
 .keep [6, 7, 8, 9, 10, 11, 13, 169] [[32], [46]]) <|
 .cond (.t 169) (.seq (.seq (.reg [⟨some 170, .mov (.t 13), none⟩,
 ⟨some 171, .bin .sub (.t 170) (.c (.v (.int .i64 1))), none⟩,
 ⟨some 13, .mov (.t 171), none⟩] []) <|
 .keep [6, 7, 8, 9, 10, 11, 13] [[32], [46]]) <|
 .seq (.seq (.reg [⟨some 15, .mov (.c (.v (.int .i64 0))), none⟩] []) <|
 .keep [6, 7, 8, 9, 10, 11, 13, 15] [[32], [46]]) <|
 .seq (.seq (.seq (.reg [⟨some 172, .mov (.t 9), none⟩,
 ⟨some 173, .mov (.c (.v (.int .i64 0))), none⟩] []) <|
 .keep [6, 7, 8, 9, 10, 11, 13, 15, 172, 173] [[32], [46]]) <|
 .seq (.blk 6 <|
 .seq (.keep [6, 7, 8, 9, 10, 11, 13, 15, 172, 173] [[32], [46]]) <|
 .loop integer_long_l2) <|
 .keep [6, 7, 8, 9, 10, 11, 13, 15] [[32], [46]]) <|
 .seq (.reg [⟨some 199, .mov (.t 7), none⟩,
 ⟨some 200, .mov (.t 11), none⟩,
 ⟨some 201, .mov (.t 9), none⟩,
 ⟨some 202, .bin .add (.t 200) (.t 201), none⟩,
 ⟨some 203, .ixa 1 (.t 199) (.t 202), none⟩,
 ⟨some 204, .load none (.t 203), none⟩,
 ⟨some 205, .mov (.t 15), none⟩,
 ⟨some 206, .bin .add (.t 204) (.t 205), none⟩,
 ⟨some 207, .ixa 1 (.t 199) (.t 202), none⟩,
 ⟨none, .store 1 (.t 207) (.t 206), none⟩] []) <|
 .keep [6, 7, 8, 9, 10, 11, 13] [[32], [46]]) <|
 .skip) <|
 .seq (.reg [⟨some 208, .mov (.t 10), none⟩,
 ⟨some 209, .mov (.t 11), none⟩,
 ⟨some 210, .mov (.t 13), none⟩,
 ⟨some 211, .ixa 1 (.t 208) (.t 209), none⟩,
 ⟨none, .store 1 (.t 211) (.t 210), none⟩] []) <|
 .keep [6, 7, 8, 9, 10, 11] [[32], [46]]) <|
 .keep [6, 7, 8, 9, 10, 11] [[32], [46]]) <|
 .seq (.reg [⟨some 53, .mov (.t 11), none⟩,
 ⟨some 54, .bin .sub (.t 53) (.c (.v (.int .i64 1))), none⟩,
 ⟨some 11, .mov (.t 54), none⟩] []) <|
 .keep [6, 7, 8, 9, 10, 11] [[32], [46]]) <|
 .keep [6, 7, 8, 9, 10, 11] [[32], [46]]
def integer_long : CF := ⟨2, .seq (.seq (.reg [⟨some 4, .mov (.c (.z true)), none⟩,
 ⟨some 5, .mov (.c (.z true)), none⟩] []) <|
 .keep [0, 1] []) <|
 .seq (.seq (.reg [⟨some 22, .mov (.t 1), none⟩,
 ⟨some 23, .mov (.t 1), none⟩,
 ⟨some 24, .len (.t 23), none⟩,
 ⟨some 25, .bin .sub (.t 24) (.c (.v (.int .i64 1))), none⟩,
 ⟨some 26, .ixa 1 (.t 22) (.t 25), none⟩,
 ⟨some 27, .load none (.t 26), none⟩,
 ⟨some 28, .bin .add (.t 27) (.c (.v (.int .i64 1))), none⟩,
 ⟨some 29, .bin .quo (.c (.v (.int .i64 1000000000))) (.t 28), none⟩,
 ⟨some 6, .mov (.t 29), none⟩] []) <|
 .keep [0, 1, 6] []) <|
 .seq (.seq (.reg [⟨some 30, .mov (.t 0), none⟩,
 ⟨some 31, .mov (.t 6), none⟩,
 ⟨some 32, .call n_integer_scaled [(.t 30), (.t 31)] true, none⟩,
 ⟨some 33, .mov (.t 1), none⟩,
 ⟨some 34, .mov (.t 6), none⟩,
 ⟨some 35, .call n_integer_scaled [(.t 33), (.t 34)] false, none⟩,
 ⟨some 36, .mov (.t 1), none⟩,
 ⟨some 37, .len (.t 36), none⟩,
 ⟨some 38, .slc 1 (.t 35) none (some (.t 37)) none, none⟩,
 ⟨some 7, .mov (.t 32), none⟩,
 ⟨some 8, .mov (.t 38), none⟩] []) <|
 .keep [0, 1, 6, 7, 8] [[32]]) <|
 .seq (.seq (.reg [⟨some 39, .mov (.t 1), none⟩,
 ⟨some 40, .len (.t 39), none⟩,
 ⟨some 9, .mov (.t 40), none⟩] []) <|
 .keep [0, 6, 7, 8, 9] [[32]]) <|
 .seq (.seq (.reg [⟨some 41, .mov (.t 0), none⟩,
 ⟨some 42, .len (.t 41), none⟩,
 ⟨some 43, .mov (.t 9), none⟩,
 ⟨some 44, .bin .sub (.t 42) (.t 43), none⟩,
 ⟨some 45, .bin .add (.t 44) (.c (.v (.int .i64 1))), none⟩,
 ⟨some 46, .mksl 1 8 [.v (.int .i64 0)] (.t 45) (.t 45), none⟩,
 ⟨some 10, .mov (.t 46), none⟩] []) <|
 .keep [0, 6, 7, 8, 9, 10] [[32], [46]]) <|
 .seq (.seq (.seq (.reg [⟨some 47, .mov (.t 0), none⟩,
 ⟨some 48, .len (.t 47), none⟩,
 ⟨some 49, .mov (.t 9), none⟩,
 ⟨some 50, .bin .sub (.t 48) (.t 49), none⟩,
 ⟨some 11, .mov (.t 50), none⟩] []) <|
 .keep [6, 7, 8, 9, 10, 11] [[32], [46]]) <|
 .seq (.blk 0 <|
 .seq (.keep [6, 7, 8, 9, 10, 11] [[32], [46]]) <|
 .loop integer_long_l3) <|
 .keep [6, 7, 9, 10] [[32], [46]]) <|
 .seq (.seq (.frz 7) <|
 .seq (.reg [⟨some 213, .mov (.t 7), none⟩,
 ⟨some 214, .mov (.t 9), none⟩,
 ⟨some 215, .slc 1 (.t 213) none (some (.t 214)) none, none⟩,
 ⟨some 216, .mov (.t 6), none⟩,
 ⟨some 217, .call n_integer_short [(.t 215), (.t 216)] false, none⟩,
 ⟨some 212, .mov (.t 217), none⟩,
 ⟨some 218, .ext (.t 212) 0, none⟩,
 ⟨some 219, .ext (.t 212) 1, none⟩,
 ⟨some 20, .mov (.t 218), none⟩,
 ⟨some 21, .mov (.t 219), none⟩] []) <|
 .keep [10, 20] [[46]]) <|
 .seq (.seq (.reg [⟨some 220, .mov (.t 10), none⟩,
 ⟨some 221, .mov (.t 20), none⟩,
 ⟨some 4, .mov (.t 220), none⟩,
 ⟨some 5, .mov (.t 221), none⟩] []) <|
 .keep [4, 5] [[46]]) <|
 .ret, [.t 4, .t 5]⟩

def gantryref04_times : CF := ⟨2, .seq (.seq (.reg [⟨some 4, .mov (.c (.z true)), none⟩] []) <|
 .keep [0, 1] []) <|
 .seq (.seq (.reg [⟨some 6, .mov (.t 0), none⟩,
 ⟨some 7, .call n_gantryref04_normal [(.c (.v (.bool false))), (.t 6)] false, none⟩,
 ⟨some 8, .mov (.t 1), none⟩,
 ⟨some 9, .call n_gantryref04_Of [(.t 8)] false, none⟩,
 ⟨some 10, .call n_gantryref04_Mul [(.t 7), (.t 9)] false, none⟩,
 ⟨some 5, .new [.v (.bool false), .z true], none⟩,
 ⟨none, .store 2 (.t 5) (.t 10), none⟩] []) <|
 .keep [5] [[5]]) <|
 .seq (.seq (.reg [⟨some 11, .fad 1 (.t 5), none⟩,
 ⟨some 12, .load none (.t 11), none⟩,
 ⟨some 4, .mov (.t 12), none⟩] []) <|
 .keep [4] []) <|
 .ret, [.t 4]⟩

def integer_scaled_l0 : C :=
 .seq (.seq (.seq (.reg [⟨some 17, .bin .lss (.t 16) (.t 15), none⟩] []) <|
 .keep [0, 1, 5, 6, 14, 15, 16, 17] [[13]]) <|
 .seq (.cond (.t 17) (.skip) <|
 .seq (.keep [0, 5, 6] [[13]]) <|
 .exit 0) <|
 .seq (.seq (.blk 1 <|
 .seq (.seq (.reg [⟨some 18, .mov (.t 16), none⟩,
 ⟨some 19, .ixa 1 (.t 14) (.t 16), none⟩,
 ⟨some 20, .load none (.t 19), none⟩,
 ⟨some 7, .mov (.t 18), none⟩,
 ⟨some 8, .mov (.t 20), none⟩] []) <|
 .keep [0, 1, 5, 6, 7, 8, 14, 15, 16] [[13]]) <|
 .seq (.seq (.reg [⟨some 21, .mov (.t 8), none⟩,
 ⟨some 22, .mov (.t 1), none⟩,
 ⟨some 23, .bin .mul (.t 21) (.t 22), none⟩,
 ⟨some 24, .mov (.t 6), none⟩,
 ⟨some 25, .bin .add (.t 23) (.t 24), none⟩,
 ⟨some 9, .mov (.t 25), none⟩] []) <|
 .keep [0, 1, 5, 7, 9, 14, 15, 16] [[13]]) <|
 .seq (.reg [⟨some 26, .mov (.t 5), none⟩,
 ⟨some 27, .mov (.t 7), none⟩,
 ⟨some 28, .mov (.t 9), none⟩,
 ⟨some 29, .bin .rem (.t 28) (.c (.v (.int .i64 1000000000))), none⟩,
 ⟨some 30, .mov (.t 9), none⟩,
 ⟨some 31, .bin .quo (.t 30) (.c (.v (.int .i64 1000000000))), none⟩,
 ⟨some 32, .ixa 1 (.t 26) (.t 27), none⟩,
 ⟨none, .store 1 (.t 32) (.t 29), none⟩,
 ⟨some 6, .mov (.t 31), none⟩] []) <|
 .keep [0, 1, 5, 6, 14, 15, 16] [[13]]) <|
 .keep [0, 1, 5, 6, 14, 15, 16] [[13]]) <|
 .seq (.reg [⟨some 33, .bin .add (.t 16) (.c (.v (.int .i64 1))), none⟩,
 ⟨some 16, .mov (.t 33), none⟩] []) <|
 .keep [0, 1, 5, 6, 14, 15, 16] [[13]]) <|
 .keep [0, 1, 5, 6, 14, 15, 16] [[13]]
def integer_scaled : CF := ⟨2, .seq (.seq (.reg [⟨some 4, .mov (.c (.z true)), none⟩] []) <|
 .keep [0, 1] []) <|
 .seq (.seq (.reg [⟨some 10, .mov (.t 0), none⟩,
 ⟨some 11, .len (.t 10), none⟩,
 ⟨some 12, .bin .add (.t 11) (.c (.v (.int .i64 1))), none⟩,
 ⟨some 13, .mksl 1 8 [.v (.int .i64 0)] (.t 12) (.t 12), none⟩,
 ⟨some 5, .mov (.t 13), none⟩] []) <|
 .keep [0, 1, 5] [[13]]) <|
 .seq (.seq (.reg [⟨some 6, .mov (.c (.v (.int .i64 0))), none⟩] []) <|
 .keep [0, 1, 5, 6] [[13]]) <|
 .seq (.seq (.seq (.reg [⟨some 14, .mov (.t 0), none⟩,
 ⟨some 15, .len (.t 14), none⟩,
 ⟨some 16, .mov (.c (.v (.int .i64 0))), none⟩] []) <|
 .keep [0, 1, 5, 6, 14, 15, 16] [[13]]) <|
 .seq (.blk 0 <|
 .seq (.keep [0, 1, 5, 6, 14, 15, 16] [[13]]) <|
 .loop integer_scaled_l0) <|
 .keep [0, 5, 6] [[13]]) <|
 .seq (.seq (.reg [⟨some 34, .mov (.t 5), none⟩,
 ⟨some 35, .mov (.t 0), none⟩,
 ⟨some 36, .len (.t 35), none⟩,
 ⟨some 37, .mov (.t 6), none⟩,
 ⟨some 38, .ixa 1 (.t 34) (.t 36), none⟩,
 ⟨none, .store 1 (.t 38) (.t 37), none⟩] []) <|
 .keep [5] [[13]]) <|
 .seq (.seq (.reg [⟨some 39, .mov (.t 5), none⟩,
 ⟨some 4, .mov (.t 39), none⟩] []) <|
 .keep [4] [[13]]) <|
 .ret, [.t 4]⟩

end Go.AM

set_option maxRecDepth 100000
namespace Go.AM
open Go Go.Proofs

def ft : Nat → Option CF
  | 3 => some gantrylaw12_ConvexPoints
  | 4 => some gantrylaw12_ConvexApart
  | 5 => some gantrylaw12_ConvexMoved
  | 6 => some gantrylaw12_ConvexTurned
  | 7 => some gantrylaw12_ConvexSupports
  | 8 => some gantrylaw12_ConvexSides
  | 9 => some gantryref12_Shape
  | 10 => some convex_Sum
  | 11 => some gantryref12_SamePoints
  | 12 => some gantryref12_Sum
  | 13 => some gantryref12_Vec
  | 14 => some convex_Has
  | 15 => some gantryref12_Has
  | 16 => some gantrylaw12_lives
  | 17 => some convex_Sides
  | 18 => some rat_Compare
  | 19 => some gantryref12_Dot
  | 20 => some rat_Of
  | 21 => some rat_Sub
  | 22 => some gantryref01_Around
  | 23 => some gantryref12_Move
  | 24 => some convex_Area
  | 25 => some convex_Valid
  | 26 => some gantryref12_Turn
  | 27 => some convex_Most
  | 28 => some gantryref05_Compare
  | 29 => some gantryref05_Of
  | 30 => some convex_Norm
  | 31 => some gantryref12_Next
  | 32 => some gantryref12_SameEdges
  | 33 => some gantryref12_Sides
  | 34 => some gantryref12_Area
  | 35 => some convex_Box
  | 36 => some gantryref12_Box
  | 37 => some gantryref12_Most
  | 38 => some gantryref01_At
  | 39 => some slices_MinFunc_api_Point_api_Point
  | 40 => some convex_Sum_1
  | 41 => some cmp_Or_int
  | 42 => some cmp_Compare_int
  | 43 => some convex_cross
  | 44 => some convex_far
  | 45 => some gantryref12_Left
  | 46 => some convex_next
  | 47 => some rat_Mul
  | 48 => some gantryref05_Sub
  | 49 => some gantryref05_Mul
  | 50 => some gantryref05_Sign
  | 51 => some convex_Sides_1
  | 52 => some slices_ContainsFunc_api_Edge_api_Edge
  | 53 => some convex_Sides_1_1
  | 54 => some convex_turned
  | 55 => some rat_Sign
  | 56 => some integer_Compare
  | 57 => some integer_Of
  | 58 => some integer_Mul
  | 59 => some rat_Den
  | 60 => some gantryref05_Add
  | 61 => some rat_Make
  | 62 => some rat_Add
  | 63 => some rat_Neg
  | 64 => some convex_Valid_1
  | 65 => some slices_ContainsFunc_api_Point_api_Point
  | 66 => some convex_dot
  | 67 => some slices_MaxFunc_api_Point_api_Point
  | 68 => some convex_Most_1
  | 69 => some gantryref04_Compare
  | 70 => some gantryref04_Mul
  | 71 => some gantryref05_Den
  | 72 => some gantryref05_Make
  | 73 => some gantryref04_Of
  | 74 => some integer_Root
  | 75 => some integer_Small
  | 76 => some convex_gcd
  | 77 => some gantryref12_Norm
  | 78 => some cmp_isNaN_int
  | 79 => some rat_lowest
  | 80 => some gantryref05_Neg
  | 81 => some gantryref04_Sign
  | 82 => some slices_IndexFunc_api_Edge_api_Edge
  | 83 => some integer_Sign
  | 84 => some integer_compare
  | 85 => some integer_unsigned
  | 86 => some integer_of
  | 87 => some rat_one
  | 88 => some gantryref04_Add
  | 89 => some integer_Gcd
  | 90 => some rat_unit
  | 91 => some integer_Div
  | 92 => some integer_Add
  | 93 => some integer_Neg
  | 94 => some slices_IndexFunc_api_Point_api_Point
  | 95 => some gantryref04_compared
  | 96 => some gantryref04_normal
  | 97 => some gantryref04_Gcd
  | 98 => some gantryref04_Div
  | 99 => some gantryref04_Neg
  | 100 => some gantryref05_one
  | 101 => some gantryref04_Root
  | 102 => some gantryref04_Small
  | 103 => some gantryref12_divisor
  | 104 => some gantryref12_size
  | 105 => some gantryref04_plus
  | 106 => some gantryref04_minus
  | 107 => some integer_two
  | 108 => some integer_divide
  | 109 => some integer_plus
  | 110 => some integer_minus
  | 111 => some gantryref04_tiny
  | 112 => some gantryref04_divided
  | 113 => some gantryref04_digit
  | 114 => some integer_short
  | 115 => some integer_long
  | 116 => some gantryref04_times
  | 117 => some integer_scaled
  | _ => none
theorem gantrylaw12_ConvexPoints_c : compF Try.prog Try.f3 = some gantrylaw12_ConvexPoints.er := by kernel_rfl
theorem gantrylaw12_ConvexApart_c : compF Try.prog Try.f4 = some gantrylaw12_ConvexApart.er := by kernel_rfl
theorem gantrylaw12_ConvexMoved_c : compF Try.prog Try.f5 = some gantrylaw12_ConvexMoved.er := by kernel_rfl
theorem gantrylaw12_ConvexTurned_c : compF Try.prog Try.f6 = some gantrylaw12_ConvexTurned.er := by kernel_rfl
theorem gantrylaw12_ConvexSupports_c : compF Try.prog Try.f7 = some gantrylaw12_ConvexSupports.er := by kernel_rfl
theorem gantrylaw12_ConvexSides_c : compF Try.prog Try.f8 = some gantrylaw12_ConvexSides.er := by kernel_rfl
theorem gantryref12_Shape_c : compF Try.prog Try.f9 = some gantryref12_Shape.er := by kernel_rfl
theorem convex_Sum_c : compF Try.prog Try.f10 = some convex_Sum.er := by kernel_rfl
theorem gantryref12_SamePoints_c : compF Try.prog Try.f11 = some gantryref12_SamePoints.er := by kernel_rfl
theorem gantryref12_Sum_c : compF Try.prog Try.f12 = some gantryref12_Sum.er := by kernel_rfl
theorem gantryref12_Vec_c : compF Try.prog Try.f13 = some gantryref12_Vec.er := by kernel_rfl
theorem convex_Has_c : compF Try.prog Try.f14 = some convex_Has.er := by kernel_rfl
theorem gantryref12_Has_c : compF Try.prog Try.f15 = some gantryref12_Has.er := by kernel_rfl
theorem gantrylaw12_lives_c : compF Try.prog Try.f16 = some gantrylaw12_lives.er := by kernel_rfl
theorem convex_Sides_c : compF Try.prog Try.f17 = some convex_Sides.er := by kernel_rfl
theorem rat_Compare_c : compF Try.prog Try.f18 = some rat_Compare.er := by kernel_rfl
theorem gantryref12_Dot_c : compF Try.prog Try.f19 = some gantryref12_Dot.er := by kernel_rfl
theorem rat_Of_c : compF Try.prog Try.f20 = some rat_Of.er := by kernel_rfl
theorem rat_Sub_c : compF Try.prog Try.f21 = some rat_Sub.er := by kernel_rfl
theorem gantryref01_Around_c : compF Try.prog Try.f22 = some gantryref01_Around.er := by kernel_rfl
theorem gantryref12_Move_c : compF Try.prog Try.f23 = some gantryref12_Move.er := by kernel_rfl
theorem convex_Area_c : compF Try.prog Try.f24 = some convex_Area.er := by kernel_rfl
theorem convex_Valid_c : compF Try.prog Try.f25 = some convex_Valid.er := by kernel_rfl
theorem gantryref12_Turn_c : compF Try.prog Try.f26 = some gantryref12_Turn.er := by kernel_rfl
theorem convex_Most_c : compF Try.prog Try.f27 = some convex_Most.er := by kernel_rfl
theorem gantryref05_Compare_c : compF Try.prog Try.f28 = some gantryref05_Compare.er := by kernel_rfl
theorem gantryref05_Of_c : compF Try.prog Try.f29 = some gantryref05_Of.er := by kernel_rfl
theorem convex_Norm_c : compF Try.prog Try.f30 = some convex_Norm.er := by kernel_rfl
theorem gantryref12_Next_c : compF Try.prog Try.f31 = some gantryref12_Next.er := by kernel_rfl
theorem gantryref12_SameEdges_c : compF Try.prog Try.f32 = some gantryref12_SameEdges.er := by kernel_rfl
theorem gantryref12_Sides_c : compF Try.prog Try.f33 = some gantryref12_Sides.er := by kernel_rfl
theorem gantryref12_Area_c : compF Try.prog Try.f34 = some gantryref12_Area.er := by kernel_rfl
theorem convex_Box_c : compF Try.prog Try.f35 = some convex_Box.er := by kernel_rfl
theorem gantryref12_Box_c : compF Try.prog Try.f36 = some gantryref12_Box.er := by kernel_rfl
theorem gantryref12_Most_c : compF Try.prog Try.f37 = some gantryref12_Most.er := by kernel_rfl
theorem gantryref01_At_c : compF Try.prog Try.f38 = some gantryref01_At.er := by kernel_rfl
theorem slices_MinFunc_api_Point_api_Point_c : compF Try.prog Try.f39 = some slices_MinFunc_api_Point_api_Point.er := by kernel_rfl
theorem convex_Sum_1_c : compF Try.prog Try.f40 = some convex_Sum_1.er := by kernel_rfl
theorem cmp_Or_int_c : compF Try.prog Try.f41 = some cmp_Or_int.er := by kernel_rfl
theorem cmp_Compare_int_c : compF Try.prog Try.f42 = some cmp_Compare_int.er := by kernel_rfl
theorem convex_cross_c : compF Try.prog Try.f43 = some convex_cross.er := by kernel_rfl
theorem convex_far_c : compF Try.prog Try.f44 = some convex_far.er := by kernel_rfl
theorem gantryref12_Left_c : compF Try.prog Try.f45 = some gantryref12_Left.er := by kernel_rfl
theorem convex_next_c : compF Try.prog Try.f46 = some convex_next.er := by kernel_rfl
theorem rat_Mul_c : compF Try.prog Try.f47 = some rat_Mul.er := by kernel_rfl
theorem gantryref05_Sub_c : compF Try.prog Try.f48 = some gantryref05_Sub.er := by kernel_rfl
theorem gantryref05_Mul_c : compF Try.prog Try.f49 = some gantryref05_Mul.er := by kernel_rfl
theorem gantryref05_Sign_c : compF Try.prog Try.f50 = some gantryref05_Sign.er := by kernel_rfl
theorem convex_Sides_1_c : compF Try.prog Try.f51 = some convex_Sides_1.er := by kernel_rfl
theorem slices_ContainsFunc_api_Edge_api_Edge_c : compF Try.prog Try.f52 = some slices_ContainsFunc_api_Edge_api_Edge.er := by kernel_rfl
theorem convex_Sides_1_1_c : compF Try.prog Try.f53 = some convex_Sides_1_1.er := by kernel_rfl
theorem convex_turned_c : compF Try.prog Try.f54 = some convex_turned.er := by kernel_rfl
theorem rat_Sign_c : compF Try.prog Try.f55 = some rat_Sign.er := by kernel_rfl
theorem integer_Compare_c : compF Try.prog Try.f56 = some integer_Compare.er := by kernel_rfl
theorem integer_Of_c : compF Try.prog Try.f57 = some integer_Of.er := by kernel_rfl
theorem integer_Mul_c : compF Try.prog Try.f58 = some integer_Mul.er := by kernel_rfl
theorem rat_Den_c : compF Try.prog Try.f59 = some rat_Den.er := by kernel_rfl
theorem gantryref05_Add_c : compF Try.prog Try.f60 = some gantryref05_Add.er := by kernel_rfl
theorem rat_Make_c : compF Try.prog Try.f61 = some rat_Make.er := by kernel_rfl
theorem rat_Add_c : compF Try.prog Try.f62 = some rat_Add.er := by kernel_rfl
theorem rat_Neg_c : compF Try.prog Try.f63 = some rat_Neg.er := by kernel_rfl
theorem convex_Valid_1_c : compF Try.prog Try.f64 = some convex_Valid_1.er := by kernel_rfl
theorem slices_ContainsFunc_api_Point_api_Point_c : compF Try.prog Try.f65 = some slices_ContainsFunc_api_Point_api_Point.er := by kernel_rfl
theorem convex_dot_c : compF Try.prog Try.f66 = some convex_dot.er := by kernel_rfl
theorem slices_MaxFunc_api_Point_api_Point_c : compF Try.prog Try.f67 = some slices_MaxFunc_api_Point_api_Point.er := by kernel_rfl
theorem convex_Most_1_c : compF Try.prog Try.f68 = some convex_Most_1.er := by kernel_rfl
theorem gantryref04_Compare_c : compF Try.prog Try.f69 = some gantryref04_Compare.er := by kernel_rfl
theorem gantryref04_Mul_c : compF Try.prog Try.f70 = some gantryref04_Mul.er := by kernel_rfl
theorem gantryref05_Den_c : compF Try.prog Try.f71 = some gantryref05_Den.er := by kernel_rfl
theorem gantryref05_Make_c : compF Try.prog Try.f72 = some gantryref05_Make.er := by kernel_rfl
theorem gantryref04_Of_c : compF Try.prog Try.f73 = some gantryref04_Of.er := by kernel_rfl
theorem integer_Root_c : compF Try.prog Try.f74 = some integer_Root.er := by kernel_rfl
theorem integer_Small_c : compF Try.prog Try.f75 = some integer_Small.er := by kernel_rfl
theorem convex_gcd_c : compF Try.prog Try.f76 = some convex_gcd.er := by kernel_rfl
theorem gantryref12_Norm_c : compF Try.prog Try.f77 = some gantryref12_Norm.er := by kernel_rfl
theorem cmp_isNaN_int_c : compF Try.prog Try.f78 = some cmp_isNaN_int.er := by kernel_rfl
theorem rat_lowest_c : compF Try.prog Try.f79 = some rat_lowest.er := by kernel_rfl
theorem gantryref05_Neg_c : compF Try.prog Try.f80 = some gantryref05_Neg.er := by kernel_rfl
theorem gantryref04_Sign_c : compF Try.prog Try.f81 = some gantryref04_Sign.er := by kernel_rfl
theorem slices_IndexFunc_api_Edge_api_Edge_c : compF Try.prog Try.f82 = some slices_IndexFunc_api_Edge_api_Edge.er := by kernel_rfl
theorem integer_Sign_c : compF Try.prog Try.f83 = some integer_Sign.er := by kernel_rfl
theorem integer_compare_c : compF Try.prog Try.f84 = some integer_compare.er := by kernel_rfl
theorem integer_unsigned_c : compF Try.prog Try.f85 = some integer_unsigned.er := by kernel_rfl
theorem integer_of_c : compF Try.prog Try.f86 = some integer_of.er := by kernel_rfl
theorem rat_one_c : compF Try.prog Try.f87 = some rat_one.er := by kernel_rfl
theorem gantryref04_Add_c : compF Try.prog Try.f88 = some gantryref04_Add.er := by kernel_rfl
theorem integer_Gcd_c : compF Try.prog Try.f89 = some integer_Gcd.er := by kernel_rfl
theorem rat_unit_c : compF Try.prog Try.f90 = some rat_unit.er := by kernel_rfl
theorem integer_Div_c : compF Try.prog Try.f91 = some integer_Div.er := by kernel_rfl
theorem integer_Add_c : compF Try.prog Try.f92 = some integer_Add.er := by kernel_rfl
theorem integer_Neg_c : compF Try.prog Try.f93 = some integer_Neg.er := by kernel_rfl
theorem slices_IndexFunc_api_Point_api_Point_c : compF Try.prog Try.f94 = some slices_IndexFunc_api_Point_api_Point.er := by kernel_rfl
theorem gantryref04_compared_c : compF Try.prog Try.f95 = some gantryref04_compared.er := by kernel_rfl
theorem gantryref04_normal_c : compF Try.prog Try.f96 = some gantryref04_normal.er := by kernel_rfl
theorem gantryref04_Gcd_c : compF Try.prog Try.f97 = some gantryref04_Gcd.er := by kernel_rfl
theorem gantryref04_Div_c : compF Try.prog Try.f98 = some gantryref04_Div.er := by kernel_rfl
theorem gantryref04_Neg_c : compF Try.prog Try.f99 = some gantryref04_Neg.er := by kernel_rfl
theorem gantryref05_one_c : compF Try.prog Try.f100 = some gantryref05_one.er := by kernel_rfl
theorem gantryref04_Root_c : compF Try.prog Try.f101 = some gantryref04_Root.er := by kernel_rfl
theorem gantryref04_Small_c : compF Try.prog Try.f102 = some gantryref04_Small.er := by kernel_rfl
theorem gantryref12_divisor_c : compF Try.prog Try.f103 = some gantryref12_divisor.er := by kernel_rfl
theorem gantryref12_size_c : compF Try.prog Try.f104 = some gantryref12_size.er := by kernel_rfl
theorem gantryref04_plus_c : compF Try.prog Try.f105 = some gantryref04_plus.er := by kernel_rfl
theorem gantryref04_minus_c : compF Try.prog Try.f106 = some gantryref04_minus.er := by kernel_rfl
theorem integer_two_c : compF Try.prog Try.f107 = some integer_two.er := by kernel_rfl
theorem integer_divide_c : compF Try.prog Try.f108 = some integer_divide.er := by kernel_rfl
theorem integer_plus_c : compF Try.prog Try.f109 = some integer_plus.er := by kernel_rfl
theorem integer_minus_c : compF Try.prog Try.f110 = some integer_minus.er := by kernel_rfl
theorem gantryref04_tiny_c : compF Try.prog Try.f111 = some gantryref04_tiny.er := by kernel_rfl
theorem gantryref04_divided_c : compF Try.prog Try.f112 = some gantryref04_divided.er := by kernel_rfl
theorem gantryref04_digit_c : compF Try.prog Try.f113 = some gantryref04_digit.er := by kernel_rfl
theorem integer_short_c : compF Try.prog Try.f114 = some integer_short.er := by kernel_rfl
theorem integer_long_c : compF Try.prog Try.f115 = some integer_long.er := by kernel_rfl
theorem gantryref04_times_c : compF Try.prog Try.f116 = some gantryref04_times.er := by kernel_rfl
theorem integer_scaled_c : compF Try.prog Try.f117 = some integer_scaled.er := by kernel_rfl
theorem convex_Sides_i0_n : InlN Try.prog [51] n_convex_Sides_1 convex_Sides_i0 [] 4 := ⟨by decide, _, _, Try.func51, rfl, by kernel_rfl, by kernel_rfl⟩
theorem convex_Sides_i2_n : InlN Try.prog [51] n_convex_Sides_1 convex_Sides_i2 [] 4 := ⟨by decide, _, _, Try.func51, rfl, by kernel_rfl, by kernel_rfl⟩
theorem ft_ok : ∀ f cf, ft f = some cf → ∃ fn L, Try.prog.funcs[f]? = some fn ∧ compF Try.prog fn = some cf.er ∧ InlOk Try.prog L cf.body ∧ (L = [] ∨ ∀ b, fn.body = some b → okI L b = true) := by
  intro f cf h
  unfold ft at h
  split at h
  · cases h; exact ⟨_, [], Try.func3, gantrylaw12_ConvexPoints_c, noInl_ok (by kernel_rfl), .inl rfl⟩
  · cases h; exact ⟨_, [], Try.func4, gantrylaw12_ConvexApart_c, noInl_ok (by kernel_rfl), .inl rfl⟩
  · cases h; exact ⟨_, [], Try.func5, gantrylaw12_ConvexMoved_c, noInl_ok (by kernel_rfl), .inl rfl⟩
  · cases h; exact ⟨_, [], Try.func6, gantrylaw12_ConvexTurned_c, noInl_ok (by kernel_rfl), .inl rfl⟩
  · cases h; exact ⟨_, [], Try.func7, gantrylaw12_ConvexSupports_c, noInl_ok (by kernel_rfl), .inl rfl⟩
  · cases h; exact ⟨_, [], Try.func8, gantrylaw12_ConvexSides_c, noInl_ok (by kernel_rfl), .inl rfl⟩
  · cases h; exact ⟨_, [], Try.func9, gantryref12_Shape_c, noInl_ok (by kernel_rfl), .inl rfl⟩
  · cases h; exact ⟨_, [], Try.func10, convex_Sum_c, noInl_ok (by kernel_rfl), .inl rfl⟩
  · cases h; exact ⟨_, [], Try.func11, gantryref12_SamePoints_c, noInl_ok (by kernel_rfl), .inl rfl⟩
  · cases h; exact ⟨_, [], Try.func12, gantryref12_Sum_c, noInl_ok (by kernel_rfl), .inl rfl⟩
  · cases h; exact ⟨_, [], Try.func13, gantryref12_Vec_c, noInl_ok (by kernel_rfl), .inl rfl⟩
  · cases h; exact ⟨_, [], Try.func14, convex_Has_c, noInl_ok (by kernel_rfl), .inl rfl⟩
  · cases h; exact ⟨_, [], Try.func15, gantryref12_Has_c, noInl_ok (by kernel_rfl), .inl rfl⟩
  · cases h; exact ⟨_, [], Try.func16, gantrylaw12_lives_c, noInl_ok (by kernel_rfl), .inl rfl⟩
  · cases h; exact ⟨_, [51], Try.func17, convex_Sides_c, by simp only [InlOk, convex_Sides, convex_Sides_l1, convex_Sides_l3, eq_true convex_Sides_i0_n, eq_true (noInl_ok (P := Try.prog) (L := [51]) (c := convex_Sides_i0) (by kernel_rfl)), eq_true convex_Sides_i2_n, eq_true (noInl_ok (P := Try.prog) (L := [51]) (c := convex_Sides_i2) (by kernel_rfl)), and_self, and_true], .inr fun b hb => by cases hb; kernel_rfl⟩
  · cases h; exact ⟨_, [], Try.func18, rat_Compare_c, noInl_ok (by kernel_rfl), .inl rfl⟩
  · cases h; exact ⟨_, [], Try.func19, gantryref12_Dot_c, noInl_ok (by kernel_rfl), .inl rfl⟩
  · cases h; exact ⟨_, [], Try.func20, rat_Of_c, noInl_ok (by kernel_rfl), .inl rfl⟩
  · cases h; exact ⟨_, [], Try.func21, rat_Sub_c, noInl_ok (by kernel_rfl), .inl rfl⟩
  · cases h; exact ⟨_, [], Try.func22, gantryref01_Around_c, noInl_ok (by kernel_rfl), .inl rfl⟩
  · cases h; exact ⟨_, [], Try.func23, gantryref12_Move_c, noInl_ok (by kernel_rfl), .inl rfl⟩
  · cases h; exact ⟨_, [], Try.func24, convex_Area_c, noInl_ok (by kernel_rfl), .inl rfl⟩
  · cases h; exact ⟨_, [], Try.func25, convex_Valid_c, noInl_ok (by kernel_rfl), .inl rfl⟩
  · cases h; exact ⟨_, [], Try.func26, gantryref12_Turn_c, noInl_ok (by kernel_rfl), .inl rfl⟩
  · cases h; exact ⟨_, [], Try.func27, convex_Most_c, noInl_ok (by kernel_rfl), .inl rfl⟩
  · cases h; exact ⟨_, [], Try.func28, gantryref05_Compare_c, noInl_ok (by kernel_rfl), .inl rfl⟩
  · cases h; exact ⟨_, [], Try.func29, gantryref05_Of_c, noInl_ok (by kernel_rfl), .inl rfl⟩
  · cases h; exact ⟨_, [], Try.func30, convex_Norm_c, noInl_ok (by kernel_rfl), .inl rfl⟩
  · cases h; exact ⟨_, [], Try.func31, gantryref12_Next_c, noInl_ok (by kernel_rfl), .inl rfl⟩
  · cases h; exact ⟨_, [], Try.func32, gantryref12_SameEdges_c, noInl_ok (by kernel_rfl), .inl rfl⟩
  · cases h; exact ⟨_, [], Try.func33, gantryref12_Sides_c, noInl_ok (by kernel_rfl), .inl rfl⟩
  · cases h; exact ⟨_, [], Try.func34, gantryref12_Area_c, noInl_ok (by kernel_rfl), .inl rfl⟩
  · cases h; exact ⟨_, [], Try.func35, convex_Box_c, noInl_ok (by kernel_rfl), .inl rfl⟩
  · cases h; exact ⟨_, [], Try.func36, gantryref12_Box_c, noInl_ok (by kernel_rfl), .inl rfl⟩
  · cases h; exact ⟨_, [], Try.func37, gantryref12_Most_c, noInl_ok (by kernel_rfl), .inl rfl⟩
  · cases h; exact ⟨_, [], Try.func38, gantryref01_At_c, noInl_ok (by kernel_rfl), .inl rfl⟩
  · cases h; exact ⟨_, [], Try.func39, slices_MinFunc_api_Point_api_Point_c, noInl_ok (by kernel_rfl), .inl rfl⟩
  · cases h; exact ⟨_, [], Try.func40, convex_Sum_1_c, noInl_ok (by kernel_rfl), .inl rfl⟩
  · cases h; exact ⟨_, [], Try.func41, cmp_Or_int_c, noInl_ok (by kernel_rfl), .inl rfl⟩
  · cases h; exact ⟨_, [], Try.func42, cmp_Compare_int_c, noInl_ok (by kernel_rfl), .inl rfl⟩
  · cases h; exact ⟨_, [], Try.func43, convex_cross_c, noInl_ok (by kernel_rfl), .inl rfl⟩
  · cases h; exact ⟨_, [], Try.func44, convex_far_c, noInl_ok (by kernel_rfl), .inl rfl⟩
  · cases h; exact ⟨_, [], Try.func45, gantryref12_Left_c, noInl_ok (by kernel_rfl), .inl rfl⟩
  · cases h; exact ⟨_, [], Try.func46, convex_next_c, noInl_ok (by kernel_rfl), .inl rfl⟩
  · cases h; exact ⟨_, [], Try.func47, rat_Mul_c, noInl_ok (by kernel_rfl), .inl rfl⟩
  · cases h; exact ⟨_, [], Try.func48, gantryref05_Sub_c, noInl_ok (by kernel_rfl), .inl rfl⟩
  · cases h; exact ⟨_, [], Try.func49, gantryref05_Mul_c, noInl_ok (by kernel_rfl), .inl rfl⟩
  · cases h; exact ⟨_, [], Try.func50, gantryref05_Sign_c, noInl_ok (by kernel_rfl), .inl rfl⟩
  · cases h; exact ⟨_, [], Try.func51, convex_Sides_1_c, noInl_ok (by kernel_rfl), .inl rfl⟩
  · cases h; exact ⟨_, [], Try.func52, slices_ContainsFunc_api_Edge_api_Edge_c, noInl_ok (by kernel_rfl), .inl rfl⟩
  · cases h; exact ⟨_, [], Try.func53, convex_Sides_1_1_c, noInl_ok (by kernel_rfl), .inl rfl⟩
  · cases h; exact ⟨_, [], Try.func54, convex_turned_c, noInl_ok (by kernel_rfl), .inl rfl⟩
  · cases h; exact ⟨_, [], Try.func55, rat_Sign_c, noInl_ok (by kernel_rfl), .inl rfl⟩
  · cases h; exact ⟨_, [], Try.func56, integer_Compare_c, noInl_ok (by kernel_rfl), .inl rfl⟩
  · cases h; exact ⟨_, [], Try.func57, integer_Of_c, noInl_ok (by kernel_rfl), .inl rfl⟩
  · cases h; exact ⟨_, [], Try.func58, integer_Mul_c, noInl_ok (by kernel_rfl), .inl rfl⟩
  · cases h; exact ⟨_, [], Try.func59, rat_Den_c, noInl_ok (by kernel_rfl), .inl rfl⟩
  · cases h; exact ⟨_, [], Try.func60, gantryref05_Add_c, noInl_ok (by kernel_rfl), .inl rfl⟩
  · cases h; exact ⟨_, [], Try.func61, rat_Make_c, noInl_ok (by kernel_rfl), .inl rfl⟩
  · cases h; exact ⟨_, [], Try.func62, rat_Add_c, noInl_ok (by kernel_rfl), .inl rfl⟩
  · cases h; exact ⟨_, [], Try.func63, rat_Neg_c, noInl_ok (by kernel_rfl), .inl rfl⟩
  · cases h; exact ⟨_, [], Try.func64, convex_Valid_1_c, noInl_ok (by kernel_rfl), .inl rfl⟩
  · cases h; exact ⟨_, [], Try.func65, slices_ContainsFunc_api_Point_api_Point_c, noInl_ok (by kernel_rfl), .inl rfl⟩
  · cases h; exact ⟨_, [], Try.func66, convex_dot_c, noInl_ok (by kernel_rfl), .inl rfl⟩
  · cases h; exact ⟨_, [], Try.func67, slices_MaxFunc_api_Point_api_Point_c, noInl_ok (by kernel_rfl), .inl rfl⟩
  · cases h; exact ⟨_, [], Try.func68, convex_Most_1_c, noInl_ok (by kernel_rfl), .inl rfl⟩
  · cases h; exact ⟨_, [], Try.func69, gantryref04_Compare_c, noInl_ok (by kernel_rfl), .inl rfl⟩
  · cases h; exact ⟨_, [], Try.func70, gantryref04_Mul_c, noInl_ok (by kernel_rfl), .inl rfl⟩
  · cases h; exact ⟨_, [], Try.func71, gantryref05_Den_c, noInl_ok (by kernel_rfl), .inl rfl⟩
  · cases h; exact ⟨_, [], Try.func72, gantryref05_Make_c, noInl_ok (by kernel_rfl), .inl rfl⟩
  · cases h; exact ⟨_, [], Try.func73, gantryref04_Of_c, noInl_ok (by kernel_rfl), .inl rfl⟩
  · cases h; exact ⟨_, [], Try.func74, integer_Root_c, noInl_ok (by kernel_rfl), .inl rfl⟩
  · cases h; exact ⟨_, [], Try.func75, integer_Small_c, noInl_ok (by kernel_rfl), .inl rfl⟩
  · cases h; exact ⟨_, [], Try.func76, convex_gcd_c, noInl_ok (by kernel_rfl), .inl rfl⟩
  · cases h; exact ⟨_, [], Try.func77, gantryref12_Norm_c, noInl_ok (by kernel_rfl), .inl rfl⟩
  · cases h; exact ⟨_, [], Try.func78, cmp_isNaN_int_c, noInl_ok (by kernel_rfl), .inl rfl⟩
  · cases h; exact ⟨_, [], Try.func79, rat_lowest_c, noInl_ok (by kernel_rfl), .inl rfl⟩
  · cases h; exact ⟨_, [], Try.func80, gantryref05_Neg_c, noInl_ok (by kernel_rfl), .inl rfl⟩
  · cases h; exact ⟨_, [], Try.func81, gantryref04_Sign_c, noInl_ok (by kernel_rfl), .inl rfl⟩
  · cases h; exact ⟨_, [], Try.func82, slices_IndexFunc_api_Edge_api_Edge_c, noInl_ok (by kernel_rfl), .inl rfl⟩
  · cases h; exact ⟨_, [], Try.func83, integer_Sign_c, noInl_ok (by kernel_rfl), .inl rfl⟩
  · cases h; exact ⟨_, [], Try.func84, integer_compare_c, noInl_ok (by kernel_rfl), .inl rfl⟩
  · cases h; exact ⟨_, [], Try.func85, integer_unsigned_c, noInl_ok (by kernel_rfl), .inl rfl⟩
  · cases h; exact ⟨_, [], Try.func86, integer_of_c, noInl_ok (by kernel_rfl), .inl rfl⟩
  · cases h; exact ⟨_, [], Try.func87, rat_one_c, noInl_ok (by kernel_rfl), .inl rfl⟩
  · cases h; exact ⟨_, [], Try.func88, gantryref04_Add_c, noInl_ok (by kernel_rfl), .inl rfl⟩
  · cases h; exact ⟨_, [], Try.func89, integer_Gcd_c, noInl_ok (by kernel_rfl), .inl rfl⟩
  · cases h; exact ⟨_, [], Try.func90, rat_unit_c, noInl_ok (by kernel_rfl), .inl rfl⟩
  · cases h; exact ⟨_, [], Try.func91, integer_Div_c, noInl_ok (by kernel_rfl), .inl rfl⟩
  · cases h; exact ⟨_, [], Try.func92, integer_Add_c, noInl_ok (by kernel_rfl), .inl rfl⟩
  · cases h; exact ⟨_, [], Try.func93, integer_Neg_c, noInl_ok (by kernel_rfl), .inl rfl⟩
  · cases h; exact ⟨_, [], Try.func94, slices_IndexFunc_api_Point_api_Point_c, noInl_ok (by kernel_rfl), .inl rfl⟩
  · cases h; exact ⟨_, [], Try.func95, gantryref04_compared_c, noInl_ok (by kernel_rfl), .inl rfl⟩
  · cases h; exact ⟨_, [], Try.func96, gantryref04_normal_c, noInl_ok (by kernel_rfl), .inl rfl⟩
  · cases h; exact ⟨_, [], Try.func97, gantryref04_Gcd_c, noInl_ok (by kernel_rfl), .inl rfl⟩
  · cases h; exact ⟨_, [], Try.func98, gantryref04_Div_c, noInl_ok (by kernel_rfl), .inl rfl⟩
  · cases h; exact ⟨_, [], Try.func99, gantryref04_Neg_c, noInl_ok (by kernel_rfl), .inl rfl⟩
  · cases h; exact ⟨_, [], Try.func100, gantryref05_one_c, noInl_ok (by kernel_rfl), .inl rfl⟩
  · cases h; exact ⟨_, [], Try.func101, gantryref04_Root_c, noInl_ok (by kernel_rfl), .inl rfl⟩
  · cases h; exact ⟨_, [], Try.func102, gantryref04_Small_c, noInl_ok (by kernel_rfl), .inl rfl⟩
  · cases h; exact ⟨_, [], Try.func103, gantryref12_divisor_c, noInl_ok (by kernel_rfl), .inl rfl⟩
  · cases h; exact ⟨_, [], Try.func104, gantryref12_size_c, noInl_ok (by kernel_rfl), .inl rfl⟩
  · cases h; exact ⟨_, [], Try.func105, gantryref04_plus_c, noInl_ok (by kernel_rfl), .inl rfl⟩
  · cases h; exact ⟨_, [], Try.func106, gantryref04_minus_c, noInl_ok (by kernel_rfl), .inl rfl⟩
  · cases h; exact ⟨_, [], Try.func107, integer_two_c, noInl_ok (by kernel_rfl), .inl rfl⟩
  · cases h; exact ⟨_, [], Try.func108, integer_divide_c, noInl_ok (by kernel_rfl), .inl rfl⟩
  · cases h; exact ⟨_, [], Try.func109, integer_plus_c, noInl_ok (by kernel_rfl), .inl rfl⟩
  · cases h; exact ⟨_, [], Try.func110, integer_minus_c, noInl_ok (by kernel_rfl), .inl rfl⟩
  · cases h; exact ⟨_, [], Try.func111, gantryref04_tiny_c, noInl_ok (by kernel_rfl), .inl rfl⟩
  · cases h; exact ⟨_, [], Try.func112, gantryref04_divided_c, noInl_ok (by kernel_rfl), .inl rfl⟩
  · cases h; exact ⟨_, [], Try.func113, gantryref04_digit_c, noInl_ok (by kernel_rfl), .inl rfl⟩
  · cases h; exact ⟨_, [], Try.func114, integer_short_c, noInl_ok (by kernel_rfl), .inl rfl⟩
  · cases h; exact ⟨_, [], Try.func115, integer_long_c, noInl_ok (by kernel_rfl), .inl rfl⟩
  · cases h; exact ⟨_, [], Try.func116, gantryref04_times_c, noInl_ok (by kernel_rfl), .inl rfl⟩
  · cases h; exact ⟨_, [], Try.func117, integer_scaled_c, noInl_ok (by kernel_rfl), .inl rfl⟩
  · cases h
end Go.AM

/- The seat's functions, and that their small texts are theirs. -/
namespace Go.AM
open Go Go.Proofs
/-- What the seat's iterators yield. -/
class Its where
  it : Nat → List D → Option (List (List D))
  orc : Nat → List D → Option R := fun _ _ => none
abbrev noIts : Its := { it := fun _ _ => none }
def G [Its] : Env := ⟨ft, Its.orc, Its.it⟩
theorem env_okO [Its] (h : ∀ f ds xs, Its.it f ds = some xs → ItOk Try.prog f ds xs) (ho : ∀ f ds r, ft f = none → Its.orc f ds = some r → CallOk Try.prog f ds r) : EnvOk Try.prog G := ⟨by kernel_rfl, ft_ok, ho, h⟩
theorem env_ok [Its] (h : ∀ f ds xs, Its.it f ds = some xs → ItOk Try.prog f ds xs) (h0 : ∀ f ds, (Its.orc f ds : Option R) = none := by intros; rfl) : EnvOk Try.prog G := env_okO h fun f ds r _ h => by rw [h0] at h; cases h
theorem env_ok0 : EnvOk Try.prog (@G noIts) := @env_ok noIts (fun _ _ _ h => by cases h) (fun _ _ => rfl)
end Go.AM

/- law12.lives: Sum, SamePoints, SameEdges, by the kernel. -/
namespace Go.AM
open Go Go.RowKit
def sqD : D := .row 4 [iv 0, iv 0, iv 2, iv 0, iv 2, iv 2, iv 0, iv 2]
def triD : D := .row 3 [iv 0, iv 0, iv 4, iv 0, iv 0, iv 3]
def sumC : List D := [iv 0, iv (-3), iv 2, iv (-3), iv 2, iv 2, iv (-4), iv 2, iv (-4), iv 0]
def sidC : List D := [iv 0, iv (-1), iv 1, iv 3, iv 1, iv 0, iv 1, iv 2, iv 0, iv 1, iv 1, iv 2, iv (-1), iv 0, iv 1, iv 4, iv (-3), iv (-4), iv 5, iv 12]
variable [Its]
theorem lp1 : callX G n_convex_Sum [sqD, triD] = some (.own 2 5 sumC) := callX_some.2 ⟨60, by kernel_rfl⟩
theorem lp2 : callX G n_gantryref12_SamePoints [.row 5 sumC, .row 5 sumC] = some (.d (bv true)) := callX_some.2 ⟨60, by kernel_rfl⟩
theorem lp3 : callX G n_gantryref12_SameEdges [.row 5 sidC, .row 5 sidC] = some (.d (bv true)) := callX_some.2 ⟨60, by kernel_rfl⟩
end Go.AM

/- law12.lives: Has, by the kernel. -/
namespace Go.AM
open Go Go.RowKit
def triD' : D := .row 3 [iv 0, iv 0, iv 4, iv 0, iv 0, iv 3]
def n2 : List D := [.v (.bool false), .row 1 [iv 2], .v (.bool false), .z true]
def n32 : List D := [.v (.bool false), .row 1 [iv 3], .v (.bool false), .row 1 [iv 2]]
variable [Its]
theorem lq1 : callX G n_gantryref05_Of [iv 2, iv 1] = some (.d (.agg n2)) := callX_some.2 ⟨60, by kernel_rfl⟩
theorem lq2 : callX G n_gantryref05_Of [iv 3, iv 2] = some (.d (.agg n32)) := callX_some.2 ⟨60, by kernel_rfl⟩
theorem lq3 : callX G n_convex_Has [triD', .agg (n2 ++ n32)] = some (.d (bv true)) := callX_some.2 ⟨80, by kernel_rfl⟩
theorem lq4 : callX G n_convex_Has [triD', .agg (n2 ++ n2)] = some (.d (bv false)) := callX_some.2 ⟨80, by kernel_rfl⟩
end Go.AM

/- How the evaluator is run by simp: its equations, and lemmas on data. -/
namespace Go.AM
open Go Go.RowKit


theorem upd_get (f : Fr) (i j : Nat) (x : A) : upd f i x j = if j = i then some x else f j := rfl
theorem hupd_get (f : Hp) (i j : Key) (x : Obj) : hupd f i x j = if j = i then some x else f j := rfl
theorem updO_some (f : Fr) (i : Nat) (x : A) : updO f i (some x) = upd f i x := rfl
theorem hupdO_some (f : Hp) (i : Key) (x : Obj) : hupdO f i (some x) = hupd f i x := rfl
theorem updO_get (f : Fr) (i j : Nat) (x : Option A) : updO f i x j = if j = i then x else f j := rfl
theorem hupdO_get (f : Hp) (i j : Key) (x : Option Obj) : hupdO f i x j = if j = i then x else f j := rfl
theorem fr0_get (i : Nat) : fr0 i = none := rfl
theorem hp0_get (i : Key) : hp0 i = none := rfl

/-- The wrap of a number, behind a wall: nobody unfolds it. -/
theorem w64_ex : ∃ f : Int → Int, ∀ n, IntKind.i64.wrap n = f n := ⟨_, fun _ => rfl⟩
noncomputable def w64 : Int → Int := Classical.choose w64_ex
theorem wrap_i64 (n : Int) : IntKind.i64.wrap n = w64 n := Classical.choose_spec w64_ex n
theorem w64_id {n : Int} (h0 : -9223372036854775808 ≤ n) (h1 : n < 9223372036854775808) : w64 n = n := by
  rw [← wrap_i64]
  unfold IntKind.wrap
  simp only [IntKind.signed, IntKind.bits, Bool.true_and, decide_eq_true_eq, ge_iff_le]
  by_cases h : (2 : Int) ^ (64 - 1) ≤ n % 2 ^ 64
  · rw [if_pos h]; omega
  · rw [if_neg h]; omega

theorem bind_ite {α β : Type} (c : Prop) [Decidable c] (x y : Option α) (f : α → Option β) : (if c then x else y).bind f = if c then x.bind f else y.bind f := by split <;> rfl
theorem map_ite {α β : Type} (c : Prop) [Decidable c] (x y : Option α) (f : α → β) : (if c then x else y).map f = if c then x.map f else y.map f := by split <;> rfl
/-! ### Rows of numbers -/
def dg (l : List Int) : D := if l = [] then .z true else .row l.length (l.map iv)
theorem dg_nil : dg [] = .z true := rfl
theorem dg_cons (x : Int) (l : List Int) : dg (x :: l) = .row (l.length + 1) (iv x :: l.map iv) := rfl
theorem dg_ne {l : List Int} (h : l ≠ []) : dg l = .row l.length (l.map iv) := if_neg h

theorem lenA_dg (l : List Int) : lenA (.d (dg l)) = some l.length := by
  cases l with
  | nil => rfl
  | cons x l => rfl
theorem ixa_dg (h : Hp) (l : List Int) {j : Int} (h0 : 0 ≤ j) (h1 : j < l.length) : ixaA h 1 j (.d (dg l)) = some (.d (.rp ((l.drop j.toNat).map iv))) := by
  have hl : l ≠ [] := by rintro rfl; simp at h1; omega
  rw [dg_ne hl]
  simp only [ixaA, guardO]
  rw [if_pos ⟨h0, h1⟩, Nat.mul_one, List.map_drop]
theorem load_rp_ints (h : Hp) (l : List Int) {j : Nat} (h1 : j < l.length) : loadA h none (.d (.rp ((l.drop j).map iv))) = some (.d (.v (.int .i64 (l.getD j 0)))) := by
  simp only [loadA, ldrow]
  rw [List.head?_map, List.head?_drop]
  simp [h1, iv]
theorem src_dg (st : St) (l : List Int) : src st (.d (dg l)) = some (l.length, l.map iv) := by
  cases l with
  | nil => rfl
  | cons x l => rfl
/-! ### The helpers at each kind of value -/
theorem lenA_z (b : Bool) : lenA (.d (.z b)) = some 0 := rfl
theorem lenA_row (n : Nat) (cs : List D) : lenA (.d (.row n cs)) = some n := rfl
theorem lenA_own (k : Key) (n : Nat) : lenA (.own k n) = some n := rfl
theorem loadA_ptr (h : Hp) (sz : Option Nat) (k : Key) (off : Nat) : loadA h sz (.ptr k off) = (h k).bind fun o => ldcells sz off o.cs := rfl
theorem loadA_ep (h : Hp) (sz : Option Nat) (k : Key) (n off : Nat) : loadA h sz (.ep k n off) = (h k).bind fun o => guardO (o.n = n) (ldcells sz off o.cs) := rfl
theorem loadA_rc (h : Hp) (f : Nat) : loadA h none (.d (.rc f)) = some (.d (.fn f [.rc f])) := rfl
theorem fadA_ptr (i : Nat) (k : Key) (o : Nat) : fadA i (.ptr k o) = some (.ptr k (o + i)) := rfl
theorem fadA_ep (i : Nat) (k : Key) (n o : Nat) : fadA i (.ep k n o) = some (.ep k n (o + i)) := rfl
theorem fadA_rp (i : Nat) (cs : List D) : fadA i (.d (.rp cs)) = some (.d (.rp (cs.drop i))) := rfl
theorem ixaA_own (h : Hp) (es : Nat) (j : Int) (q : Key) (n : Nat) : ixaA h es j (.own q n) = (h q).bind fun o => guardO (o.n = n ∧ 0 ≤ j ∧ j < n) (some (.ep q n (j.toNat * es))) := rfl
theorem storeA_ptr (h : Hp) (v : A) (k : Key) (off : Nat) : storeA h v (.ptr k off) = (h k).bind fun o => guardO (o.fz = false) ((stcells off (cellsOf v) o.cs).map fun cs => hupd h k { o with cs }) := rfl
theorem storeA_ep (h : Hp) (v : A) (k : Key) (n off : Nat) : storeA h v (.ep k n off) = (h k).bind fun o => guardO (o.fz = false ∧ o.n = n) ((allD (cellsOf v)).bind fun _ => (stcells off (cellsOf v) o.cs).map fun cs => hupd h k { o with cs }) := rfl
theorem strA_s (s : ByteArray) : strA (.d (.v (.string s))) = some s := rfl
theorem valA_v (x : Value) : valA (.d (.v x)) = some x := rfl
theorem aggA_g (cs : List D) : aggA (.d (.agg cs)) = some cs := rfl
theorem extA_t (i : Nat) (xs : List D) : extA i (.d (.tup xs)) = (xs[i]?).map .d := rfl
theorem fnA_f (f : Nat) (c : List D) : fnA (.d (.fn f c)) = some (f, c) := rfl
theorem int_i (k : IntKind) (n : Int) : A.int? (.d (.v (.int k n))) = some n := rfl
theorem bool_b (b : Bool) : A.bool? (.d (.v (.bool b))) = some b := rfl
theorem argD_d (st : St) (x : D) : argD st (.d x) = some (x, true) := rfl
theorem argD_own (st : St) (k : Key) (n : Nat) : argD st (.own k n) = (st.hp k).bind fun o => guardO (o.n = n) ((allD o.cs).map fun cs => (.row n cs, o.fz)) := rfl
theorem toD_d (st : St) (x : D) : toD st (.d x) = some x := rfl
theorem toD_own (st : St) (k : Key) (n : Nat) : toD st (.own k n) = (st.hp k).bind fun o => guardO (o.n = n) ((allD o.cs).map fun cs => .row n cs) := rfl
theorem retA_d (k : Key) (h : Hp) (ad fz : Bool) (x : D) : retA k h ad fz (.d x) = guardO (fz = true ∨ x.flat = true) (some (.d x, h)) := rfl
theorem retA_own (k : Key) (h : Hp) (ad fz : Bool) (es n : Nat) (cs : List D) : retA k h ad fz (.own es n cs) = guardO (fz = true) (mkA k h (!ad) es n cs) := rfl
theorem mkA_t (k : Key) (h : Hp) (es n : Nat) (cs : List D) : mkA k h true es n cs = some (.d (.row n cs), h) := rfl
theorem mkA_f (k : Key) (h : Hp) (es n : Nat) (cs : List D) : mkA k h false es n cs = guardO ((h k).isNone = true) (some (.own k n, hupd h k ⟨es, n, cs.map .d, false⟩)) := rfl
theorem appA_z (k : Key) (h : Hp) (fz : Bool) (es by_ m : Nat) (ys : List D) (b : Bool) : appA k h fz es by_ m ys (.d (.z b)) =
    guardO (m * by_ ≤ bound ∧ ys.length = m * es) (if m = 0 then some (.d (.z b), h) else mkA k h fz es m ys) := rfl
theorem appA_own (k : Key) (h : Hp) (fz : Bool) (es by_ m : Nat) (ys : List D) (q : Key) (n : Nat) : appA k h fz es by_ m ys (.own q n) =
    (h q).bind fun o => guardO (o.n = n ∧ o.fz = false ∧ o.es = es ∧ o.cs.length = n * es ∧ (n + m) * by_ ≤ bound ∧ ys.length = m * es ∧ ys.all D.one = true)
      (if fz then (allD o.cs).map fun cs => (.d (.row (n + m) (cs ++ ys)), hupd h q ⟨es, n + m, o.cs ++ ys.map .d, true⟩)
       else some (.own q (n + m), hupd h q ⟨es, n + m, o.cs ++ ys.map .d, false⟩)) := rfl
theorem ex_n_x (i : Nat) : (Ex.n = Ex.x i) = False := by simp
theorem ex_x_n (i : Nat) : (Ex.x i = Ex.n) = False := by simp
theorem ex_x_x (i j : Nat) : (Ex.x i = Ex.x j) = (i = j) := by simp
theorem ex_r_n : (Ex.r = Ex.n) = False := by simp
theorem ex_r_x (i : Nat) : (Ex.r = Ex.x i) = False := by simp
theorem ex_n_n : (Ex.n = Ex.n) = True := by simp

theorem bind_congr_l {α β : Type} {x y : Option α} {f : α → Option β} (h : x = y) : x.bind f = y.bind f := by rw [h]
theorem map_congr_l {α β : Type} {x y : Option α} {f : α → β} (h : x = y) : x.map f = y.map f := by rw [h]

attribute [go_sem] X_seq X_reg X_cond X_blk X_keep X_frz X_exit X_ret X_skip exs exO act wantedO putO E.ev allE argsD upd_get hupd_get fr0_get hp0_get
  Option.bind_some Option.map_some Option.bind_none Option.map_none Option.getD_some Option.getD_none Option.isNone_none Option.isNone_some guardO binV binI shOp undefA iA
  endOf ending resL resV argF keepSt keepF keepH keepRefs keepRefsH refsO refsOO updO_some hupdO_some updO_get hupdO_get refs refsL List.all_nil List.all_cons wrap_i64 bind_ite map_ite
  lenA_z lenA_row lenA_own loadA_ptr loadA_ep loadA_rc fadA_ptr fadA_ep fadA_rp ixaA_own storeA_ptr storeA_ep strA_s valA_v aggA_g extA_t fnA_f int_i bool_b argD_d argD_own toD_d toD_own
  retA_d retA_own mkA_t mkA_f appA_z appA_own lenA_dg ex_n_x ex_x_n ex_x_x ex_r_n ex_r_x ex_n_n
theorem key1 (a b : Nat) : (([a] : Key) = [b]) = (a = b) := by simp
theorem tt_true : (true = true) = True := by simp
theorem ft_false : (false = true) = False := by simp
theorem lenD1 (a : D) : ([a] : List D).length = 1 := rfl
theorem lenD2 (a b : D) : ([a, b] : List D).length = 2 := rfl
theorem lenD3 (a b c : D) : ([a, b, c] : List D).length = 3 := rfl
theorem lenD4 (a b c d : D) : ([a, b, c, d] : List D).length = 4 := rfl
attribute [go_sem] X_inl calA argFA inlSt waitO capO asideO joinH goneO resA Ex.fin
attribute [go_sem] lenD1 lenD2 lenD3 lenD4 key1 Key.isIn List.any_cons List.any_nil tt_true ft_false decide_true decide_false Bool.and_true Bool.true_and Bool.and_self Bool.or_true Bool.true_or Bool.or_false Bool.false_or and_true true_and and_self
theorem ge_t {a b : Int} (h : a ≥ b) : decide (a ≥ b) = true := decide_eq_true h
theorem ge_f {a b : Int} (h : ¬ a ≥ b) : decide (a ≥ b) = false := decide_eq_false h
theorem gt_t {a b : Int} (h : a > b) : decide (a > b) = true := decide_eq_true h
theorem gt_f {a b : Int} (h : ¬ a > b) : decide (a > b) = false := decide_eq_false h
theorem lt_t {a b : Int} (h : a < b) : decide (a < b) = true := decide_eq_true h
theorem lt_f {a b : Int} (h : ¬ a < b) : decide (a < b) = false := decide_eq_false h
theorem le_t {a b : Int} (h : a ≤ b) : decide (a ≤ b) = true := decide_eq_true h
theorem le_f {a b : Int} (h : ¬ a ≤ b) : decide (a ≤ b) = false := decide_eq_false h
theorem beq_t {a b : Int} (h : a = b) : (a == b) = true := by simp [h]
theorem beq_f {a b : Int} (h : a ≠ b) : (a == b) = false := by simp [h]
theorem bne_t {a b : Int} (h : a ≠ b) : (a != b) = true := by simp [h]
theorem bne_f {a b : Int} (h : a = b) : (a != b) = false := by simp [h]
theorem ofNat_cast (n : Nat) : Int.ofNat n = (n : Int) := rfl
theorem one_int (k : IntKind) (n : Int) : A.one (.d (.v (.int k n))) = true := rfl
theorem one_bool (b : Bool) : A.one (.d (.v (.bool b))) = true := rfl
theorem one_str (b : ByteArray) : A.one (.d (.v (.string b))) = true := rfl
theorem one_z (b : Bool) : A.one (.d (.z b)) = true := rfl
theorem one_row (n : Nat) (cs : List D) : A.one (.d (.row n cs)) = true := rfl
theorem one_own (k : Key) (n : Nat) : A.one (.own k n) = true := rfl
theorem one_ptr (k : Key) (n : Nat) : A.one (.ptr k n) = true := rfl
theorem one_dg' (l : List Int) : A.one (.d (dg l)) = true := by cases l <;> rfl
theorem one_agg (cs : List D) : A.one (.d (.agg cs)) = false := rfl
theorem cells_agg (cs : List D) : cellsOf (.d (.agg cs)) = cs.map .d := rfl
theorem cells_int (k : IntKind) (n : Int) : cellsOf (.d (.v (.int k n))) = [.d (.v (.int k n))] := rfl
theorem cells_bool (b : Bool) : cellsOf (.d (.v (.bool b))) = [.d (.v (.bool b))] := rfl
theorem cells_str (b : ByteArray) : cellsOf (.d (.v (.string b))) = [.d (.v (.string b))] := rfl
theorem cells_z (b : Bool) : cellsOf (.d (.z b)) = [.d (.z b)] := rfl
theorem cells_row (n : Nat) (cs : List D) : cellsOf (.d (.row n cs)) = [.d (.row n cs)] := rfl
theorem cells_dg (l : List Int) : cellsOf (.d (dg l)) = [.d (dg l)] := by cases l <;> rfl
theorem cells_own (k : Key) (n : Nat) : cellsOf (.own k n) = [.own k n] := rfl
theorem cells_ptr (k : Key) (n : Nat) : cellsOf (.ptr k n) = [.ptr k n] := rfl
theorem dc_agg (cs : List D) : dcells (.d (.agg cs)) = some cs := rfl
theorem dc_int (k : IntKind) (n : Int) : dcells (.d (.v (.int k n))) = some [.v (.int k n)] := rfl
theorem dc_bool (b : Bool) : dcells (.d (.v (.bool b))) = some [.v (.bool b)] := rfl
theorem dc_str (b : ByteArray) : dcells (.d (.v (.string b))) = some [.v (.string b)] := rfl
theorem dc_z (b : Bool) : dcells (.d (.z b)) = some [.z b] := rfl
theorem dc_row (n : Nat) (cs : List D) : dcells (.d (.row n cs)) = some [.row n cs] := rfl
theorem dc_dg (l : List Int) : dcells (.d (dg l)) = some [dg l] := by cases l <;> rfl
theorem dc_fn (f : Nat) (cs : List D) : dcells (.d (.fn f cs)) = some [.fn f cs] := rfl
theorem rep_1 (z : D) : rep 1 [z] = [z] := rfl
theorem rep_2 (z : D) : rep 2 [z] = [z, z] := rfl
theorem rep_3 (z : D) : rep 3 [z] = [z, z, z] := rfl
theorem wrap_u64 (n : Int) : IntKind.u64.wrap n = n % 18446744073709551616 := by
  unfold IntKind.wrap
  simp [IntKind.signed, IntKind.bits]
theorem base_ne : ((1000000000 : Int) = 0) = False := by simp
theorem nc0 : ((0 : Nat) : Int) = 0 := rfl
theorem toNat0 : Int.toNat 0 = 0 := rfl
theorem ob_ft : (some false = some true) = False := by simp
theorem ob_tf : (some true = some false) = False := by simp
theorem ob_tt : (some true = some true) = True := by simp
theorem ob_ff : (some false = some false) = True := by simp
theorem tf_false : (true = false) = False := by simp
theorem ff_true : (false = false) = True := by simp
attribute [go_sem] rep_1 rep_2 rep_3 wrap_u64 base_ne fillD Nat.reduceMul Nat.reduceSub List.getElem?_cons_zero List.getElem?_cons_succ List.getElem?_nil true_or or_true or_self false_or or_false and_false false_and nc0 toNat0 Nat.sub_zero Nat.mul_one Nat.zero_mul ofNat_cast List.map_cons List.map_nil List.length_cons List.length_nil Nat.reduceAdd Nat.reduceLeDiff List.take_succ_cons List.take_zero List.drop_succ_cons List.drop_zero List.drop_nil List.take_nil List.nil_append List.cons_append List.append_nil Int.toNat_natCast ob_ft ob_tf ob_tt ob_ff tf_false ff_true Bool.not_true Bool.not_false Bool.false_and Bool.and_false unV eqD slcA bnds optI cut srcS bytesD partsD partsB fillB D.flat ldrow allD one_int one_bool one_str one_z one_row one_own one_ptr one_dg' one_agg cells_agg cells_int cells_bool cells_str cells_z cells_row cells_dg cells_own cells_ptr dc_agg dc_int dc_bool dc_str dc_z dc_row dc_dg dc_fn
attribute [congr] bind_congr_l map_congr_l
end Go.AM

/- Numbers in digits: plain mathematics, no program in sight. -/
namespace Go.AM


def digs : Nat → List Int
  | 0 => []
  | n + 1 => (((n + 1) % 1000000000 : Nat) : Int) :: digs ((n + 1) / 1000000000)
  decreasing_by omega
def val : List Int → Int
  | [] => 0
  | d :: r => d + 1000000000 * val r
def Dig (l : List Int) : Prop := ∀ d ∈ l, 0 ≤ d ∧ d < 1000000000

theorem digs_zero : digs 0 = [] := by rw [digs]
theorem digs_pos {n : Nat} (h : 0 < n) : digs n = ((n % 1000000000 : Nat) : Int) :: digs (n / 1000000000) := by
  cases n with
  | zero => omega
  | succ n => rw [digs]
theorem Dig.nil : Dig [] := by intro d h; cases h
theorem Dig.cons {d : Int} {l : List Int} : Dig (d :: l) ↔ (0 ≤ d ∧ d < 1000000000) ∧ Dig l := by
  constructor
  · intro h; exact ⟨h d (by simp), fun e he => h e (by simp [he])⟩
  · rintro ⟨h1, h2⟩ e he
    rcases List.mem_cons.1 he with rfl | he
    · exact h1
    · exact h2 e he
theorem Dig.append {l m : List Int} : Dig (l ++ m) ↔ Dig l ∧ Dig m := by
  constructor
  · intro h; exact ⟨fun e he => h e (by simp [he]), fun e he => h e (by simp [he])⟩
  · rintro ⟨h1, h2⟩ e he
    rcases List.mem_append.1 he with he | he
    · exact h1 e he
    · exact h2 e he
theorem Dig.take {l : List Int} (h : Dig l) (n : Nat) : Dig (l.take n) := fun e he => h e (List.mem_of_mem_take he)
theorem Dig.drop {l : List Int} (h : Dig l) (n : Nat) : Dig (l.drop n) := fun e he => h e (List.mem_of_mem_drop he)
theorem Dig.getD {l : List Int} (h : Dig l) (i : Nat) : 0 ≤ l.getD i 0 ∧ l.getD i 0 < 1000000000 := by
  rw [List.getD_eq_getElem?_getD]
  cases hq : l[i]? with
  | none => simp
  | some x => exact h x (List.mem_of_getElem? hq)
theorem Dig.set {l : List Int} (h : Dig l) {i : Nat} {d : Int} (hd : 0 ≤ d ∧ d < 1000000000) : Dig (l.set i d) := by
  intro e he
  rcases List.mem_or_eq_of_mem_set he with he | rfl
  · exact h e he
  · exact hd
theorem Dig.replicate (n : Nat) : Dig (List.replicate n 0) := by
  intro e he
  rw [(List.mem_replicate.1 he).2]; omega

theorem digs_dig : ∀ n : Nat, Dig (digs n) := by
  intro n
  induction n using Nat.strongRecOn with
  | _ n ih =>
    rcases Nat.eq_zero_or_pos n with rfl | h
    · rw [digs_zero]; exact .nil
    · rw [digs_pos h, Dig.cons]
      exact ⟨by omega, ih _ (by omega)⟩
theorem val_digs : ∀ n : Nat, val (digs n) = n := by
  intro n
  induction n using Nat.strongRecOn with
  | _ n ih =>
    rcases Nat.eq_zero_or_pos n with rfl | h
    · rw [digs_zero]; rfl
    · rw [digs_pos h, val, ih _ (by omega)]
      omega
theorem val_nonneg : ∀ {l : List Int}, Dig l → 0 ≤ val l
  | [], _ => Int.le_refl _
  | d :: r, h => by
    obtain ⟨h1, h2⟩ := Dig.cons.1 h
    have := val_nonneg h2
    simp only [val]
    omega
theorem digs_ne {n : Nat} : digs n = [] ↔ n = 0 := by
  constructor
  · intro h
    rcases Nat.eq_zero_or_pos n with h' | h'
    · exact h'
    · rw [digs_pos h'] at h; cases h
  · rintro rfl; exact digs_zero
theorem digs_length_pos {n : Nat} : 0 < (digs n).length ↔ 0 < n := by
  rw [List.length_pos_iff, ne_eq, digs_ne]; omega

/-- Without zeros at the end. -/
def Top (l : List Int) : Prop := ∀ h : l ≠ [], l.getLast h ≠ 0
theorem digs_top : ∀ n : Nat, Top (digs n) := by
  intro n
  induction n using Nat.strongRecOn with
  | _ n ih =>
    intro h
    rcases Nat.eq_zero_or_pos n with rfl | hp
    · exact absurd digs_zero h
    · have e := digs_pos hp
      by_cases h0 : n / 1000000000 = 0
      · have : digs n = [((n % 1000000000 : Nat) : Int)] := by rw [e, h0, digs_zero]
        simp only [this, List.getLast_singleton]
        omega
      · have hne : digs (n / 1000000000) ≠ [] := by rw [ne_eq, digs_ne]; exact h0
        have : (digs n).getLast h = (digs (n / 1000000000)).getLast hne := by
          simp only [e]
          exact List.getLast_cons hne
        rw [this]
        exact ih _ (by omega) hne
/-- Digits without zeros at the end are those of their value. -/
theorem digs_val : ∀ {l : List Int}, Dig l → Top l → digs (val l).toNat = l
  | [], _, _ => digs_zero
  | d :: r, h, ht => by
    obtain ⟨h1, h2⟩ := Dig.cons.1 h
    have hv := val_nonneg h2
    have htr : Top r := by
      intro hne
      have := ht (by simp)
      rw [List.getLast_cons hne] at this
      exact this
    have ih := digs_val h2 htr
    have hpos : 0 < (val (d :: r)).toNat := by
      simp only [val]
      by_cases hr : r = []
      · subst hr
        have := ht (by simp)
        simp at this
        simp only [val]
        omega
      · have : val r ≠ 0 := by
          intro h0
          rw [h0] at ih
          exact hr (ih.symm.trans digs_zero)
        omega
    rw [digs_pos hpos]
    have e1 : ((val (d :: r)).toNat % 1000000000 : Nat) = d.toNat := by simp only [val]; omega
    have e2 : (val (d :: r)).toNat / 1000000000 = (val r).toNat := by simp only [val]; omega
    rw [e1, e2, ih]
    congr 1
    omega
theorem val_append : ∀ (l m : List Int), val (l ++ m) = val l + (1000000000 : Int) ^ l.length * val m
  | [], m => by simp [val]
  | d :: r, m => by
    rw [List.cons_append, val, val_append r m, val, List.length_cons]
    grind
theorem val_replicate : ∀ n : Nat, val (List.replicate n 0) = 0
  | 0 => rfl
  | n + 1 => by rw [List.replicate_succ, val, val_replicate n]; rfl
theorem val_lt : ∀ {l : List Int}, Dig l → val l < (1000000000 : Int) ^ l.length
  | [], _ => by simp [val]
  | d :: r, h => by
    obtain ⟨h1, h2⟩ := Dig.cons.1 h
    have := val_lt h2
    rw [val, List.length_cons, Int.pow_succ]
    grind
theorem val_set : ∀ (l : List Int) (i : Nat) (d : Int), i < l.length → val (l.set i d) = val l + (1000000000 : Int) ^ i * (d - l.getD i 0)
  | [], i, d, h => by simp at h
  | e :: r, 0, d, h => by simp [val]; omega
  | e :: r, i + 1, d, h => by
    rw [List.set_cons_succ, val, val, val_set r i d (by simpa using h)]
    simp only [List.getD_cons_succ]
    grind
theorem pow_mono {n m : Nat} (h : n ≤ m) : (1000000000 : Int) ^ n ≤ (1000000000 : Int) ^ m := by
  obtain ⟨k, rfl⟩ := Nat.exists_eq_add_of_le h
  rw [Int.pow_add]
  have h1 : (0 : Int) < (1000000000 : Int) ^ k := Int.pow_pos (by omega)
  have h2 : (0 : Int) ≤ (1000000000 : Int) ^ n := Int.pow_nonneg (by omega)
  have h3 : (1000000000 : Int) ^ n * 1 ≤ (1000000000 : Int) ^ n * (1000000000 : Int) ^ k := Int.mul_le_mul_of_nonneg_left (by omega) h2
  omega
end Go.AM

/- Integers as the program holds them. -/
namespace Go.AM
open Go Go.RowKit

def sgn (neg : Bool) (x : Int) : Int := if neg then -x else x
def encI (x : Int) : D := .agg [bv (decide (x < 0)), dg (digs x.natAbs)]
/-- A row of these numbers. -/
def rowI (l : List Int) : D := .row l.length (l.map iv)
def I64 (n : Int) : Prop := -9223372036854775808 ≤ n ∧ n < 9223372036854775808

theorem ixa_rowI (h : Hp) (l : List Int) {j : Int} (h0 : 0 ≤ j) (h1 : j < l.length) : ixaA h 1 j (.d (rowI l)) = some (.d (.rp ((l.drop j.toNat).map iv))) := by
  simp only [ixaA, guardO, rowI]
  rw [if_pos ⟨h0, h1⟩, Nat.mul_one, List.map_drop]
theorem load_rpI (h : Hp) (l : List Int) {j : Nat} (h1 : j < l.length) : loadA h none (.d (.rp ((l.drop j).map iv))) = some (.d (iv (l.getD j 0))) := load_rp_ints h l h1
/-- Reads these numbers, nil or not. -/
def Rw (d : D) (l : List Int) : Prop := d = dg l ∨ d = rowI l
theorem Rw.dg (l : List Int) : Rw (dg l) l := .inl rfl
theorem Rw.row (l : List Int) : Rw (rowI l) l := .inr rfl
theorem Rw.len {d : D} {l : List Int} (h : Rw d l) : lenA (.d d) = some l.length := by
  rcases h with rfl | rfl
  · exact lenA_dg l
  · rfl
theorem Rw.ixa {d : D} {l : List Int} (hr : Rw d l) {j : Int} (h0 : 0 ≤ j) (h1 : j < l.length) (h : Hp) : ixaA h 1 j (.d d) = some (.d (.rp ((l.drop j.toNat).map iv))) := by
  rcases hr with rfl | rfl
  · exact ixa_dg h l h0 h1
  · exact ixa_rowI h l h0 h1
theorem Rw.ixn {d : D} {l : List Int} (hr : Rw d l) {j : Nat} (h1 : j < l.length) (h : Hp) : ixaA h 1 (j : Int) (.d d) = some (.d (.rp ((l.drop j).map iv))) := by
  have := hr.ixa (j := (j : Int)) (by omega) (by omega) h
  simpa using this
theorem Rw.src {d : D} {l : List Int} (hr : Rw d l) (st : St) : src st (.d d) = some (l.length, l.map iv) := by
  rcases hr with rfl | rfl
  · exact src_dg st l
  · rfl
theorem Rw.ne {d : D} {l : List Int} (hr : Rw d l) (h : l ≠ []) : d = rowI l := by
  rcases hr with rfl | rfl
  · exact dg_ne h
  · rfl
theorem ldv (h : Hp) (l : List Int) {j : Nat} (h1 : j < l.length) : loadA h none (.d (.rp ((l.drop j).map iv))) = some (.d (.v (.int .i64 (l.getD j 0)))) := load_rp_ints h l h1

/-- The length without zeros at the end of the first n. -/
def cutn (l : List Int) : Nat → Nat
  | 0 => 0
  | n + 1 => if l.getD n 0 = 0 then cutn l n else n + 1
theorem cutn_le (l : List Int) : ∀ n, cutn l n ≤ n
  | 0 => Nat.le_refl _
  | n + 1 => by
    rw [cutn]
    split
    · exact Nat.le_succ_of_le (cutn_le l n)
    · exact Nat.le_refl _
theorem val_take_succ (l : List Int) (n : Nat) (h : n < l.length) : val (l.take (n + 1)) = val (l.take n) + (1000000000 : Int) ^ n * l.getD n 0 := by
  have : l.take (n + 1) = l.take n ++ [l.getD n 0] := by
    rw [List.take_add_one]
    simp [List.getD, h]
  rw [this, val_append, List.length_take, Nat.min_eq_left (Nat.le_of_lt h)]
  simp [val]
theorem val_cutn (l : List Int) : ∀ n, n ≤ l.length → val (l.take (cutn l n)) = val (l.take n)
  | 0, _ => rfl
  | n + 1, h => by
    rw [cutn]
    split
    · rename_i h0
      rw [val_cutn l n (by omega), val_take_succ l n (by omega), h0]; omega
    · rfl
theorem top_cutn (l : List Int) : ∀ n, n ≤ l.length → Top (l.take (cutn l n))
  | 0, _ => by intro h; simp [cutn] at h
  | n + 1, h => by
    rw [cutn]
    split
    · exact top_cutn l n (by omega)
    · rename_i h0
      intro hne
      have : l.take (n + 1) = l.take n ++ [l.getD n 0] := by
        rw [List.take_add_one]
        simp [List.getD, (by omega : n < l.length)]
      simp only [this]
      rw [List.getLast_append_of_ne_nil _ (by simp)]
      simpa using h0
theorem digs_cutn {l : List Int} (hd : Dig l) : digs (val l).toNat = l.take (cutn l l.length) := by
  have h1 := val_cutn l l.length (Nat.le_refl _)
  rw [List.take_length] at h1
  rw [← h1]
  exact digs_val (hd.take _) (top_cutn l _ (Nat.le_refl _))
theorem cutn_zero {l : List Int} (hd : Dig l) : cutn l l.length = 0 ↔ val l = 0 := by
  have hc := cutn_le l l.length
  have h1 := digs_cutn hd
  have hv := val_nonneg hd
  constructor
  · intro h
    rw [h, List.take_zero, digs_ne] at h1
    omega
  · intro h
    rw [h] at h1
    have h2 : l.take (cutn l l.length) = [] := by rw [← h1]; exact digs_zero
    have := congrArg List.length h2
    simp at this
    rcases this with h' | h'
    · exact h'
    · subst h'; simp at hc; exact hc
theorem natAbs_sgn (neg : Bool) (x : Int) : (sgn neg x).natAbs = x.natAbs := by cases neg <;> simp [sgn]
theorem encI_sgn {neg : Bool} {l : List Int} (hd : Dig l) : encI (sgn neg (val l)) = if cutn l l.length = 0 then .agg [bv false, .z true] else .agg [bv neg, .row (cutn l l.length) ((l.map iv).take (cutn l l.length))] := by
  have hv := val_nonneg hd
  have hc := cutn_le l l.length
  by_cases h0 : cutn l l.length = 0
  · rw [if_pos h0, (cutn_zero hd).1 h0]
    have e : encI 0 = .agg [bv false, .z true] := by
      have : digs (0 : Int).natAbs = [] := digs_zero
      rw [encI, this]; rfl
    cases neg <;> exact e
  · rw [if_neg h0]
    have hne : val l ≠ 0 := fun h => h0 ((cutn_zero hd).2 h)
    have e1 : decide (sgn neg (val l) < 0) = neg := by
      cases neg
      · simp only [sgn, Bool.false_eq_true, if_false, decide_eq_false_iff_not]; omega
      · simp only [sgn, if_true, decide_eq_true_eq]; omega
    have e2 : (sgn neg (val l)).natAbs = (val l).toNat := by rw [natAbs_sgn]; omega
    have hne2 : l.take (cutn l l.length) ≠ [] := by
      intro h
      have := congrArg List.length h
      simp at this
      rcases this with h' | h'
      · exact h0 h'
      · subst h'; exact h0 rfl
    rw [encI, e1, e2, digs_cutn hd, dg_ne hne2, List.map_take]
    congr 3
    simp; omega

theorem val_take_set {l : List Int} {i : Nat} (d : Int) (h : i < l.length) : val ((l.set i d).take (i + 1)) = val (l.take i) + (1000000000 : Int) ^ i * d := by
  rw [val_take_succ _ _ (by simpa using h)]
  have e1 : (l.set i d).take i = l.take i := by
    apply List.ext_getElem?
    intro j
    simp only [List.getElem?_take, List.getElem?_set]
    split
    · rw [if_neg (by omega)]
    · rfl
  have e2 : (l.set i d).getD i 0 = d := by simp [List.getD, h]
  rw [e1, e2]
theorem getD_set_ne {l : List Int} {i j : Nat} (d : Int) (h : i ≠ j) : (l.set i d).getD j 0 = l.getD j 0 := by
  simp [List.getD, List.getElem?_set, h]
theorem val_take_getD (l : List Int) (n : Nat) : val (l.take (n + 1)) = val (l.take n) + (1000000000 : Int) ^ n * l.getD n 0 := by
  by_cases h : n < l.length
  · exact val_take_succ l n h
  · have e1 : l.take (n + 1) = l := List.take_of_length_le (by omega)
    have e2 : l.take n = l := List.take_of_length_le (by omega)
    have e3 : l.getD n 0 = 0 := by rw [List.getD_eq_getElem?_getD, List.getElem?_eq_none (by omega)]; rfl
    rw [e1, e2, e3]; omega

/-! ### Arrays of numbers that are written -/
def cellsI (l : List Int) : List A := l.map fun x => A.d (.v (.int .i64 x))
theorem cellsI_length (l : List Int) : (cellsI l).length = l.length := by simp [cellsI]
theorem stcells_I {l : List Int} {off : Nat} {v : Int} (h : off < l.length) : stcells off [A.d (.v (.int .i64 v))] (cellsI l) = some (cellsI (l.set off v)) := by
  rw [stcells, guardO, if_pos (by rw [cellsI_length]; simp; omega)]
  congr 1
  apply List.ext_getElem?
  intro j
  rw [seg_get _ _ _ (by rw [cellsI_length]; simp; omega)]
  simp only [List.length_cons, List.length_nil, cellsI, List.getElem?_map, List.getElem?_set]
  by_cases h1 : j < off
  · rw [if_pos h1, if_neg (by omega)]
  · rw [if_neg h1]
    by_cases h2 : j < off + (0 + 1)
    · obtain rfl : j = off := by omega
      simp [h]
    · rw [if_neg h2, if_neg (by omega)]
theorem ldcells_I {l : List Int} {off : Nat} (h : off < l.length) : ldcells none off (cellsI l) = some (A.d (.v (.int .i64 (l.getD off 0)))) := by
  simp [ldcells, cellsI, List.getD, h]
theorem refsL_I (ks : List Key) (l : List Int) : refsL ks (cellsI l) = true := by
  induction l with
  | nil => rfl
  | cons x r ih => simpa [cellsI, refsL, refs] using ih
theorem allD_I (l : List Int) : allD (cellsI l) = some (l.map iv) := by
  induction l with
  | nil => rfl
  | cons x r ih =>
    simp only [cellsI, List.map_cons, allD] at ih ⊢
    rw [ih]; rfl
theorem rep_I (n : Nat) : List.map A.d (rep n [.v (.int .i64 0)]) = cellsI (List.replicate n 0) := by
  induction n with
  | zero => rfl
  | succ n ih =>
    simp only [rep, List.replicate_succ, List.flatten_cons, List.map_append, List.map_cons, List.map_nil, cellsI, List.cons_append, List.nil_append] at ih ⊢
    rw [ih]
theorem mapd_I (l : List Int) : List.map A.d (l.map iv) = cellsI l := by simp [cellsI, iv]
theorem cpy_I {h : Hp} {k : Key} {a out : List Int} {n : Nat} (hk : h k = some ⟨1, n, cellsI out, false⟩) (hn : n = a.length) (ho : out.length = n) : cpyA h 1 a.length (a.map iv) (.own k n) = some (n, hupd h k ⟨1, n, cellsI a, false⟩) := by
  subst hn
  have h1 : ∀ l : List Int, (l.map iv).all D.one = true := by
    intro l; simp [iv, D.one, A.one]
  simp only [cpyA, hk, Option.bind_some, guardO, cellsI_length, ho, Nat.mul_one, List.length_map, h1, and_self, if_true, Nat.min_self]
  congr 3
  rw [List.take_of_length_le (by simp), List.drop_eq_nil_of_le (by rw [cellsI_length, ho]; exact Nat.le_refl _), List.append_nil, mapd_I]
theorem val_take_le {l : List Int} (h : Dig l) (n : Nat) : val (l.take n) ≤ val l := by
  have e : l.take n ++ l.drop n = l := List.take_append_drop n l
  have h1 : val l = val (l.take n) + (1000000000 : Int) ^ (l.take n).length * val (l.drop n) := by rw [← val_append, e]
  have h2 := val_nonneg (h.drop n)
  have h3 : (0 : Int) ≤ (1000000000 : Int) ^ (l.take n).length * val (l.drop n) := Int.mul_nonneg (Int.pow_nonneg (by omega)) h2
  omega
theorem dig_getD_drop {l : List Int} {i j : Nat} (h : Dig (l.drop i)) (hij : i ≤ j) : 0 ≤ l.getD j 0 ∧ l.getD j 0 < 1000000000 := by
  have := h.getD (j - i)
  rw [List.getD_eq_getElem?_getD, List.getElem?_drop, show i + (j - i) = j by omega, ← List.getD_eq_getElem?_getD] at this
  exact this
theorem take_set_ge (l : List Int) {i j : Nat} (d : Int) (h : i ≤ j) : (l.set j d).take i = l.take i := by
  apply List.ext_getElem?
  intro q
  simp only [List.getElem?_take, List.getElem?_set]
  split
  · rw [if_neg (by omega)]
  · rfl
theorem drop_set_lt (l : List Int) {i j : Nat} (d : Int) (h : j < i) : (l.set j d).drop i = l.drop i := by
  apply List.ext_getElem?
  intro q
  simp only [List.getElem?_drop, List.getElem?_set]
  rw [if_neg (by omega)]
theorem take_succ_set {l : List Int} {i : Nat} (d : Int) (h : i < l.length) : (l.set i d).take (i + 1) = l.take i ++ [d] := by
  rw [List.take_add_one, take_set_ge l d (Nat.le_refl _)]
  simp [h]

/-! ### Sizes -/
def nd (x : Int) : Nat := (digs x.natAbs).length
theorem digs_length_le : ∀ (k n : Nat), n < 1000000000 ^ k → (digs n).length ≤ k
  | 0, n, h => by
    have : n = 0 := by simpa using h
    subst this; rw [digs_zero]; exact Nat.le_refl _
  | k + 1, n, h => by
    rcases Nat.eq_zero_or_pos n with rfl | hp
    · rw [digs_zero]; simp
    · rw [digs_pos hp, List.length_cons]
      have : n / 1000000000 < 1000000000 ^ k := by
        rw [Nat.pow_succ] at h
        exact Nat.div_lt_of_lt_mul (by rw [Nat.mul_comm]; exact h)
      exact Nat.succ_le_succ (digs_length_le k _ this)
theorem lt_pow_nd (x : Int) : x.natAbs < 1000000000 ^ nd x := by
  have h1 := val_lt (digs_dig x.natAbs)
  rw [val_digs] at h1
  have h2 : ((1000000000 ^ (digs x.natAbs).length : Nat) : Int) = (1000000000 : Int) ^ (digs x.natAbs).length := by simp
  rw [← h2] at h1
  exact Int.ofNat_lt.1 h1
theorem nd_le {x : Int} {k : Nat} (h : x.natAbs < 1000000000 ^ k) : nd x ≤ k := digs_length_le k _ h
theorem npow_mono {n m : Nat} (h : n ≤ m) : 1000000000 ^ n ≤ 1000000000 ^ m := Nat.pow_le_pow_right (by omega) h
theorem nd_add {x y : Int} {k : Nat} (hx : nd x ≤ k) (hy : nd y ≤ k) : nd (x + y) ≤ k + 1 := by
  apply nd_le
  have h1 := Nat.lt_of_lt_of_le (lt_pow_nd x) (npow_mono hx)
  have h2 := Nat.lt_of_lt_of_le (lt_pow_nd y) (npow_mono hy)
  rw [Nat.pow_succ]
  omega
theorem nd_neg (x : Int) : nd (-x) = nd x := by simp [nd]
theorem nd_mul {x y : Int} : nd (x * y) ≤ nd x + nd y := by
  apply nd_le
  rw [Int.natAbs_mul, Nat.pow_add]
  exact Nat.mul_lt_mul'' (lt_pow_nd x) (lt_pow_nd y)
theorem nd_mono {x y : Int} (h : x.natAbs ≤ y.natAbs) : nd x ≤ nd y := nd_le (Nat.lt_of_le_of_lt h (lt_pow_nd y))
theorem nd_i64 {x : Int} (h : -9223372036854775808 ≤ x ∧ x < 9223372036854775808) : nd x ≤ 3 := by
  apply nd_le
  have : (1000000000 : Nat) ^ 3 = 1000000000000000000000000000 := by decide
  omega
theorem nd_zero : nd 0 = 0 := by
  have : digs (0 : Int).natAbs = [] := digs_zero
  rw [nd, this]; rfl
theorem val_dabs (x : Int) : val (digs x.natAbs) = x.natAbs := val_digs _
end Go.AM

/- integer.of -/
namespace Go.AM
open Go Go.RowKit
variable [Its]

section
variable (neg : Bool) (d : D) (l : List Int)
def of_st (n : Int) : St := ⟨upd (upd (upd (upd fr0 5 (.d (iv n))) 4 (.ptr [4] 0)) 1 (.d d)) 0 (.d (bv neg)), hupd hp0 [4] ⟨0, 0, [.d (bv false), .d (.z true)], false⟩, []⟩

theorem of_go (hr : Rw d l) (n : Nat) (h : n < l.length) (hl : l.length < 4611686018427387904) (h0 : l.getD n 0 = 0) : X G integer_of_l0 (of_st neg d ((n + 1 : Nat) : Int)) = some (.n, of_st neg d n) := by
  have e1 : decide (((n + 1 : Nat) : Int) > 0) = true := gt_t (by omega)
  have e2 : w64 (((n + 1 : Nat) : Int) - 1) = n := by rw [w64_id (by omega) (by omega)]; omega
  have e3 := hr.ixn (j := n) (by omega)
  have e4 := fun hp => ldv hp l (j := n) (by omega)
  simp -implicitDefEqProofs (maxSteps := 10000000) only [integer_of_l0, of_st, go_sem, iv, bv, e1, e2, e3, e4, h0, Int.toNat_natCast, beq_self_eq_true, reduceCtorEq, ↓reduceIte, Nat.reduceEqDiff]
theorem of_stop (hr : Rw d l) (n : Nat) (h : n < l.length) (hl : l.length < 4611686018427387904) (h0 : l.getD n 0 ≠ 0) : X G integer_of_l0 (of_st neg d ((n + 1 : Nat) : Int)) = some (.x 0, of_st neg d ((n + 1 : Nat) : Int)) := by
  have e1 : decide (((n + 1 : Nat) : Int) > 0) = true := gt_t (by omega)
  have e2 : w64 (((n + 1 : Nat) : Int) - 1) = n := by rw [w64_id (by omega) (by omega)]; omega
  have e3 := hr.ixn (j := n) (by omega)
  have e4 := fun hp => ldv hp l (j := n) (by omega)
  simp -implicitDefEqProofs (maxSteps := 10000000) only [integer_of_l0, of_st, go_sem, iv, bv, e1, e2, e3, e4, beq_f h0, Int.toNat_natCast, reduceCtorEq, ↓reduceIte, Nat.reduceEqDiff]
theorem of_zero : X G integer_of_l0 (of_st neg d ((0 : Nat) : Int)) = some (.x 0, of_st neg d ((0 : Nat) : Int)) := by
  have e1 : decide ((0 : Int) > 0) = false := rfl
  simp -implicitDefEqProofs (maxSteps := 10000000) only [integer_of_l0, of_st, go_sem, iv, bv, e1, reduceCtorEq, ↓reduceIte, Nat.reduceEqDiff]

theorem of_loop (hr : Rw d l) (hl : l.length < 4611686018427387904) : ∀ n : Nat, n ≤ l.length → X G (.loop integer_of_l0) (of_st neg d (n : Int)) = some (.x 0, of_st neg d (cutn l n : Nat))
  | 0, _ => by
    rw [X_loop, of_zero]
    rfl
  | n + 1, h => by
    rw [X_loop, cutn]
    by_cases h0 : l.getD n 0 = 0
    · rw [of_go neg d l hr n (by omega) hl h0, if_pos h0]
      exact of_loop hr hl n (by omega)
    · rw [of_stop neg d l hr n (by omega) hl h0, if_neg h0]
      rfl
end

theorem of_spec (neg : Bool) {d : D} {l : List Int} (hr : Rw d l) (hl : l.length < 4611686018427387904) (hd : Dig l) : callX G n_integer_of [bv neg, d] = some (.d (encI (sgn neg (val l)))) := by
  rw [callX_eq (cf := integer_of) rfl, encI_sgn hd]
  have hc := cutn_le l l.length
  have el := of_loop neg d l hr hl l.length (Nat.le_refl _)
  simp only [of_st, iv, bv] at el
  generalize hn : cutn l l.length = n at *
  by_cases h0 : n = 0
  · subst h0
    have e0 : ((0 : Int) == 0) = true := rfl
    simp only [nc0] at el
    simp -implicitDefEqProofs (maxSteps := 10000000) only [integer_of, go_sem, stcells, ldcells, iv, bv, hr.len, el, e0, reduceCtorEq, ↓reduceIte, Nat.reduceEqDiff, List.length_cons, List.length_nil]
  · obtain rfl := hr.ne (by rintro rfl; simp [cutn] at hn; exact h0 hn.symm)
    have e0 : (((n : Nat) : Int) == 0) = false := beq_f (by omega)
    have e1 : (0 : Int) ≤ 0 ∧ (0 : Int) ≤ (n : Int) ∧ (n : Int) ≤ (l.length : Int) := by omega
    have e2 : (n : Int) ≤ (n : Int) ∧ (n : Int) ≤ (l.length : Int) := by omega
    simp only [rowI] at el
    have e3 : (some n = some 0) = False := by simp [h0]
    simp -implicitDefEqProofs (maxSteps := 10000000) only [integer_of, go_sem, stcells, ldcells, iv, bv, rowI, el, e0, e1, e2, e3, h0, reduceCtorEq, ↓reduceIte, Nat.reduceEqDiff, List.length_cons, List.length_nil]
end Go.AM

