/- Part 5 of the proof: a small machine, its soundness against the model, and what the program's functions compute on it. -/
import Derived.Test.YthhdbchmjfdgmaaM4
import Derived.Test.YthhdbchmjfdgmaaProg
import Derived.KernelRfl
import Derived.Test.YthhdbchmjfdgmaaM3
set_option linter.unusedVariables false
set_option linter.unusedSimpArgs false
set_option maxRecDepth 100000
namespace Go.AM
open Go Go.Proofs


def integer_Gcd_l0 : C :=
 .seq (.seq (.seq (.seq (.reg [⟨some 39, .mov (.t 9), none⟩,
 ⟨some 40, .bin .gtr (.t 39) (.c (.v (.int .i64 0))), none⟩] []) <|
 .keep [4, 7, 9, 40] [[4]]) <|
 .cond (.t 40) (.skip) <|
 .seq (.keep [4, 7] [[4]]) <|
 .exit 2) <|
 .seq (.blk 3 <|
 .seq (.reg [⟨some 41, .mov (.t 9), none⟩,
 ⟨some 42, .mov (.t 7), none⟩,
 ⟨some 43, .mov (.t 9), none⟩,
 ⟨some 44, .bin .rem (.t 42) (.t 43), none⟩,
 ⟨some 7, .mov (.t 41), none⟩,
 ⟨some 9, .mov (.t 44), none⟩] []) <|
 .keep [4, 7, 9] [[4]]) <|
 .keep [4, 7, 9] [[4]]) <|
 .keep [4, 7, 9] [[4]]
def integer_Gcd_l1 : C :=
 .seq (.seq (.seq (.seq (.reg [⟨some 19, .fad 1 (.t 6), none⟩,
 ⟨some 20, .load none (.t 19), none⟩,
 ⟨some 21, .len (.t 20), none⟩,
 ⟨some 22, .bin .gtr (.t 21) (.c (.v (.int .i64 0))), none⟩] []) <|
 .keep [4, 5, 6, 22] [[4], [5], [6]]) <|
 .cond (.t 22) (.skip) <|
 .seq (.keep [4, 5] [[4], [5]]) <|
 .exit 0) <|
 .seq (.blk 1 <|
 .seq (.seq (.reg [⟨some 24, .fad 1 (.t 5), none⟩,
 ⟨some 25, .load none (.t 24), none⟩,
 ⟨some 26, .call n_integer_two [(.t 25)] false, none⟩,
 ⟨some 23, .mov (.t 26), none⟩,
 ⟨some 27, .ext (.t 23) 0, none⟩,
 ⟨some 28, .ext (.t 23) 1, none⟩,
 ⟨some 7, .mov (.t 27), none⟩,
 ⟨some 8, .mov (.t 28), none⟩] []) <|
 .keep [4, 5, 6, 7, 8] [[4], [5], [6]]) <|
 .seq (.seq (.reg [⟨some 30, .fad 1 (.t 6), none⟩,
 ⟨some 31, .load none (.t 30), none⟩,
 ⟨some 32, .call n_integer_two [(.t 31)] false, none⟩,
 ⟨some 29, .mov (.t 32), none⟩,
 ⟨some 33, .ext (.t 29) 0, none⟩,
 ⟨some 34, .ext (.t 29) 1, none⟩,
 ⟨some 9, .mov (.t 33), none⟩,
 ⟨some 10, .mov (.t 34), none⟩] []) <|
 .keep [4, 5, 6, 7, 8, 9, 10] [[4], [5], [6]]) <|
 .seq (.seq (.seq (.reg [⟨some 35, .mov (.t 8), none⟩,
 ⟨some 36, .mov (.t 35), none⟩,
 ⟨some 37, .mov (.t 10), (some (36, true))⟩,
 ⟨some 38, .pick (.t 36) (.t 37) (.c (.v (.bool false))), none⟩] []) <|
 .keep [4, 5, 6, 7, 9, 38] [[4], [5], [6]]) <|
 .cond (.t 38) (.seq (.seq (.blk 2 <|
 .seq (.keep [4, 7, 9] [[4]]) <|
 .loop integer_Gcd_l0) <|
 .keep [4, 7] [[4]]) <|
 .seq (.seq (.reg [⟨some 45, .mov (.t 7), none⟩,
 ⟨some 46, .conv (.int .u64) (.t 45), none⟩,
 ⟨some 47, .call n_integer_unsigned [(.c (.v (.bool false))), (.t 46)] false, none⟩,
 ⟨none, .store 2 (.t 4) (.t 47), none⟩] []) <|
 .keep [4] [[4]]) <|
 .ret) <|
 .skip) <|
 .seq (.seq (.reg [⟨some 49, .fad 1 (.t 5), none⟩,
 ⟨some 50, .load none (.t 49), none⟩,
 ⟨some 51, .fad 1 (.t 6), none⟩,
 ⟨some 52, .load none (.t 51), none⟩,
 ⟨some 53, .call n_integer_divide [(.t 50), (.t 52)] false, none⟩,
 ⟨some 48, .mov (.t 53), none⟩,
 ⟨some 54, .ext (.t 48) 0, none⟩,
 ⟨some 55, .ext (.t 48) 1, none⟩,
 ⟨some 11, .new [.v (.bool false), .z true], none⟩,
 ⟨some 12, .new [.v (.bool false), .z true], none⟩,
 ⟨none, .store 2 (.t 11) (.t 54), none⟩,
 ⟨none, .store 2 (.t 12) (.t 55), none⟩] []) <|
 .keep [4, 5, 6, 12] [[4], [5], [6], [12]]) <|
 .seq (.reg [⟨some 56, .load (some 2) (.t 6), none⟩,
 ⟨some 57, .load (some 2) (.t 12), none⟩,
 ⟨none, .store 2 (.t 5) (.t 56), none⟩,
 ⟨none, .store 2 (.t 6) (.t 57), none⟩] [((.t 12), 2, (.t 5), 2)]) <|
 .keep [4, 5, 6] [[4], [5], [6]]) <|
 .keep [4, 5, 6] [[4], [5], [6]]) <|
 .keep [4, 5, 6] [[4], [5], [6]]
def integer_Gcd : CF := ⟨2, .seq (.seq (.reg [⟨some 2, .box (.t 0), none⟩,
 ⟨some 3, .box (.t 1), none⟩,
 ⟨some 4, .new [.v (.bool false), .z true], none⟩] []) <|
 .keep [2, 3, 4] [[2], [3], [4]]) <|
 .seq (.seq (.reg [⟨some 13, .fad 1 (.t 2), none⟩,
 ⟨some 14, .load none (.t 13), none⟩,
 ⟨some 15, .call n_integer_of [(.c (.v (.bool false))), (.t 14)] false, none⟩,
 ⟨some 16, .fad 1 (.t 3), none⟩,
 ⟨some 17, .load none (.t 16), none⟩,
 ⟨some 18, .call n_integer_of [(.c (.v (.bool false))), (.t 17)] false, none⟩,
 ⟨some 5, .new [.v (.bool false), .z true], none⟩,
 ⟨some 6, .new [.v (.bool false), .z true], none⟩,
 ⟨none, .store 2 (.t 5) (.t 15), none⟩,
 ⟨none, .store 2 (.t 6) (.t 18), none⟩] []) <|
 .keep [4, 5, 6] [[4], [5], [6]]) <|
 .seq (.seq (.blk 0 <|
 .seq (.keep [4, 5, 6] [[4], [5], [6]]) <|
 .loop integer_Gcd_l1) <|
 .keep [4, 5] [[4], [5]]) <|
 .seq (.seq (.reg [⟨some 58, .load (some 2) (.t 5), none⟩,
 ⟨none, .store 2 (.t 4) (.t 58), none⟩] []) <|
 .keep [4] [[4]]) <|
 .ret, [.cell 4 (some 2)]⟩

def gantryref05_one : CF := ⟨1, .seq (.seq (.reg [⟨some 1, .box (.t 0), none⟩,
 ⟨some 2, .mov (.c (.v (.bool false))), none⟩] []) <|
 .keep [1] [[1]]) <|
 .seq (.seq (.seq (.reg [⟨some 3, .fad 0 (.t 1), none⟩,
 ⟨some 4, .load none (.t 3), none⟩,
 ⟨some 5, .mov (.t 4), none⟩,
 ⟨some 6, .fad 1 (.t 1), (some (5, false))⟩,
 ⟨some 7, .load none (.t 6), (some (5, false))⟩,
 ⟨some 8, .len (.t 7), (some (5, false))⟩,
 ⟨some 9, .bin .neq (.t 8) (.c (.v (.int .i64 1))), (some (5, false))⟩,
 ⟨some 10, .pick (.t 5) (.c (.v (.bool true))) (.t 9), none⟩] []) <|
 .keep [1, 10] [[1]]) <|
 .cond (.t 10) (.seq (.seq (.reg [⟨some 2, .mov (.c (.v (.bool false))), none⟩] []) <|
 .keep [2] []) <|
 .ret) <|
 .skip) <|
 .seq (.seq (.reg [⟨some 11, .fad 1 (.t 1), none⟩,
 ⟨some 12, .load none (.t 11), none⟩,
 ⟨some 13, .ixa 1 (.t 12) (.c (.v (.int .i64 0))), none⟩,
 ⟨some 14, .load none (.t 13), none⟩,
 ⟨some 15, .bin .eql (.t 14) (.c (.v (.int .i64 1))), none⟩,
 ⟨some 2, .mov (.t 15), none⟩] []) <|
 .keep [2] []) <|
 .ret, [.t 2]⟩

def gantryref04_Gcd_l0 : C :=
 .seq (.seq (.seq (.seq (.reg [⟨some 38, .mov (.t 8), none⟩,
 ⟨some 39, .bin .gtr (.t 38) (.c (.v (.int .i64 0))), none⟩] []) <|
 .keep [4, 7, 8, 39] [[4]]) <|
 .cond (.t 39) (.skip) <|
 .seq (.keep [4, 7] [[4]]) <|
 .exit 2) <|
 .seq (.blk 3 <|
 .seq (.seq (.reg [⟨some 40, .mov (.t 7), none⟩,
 ⟨some 41, .mov (.t 8), none⟩,
 ⟨some 42, .bin .rem (.t 40) (.t 41), none⟩,
 ⟨some 9, .mov (.t 42), none⟩] []) <|
 .keep [4, 8, 9] [[4]]) <|
 .seq (.seq (.reg [⟨some 43, .mov (.t 8), none⟩,
 ⟨some 7, .mov (.t 43), none⟩] []) <|
 .keep [4, 7, 9] [[4]]) <|
 .seq (.reg [⟨some 44, .mov (.t 9), none⟩,
 ⟨some 8, .mov (.t 44), none⟩] []) <|
 .keep [4, 7, 8] [[4]]) <|
 .keep [4, 7, 8] [[4]]) <|
 .keep [4, 7, 8] [[4]]
def gantryref04_Gcd_l1 : C :=
 .seq (.seq (.seq (.seq (.reg [⟨some 18, .fad 1 (.t 6), none⟩,
 ⟨some 19, .load none (.t 18), none⟩,
 ⟨some 20, .len (.t 19), none⟩,
 ⟨some 21, .bin .gtr (.t 20) (.c (.v (.int .i64 0))), none⟩] []) <|
 .keep [4, 5, 6, 21] [[4], [5], [6]]) <|
 .cond (.t 21) (.skip) <|
 .seq (.keep [4, 5] [[4], [5]]) <|
 .exit 0) <|
 .seq (.blk 1 <|
 .seq (.seq (.seq (.reg [⟨some 22, .fad 1 (.t 5), none⟩,
 ⟨some 23, .load none (.t 22), none⟩,
 ⟨some 24, .len (.t 23), none⟩,
 ⟨some 25, .bin .leq (.t 24) (.c (.v (.int .i64 2))), none⟩,
 ⟨some 26, .mov (.t 25), none⟩,
 ⟨some 27, .fad 1 (.t 6), (some (26, true))⟩,
 ⟨some 28, .load none (.t 27), (some (26, true))⟩,
 ⟨some 29, .len (.t 28), (some (26, true))⟩,
 ⟨some 30, .bin .leq (.t 29) (.c (.v (.int .i64 2))), (some (26, true))⟩,
 ⟨some 31, .pick (.t 26) (.t 30) (.c (.v (.bool false))), none⟩] []) <|
 .keep [4, 5, 6, 31] [[4], [5], [6]]) <|
 .cond (.t 31) (.seq (.seq (.reg [⟨some 32, .fad 1 (.t 5), none⟩,
 ⟨some 33, .load none (.t 32), none⟩,
 ⟨some 34, .call n_gantryref04_tiny [(.t 33)] false, none⟩,
 ⟨some 7, .mov (.t 34), none⟩] []) <|
 .keep [4, 6, 7] [[4], [6]]) <|
 .seq (.seq (.reg [⟨some 35, .fad 1 (.t 6), none⟩,
 ⟨some 36, .load none (.t 35), none⟩,
 ⟨some 37, .call n_gantryref04_tiny [(.t 36)] false, none⟩,
 ⟨some 8, .mov (.t 37), none⟩] []) <|
 .keep [4, 7, 8] [[4]]) <|
 .seq (.seq (.blk 2 <|
 .seq (.keep [4, 7, 8] [[4]]) <|
 .loop gantryref04_Gcd_l0) <|
 .keep [4, 7] [[4]]) <|
 .seq (.seq (.reg [⟨some 45, .mov (.t 7), none⟩,
 ⟨some 46, .call n_gantryref04_Of [(.t 45)] false, none⟩,
 ⟨none, .store 2 (.t 4) (.t 46), none⟩] []) <|
 .keep [4] [[4]]) <|
 .ret) <|
 .skip) <|
 .seq (.seq (.reg [⟨some 48, .load (some 2) (.t 5), none⟩,
 ⟨some 49, .load (some 2) (.t 6), none⟩,
 ⟨some 50, .call n_gantryref04_Div [(.t 48), (.t 49)] false, none⟩,
 ⟨some 47, .mov (.t 50), none⟩,
 ⟨some 51, .ext (.t 47) 0, none⟩,
 ⟨some 52, .ext (.t 47) 1, none⟩,
 ⟨some 10, .new [.v (.bool false), .z true], none⟩,
 ⟨some 11, .new [.v (.bool false), .z true], none⟩,
 ⟨none, .store 2 (.t 10) (.t 51), none⟩,
 ⟨none, .store 2 (.t 11) (.t 52), none⟩] []) <|
 .keep [4, 5, 6, 11] [[4], [5], [6], [11]]) <|
 .seq (.seq (.reg [⟨some 53, .load (some 2) (.t 6), none⟩,
 ⟨none, .store 2 (.t 5) (.t 53), none⟩] []) <|
 .keep [4, 5, 6, 11] [[4], [5], [6], [11]]) <|
 .seq (.reg [⟨some 54, .load (some 2) (.t 11), none⟩,
 ⟨none, .store 2 (.t 6) (.t 54), none⟩] []) <|
 .keep [4, 5, 6] [[4], [5], [6]]) <|
 .keep [4, 5, 6] [[4], [5], [6]]) <|
 .keep [4, 5, 6] [[4], [5], [6]]
def gantryref04_Gcd : CF := ⟨2, .seq (.seq (.reg [⟨some 2, .box (.t 0), none⟩,
 ⟨some 3, .box (.t 1), none⟩,
 ⟨some 4, .new [.v (.bool false), .z true], none⟩] []) <|
 .keep [2, 3, 4] [[2], [3], [4]]) <|
 .seq (.seq (.reg [⟨some 12, .fad 1 (.t 2), none⟩,
 ⟨some 13, .load none (.t 12), none⟩,
 ⟨some 14, .call n_gantryref04_normal [(.c (.v (.bool false))), (.t 13)] false, none⟩,
 ⟨some 5, .new [.v (.bool false), .z true], none⟩,
 ⟨none, .store 2 (.t 5) (.t 14), none⟩] []) <|
 .keep [3, 4, 5] [[3], [4], [5]]) <|
 .seq (.seq (.reg [⟨some 15, .fad 1 (.t 3), none⟩,
 ⟨some 16, .load none (.t 15), none⟩,
 ⟨some 17, .call n_gantryref04_normal [(.c (.v (.bool false))), (.t 16)] false, none⟩,
 ⟨some 6, .new [.v (.bool false), .z true], none⟩,
 ⟨none, .store 2 (.t 6) (.t 17), none⟩] []) <|
 .keep [4, 5, 6] [[4], [5], [6]]) <|
 .seq (.seq (.blk 0 <|
 .seq (.keep [4, 5, 6] [[4], [5], [6]]) <|
 .loop gantryref04_Gcd_l1) <|
 .keep [4, 5] [[4], [5]]) <|
 .seq (.seq (.reg [⟨some 55, .load (some 2) (.t 5), none⟩,
 ⟨none, .store 2 (.t 4) (.t 55), none⟩] []) <|
 .keep [4] [[4]]) <|
 .ret, [.cell 4 (some 2)]⟩

def gantryref04_Sign : CF := ⟨1, .seq (.seq (.reg [⟨some 1, .box (.t 0), none⟩,
 ⟨some 2, .mov (.c (.v (.int .i64 0))), none⟩] []) <|
 .keep [1] [[1]]) <|
 .seq (.seq (.reg [⟨some 3, .load (some 2) (.t 1), none⟩,
 ⟨some 4, .build [.v (.bool false), .z true] [], none⟩,
 ⟨some 5, .call n_gantryref04_Compare [(.t 3), (.t 4)] false, none⟩,
 ⟨some 2, .mov (.t 5), none⟩] []) <|
 .keep [2] []) <|
 .ret, [.t 2]⟩

def poly_Scale : CF := ⟨2, .seq (.seq (.reg [⟨some 2, .box (.t 0), none⟩,
 ⟨some 3, .box (.t 1), none⟩,
 ⟨some 4, .mov (.c (.z true)), none⟩] []) <|
 .keep [2, 3] [[2], [3]]) <|
 .seq (.seq (.reg [⟨some 5, .load none (.t 2), none⟩,
 ⟨some 6, .len (.t 5), none⟩,
 ⟨some 7, .mkfn n_poly_Scale_1 [(.t 2), (.t 3)] true, none⟩,
 ⟨some 8, .call n_poly_made [(.t 6), (.t 7)] false, none⟩,
 ⟨some 4, .mov (.t 8), none⟩] []) <|
 .keep [4] []) <|
 .ret, [.t 4]⟩

def rat_lowest : CF := ⟨2, .seq (.seq (.reg [⟨some 2, .box (.t 0), none⟩,
 ⟨some 3, .box (.t 1), none⟩,
 ⟨some 4, .new [.v (.bool false), .z true, .v (.bool false), .z true], none⟩] []) <|
 .keep [2, 3, 4] [[2], [3], [4]]) <|
 .seq (.seq (.seq (.reg [⟨some 5, .fad 0 (.t 3), none⟩,
 ⟨some 6, .load none (.t 5), none⟩] []) <|
 .keep [2, 3, 4, 6] [[2], [3], [4]]) <|
 .cond (.t 6) (.seq (.reg [⟨some 7, .load (some 2) (.t 2), none⟩,
 ⟨some 8, .call n_integer_Neg [(.t 7)] false, none⟩,
 ⟨some 9, .load (some 2) (.t 3), none⟩,
 ⟨some 10, .call n_integer_Neg [(.t 9)] false, none⟩,
 ⟨none, .store 2 (.t 2) (.t 8), none⟩,
 ⟨none, .store 2 (.t 3) (.t 10), none⟩] []) <|
 .keep [2, 3, 4] [[2], [3], [4]]) <|
 .skip) <|
 .seq (.seq (.seq (.reg [⟨some 11, .load (some 2) (.t 3), none⟩,
 ⟨some 12, .call n_rat_unit [(.t 11)] false, none⟩] []) <|
 .keep [2, 3, 4, 12] [[2], [3], [4]]) <|
 .cond (.t 12) (.seq (.seq (.reg [⟨some 13, .load (some 2) (.t 2), none⟩,
 ⟨some 14, .build [.v (.bool false), .z true, .v (.bool false), .z true] [(0, 2, (.t 13))], none⟩,
 ⟨none, .store 4 (.t 4) (.t 14), none⟩] []) <|
 .keep [4] [[4]]) <|
 .ret) <|
 .skip) <|
 .seq (.seq (.reg [⟨some 15, .load (some 2) (.t 2), none⟩,
 ⟨some 16, .load (some 2) (.t 3), none⟩,
 ⟨some 17, .build [.v (.bool false), .z true, .v (.bool false), .z true] [(0, 2, (.t 15)), (2, 2, (.t 16))], none⟩,
 ⟨none, .store 4 (.t 4) (.t 17), none⟩] []) <|
 .keep [4] [[4]]) <|
 .ret, [.cell 4 (some 4)]⟩

def rat_Neg : CF := ⟨1, .seq (.seq (.reg [⟨some 1, .box (.t 0), none⟩,
 ⟨some 2, .new [.v (.bool false), .z true, .v (.bool false), .z true], none⟩] []) <|
 .keep [1, 2] [[1], [2]]) <|
 .seq (.seq (.reg [⟨some 3, .fad 0 (.t 1), none⟩,
 ⟨some 4, .load (some 2) (.t 3), none⟩,
 ⟨some 5, .call n_integer_Neg [(.t 4)] false, none⟩,
 ⟨some 6, .fad 2 (.t 1), none⟩,
 ⟨some 7, .load (some 2) (.t 6), none⟩,
 ⟨some 8, .build [.v (.bool false), .z true, .v (.bool false), .z true] [(0, 2, (.t 5)), (2, 2, (.t 7))], none⟩,
 ⟨none, .store 4 (.t 2) (.t 8), none⟩] []) <|
 .keep [2] [[2]]) <|
 .ret, [.cell 2 (some 4)]⟩

def gantryref04_Mul_l0 : C :=
 .seq (.seq (.seq (.seq (.reg [⟨some 25, .mov (.t 8), none⟩,
 ⟨some 26, .fad 1 (.t 3), none⟩,
 ⟨some 27, .load none (.t 26), none⟩,
 ⟨some 28, .len (.t 27), none⟩,
 ⟨some 29, .bin .lss (.t 25) (.t 28), none⟩] []) <|
 .keep [2, 3, 4, 5, 6, 7, 8, 29] [[2], [3], [4], [17]]) <|
 .cond (.t 29) (.skip) <|
 .seq (.keep [2, 3, 4, 5, 6, 7] [[2], [3], [4], [17]]) <|
 .exit 2) <|
 .seq (.seq (.blk 3 <|
 .seq (.seq (.reg [⟨some 32, .mov (.t 5), none⟩,
 ⟨some 33, .mov (.t 6), none⟩,
 ⟨some 34, .mov (.t 8), none⟩,
 ⟨some 35, .bin .add (.t 33) (.t 34), none⟩,
 ⟨some 36, .ixa 1 (.t 32) (.t 35), none⟩,
 ⟨some 37, .load none (.t 36), none⟩,
 ⟨some 38, .fad 1 (.t 2), none⟩,
 ⟨some 39, .load none (.t 38), none⟩,
 ⟨some 40, .mov (.t 6), none⟩,
 ⟨some 41, .ixa 1 (.t 39) (.t 40), none⟩,
 ⟨some 42, .load none (.t 41), none⟩,
 ⟨some 43, .fad 1 (.t 3), none⟩,
 ⟨some 44, .load none (.t 43), none⟩,
 ⟨some 45, .mov (.t 8), none⟩,
 ⟨some 46, .ixa 1 (.t 44) (.t 45), none⟩,
 ⟨some 47, .load none (.t 46), none⟩,
 ⟨some 48, .bin .mul (.t 42) (.t 47), none⟩,
 ⟨some 49, .bin .add (.t 37) (.t 48), none⟩,
 ⟨some 50, .mov (.t 7), none⟩,
 ⟨some 51, .bin .add (.t 49) (.t 50), none⟩,
 ⟨some 9, .mov (.t 51), none⟩] []) <|
 .keep [2, 3, 4, 5, 6, 8, 9] [[2], [3], [4], [17]]) <|
 .seq (.seq (.reg [⟨some 52, .mov (.t 5), none⟩,
 ⟨some 53, .mov (.t 6), none⟩,
 ⟨some 54, .mov (.t 8), none⟩,
 ⟨some 55, .bin .add (.t 53) (.t 54), none⟩,
 ⟨some 56, .mov (.t 9), none⟩,
 ⟨some 57, .bin .rem (.t 56) (.c (.v (.int .i64 1000000000))), none⟩,
 ⟨some 58, .ixa 1 (.t 52) (.t 55), none⟩,
 ⟨none, .store 1 (.t 58) (.t 57), none⟩] []) <|
 .keep [2, 3, 4, 5, 6, 8, 9] [[2], [3], [4], [17]]) <|
 .seq (.reg [⟨some 59, .mov (.t 9), none⟩,
 ⟨some 60, .bin .quo (.t 59) (.c (.v (.int .i64 1000000000))), none⟩,
 ⟨some 7, .mov (.t 60), none⟩] []) <|
 .keep [2, 3, 4, 5, 6, 7, 8] [[2], [3], [4], [17]]) <|
 .keep [2, 3, 4, 5, 6, 7, 8] [[2], [3], [4], [17]]) <|
 .seq (.reg [⟨some 30, .mov (.t 8), none⟩,
 ⟨some 31, .bin .add (.t 30) (.c (.v (.int .i64 1))), none⟩,
 ⟨some 8, .mov (.t 31), none⟩] []) <|
 .keep [2, 3, 4, 5, 6, 7, 8] [[2], [3], [4], [17]]) <|
 .keep [2, 3, 4, 5, 6, 7, 8] [[2], [3], [4], [17]]
def gantryref04_Mul_l1 : C :=
 .seq (.seq (.seq (.seq (.reg [⟨some 18, .mov (.t 6), none⟩,
 ⟨some 19, .fad 1 (.t 2), none⟩,
 ⟨some 20, .load none (.t 19), none⟩,
 ⟨some 21, .len (.t 20), none⟩,
 ⟨some 22, .bin .lss (.t 18) (.t 21), none⟩] []) <|
 .keep [2, 3, 4, 5, 6, 22] [[2], [3], [4], [17]]) <|
 .cond (.t 22) (.skip) <|
 .seq (.keep [2, 3, 4, 5] [[2], [3], [4], [17]]) <|
 .exit 0) <|
 .seq (.seq (.blk 1 <|
 .seq (.seq (.reg [⟨some 7, .mov (.c (.v (.int .i64 0))), none⟩] []) <|
 .keep [2, 3, 4, 5, 6, 7] [[2], [3], [4], [17]]) <|
 .seq (.seq (.seq (.reg [⟨some 8, .mov (.c (.v (.int .i64 0))), none⟩] []) <|
 .keep [2, 3, 4, 5, 6, 7, 8] [[2], [3], [4], [17]]) <|
 .seq (.blk 2 <|
 .seq (.keep [2, 3, 4, 5, 6, 7, 8] [[2], [3], [4], [17]]) <|
 .loop gantryref04_Mul_l0) <|
 .keep [2, 3, 4, 5, 6, 7] [[2], [3], [4], [17]]) <|
 .seq (.reg [⟨some 61, .mov (.t 5), none⟩,
 ⟨some 62, .mov (.t 6), none⟩,
 ⟨some 63, .fad 1 (.t 3), none⟩,
 ⟨some 64, .load none (.t 63), none⟩,
 ⟨some 65, .len (.t 64), none⟩,
 ⟨some 66, .bin .add (.t 62) (.t 65), none⟩,
 ⟨some 67, .mov (.t 7), none⟩,
 ⟨some 68, .ixa 1 (.t 61) (.t 66), none⟩,
 ⟨none, .store 1 (.t 68) (.t 67), none⟩] []) <|
 .keep [2, 3, 4, 5, 6] [[2], [3], [4], [17]]) <|
 .keep [2, 3, 4, 5, 6] [[2], [3], [4], [17]]) <|
 .seq (.reg [⟨some 23, .mov (.t 6), none⟩,
 ⟨some 24, .bin .add (.t 23) (.c (.v (.int .i64 1))), none⟩,
 ⟨some 6, .mov (.t 24), none⟩] []) <|
 .keep [2, 3, 4, 5, 6] [[2], [3], [4], [17]]) <|
 .keep [2, 3, 4, 5, 6] [[2], [3], [4], [17]]
def gantryref04_Mul : CF := ⟨2, .seq (.seq (.reg [⟨some 2, .box (.t 0), none⟩,
 ⟨some 3, .box (.t 1), none⟩,
 ⟨some 4, .new [.v (.bool false), .z true], none⟩] []) <|
 .keep [2, 3, 4] [[2], [3], [4]]) <|
 .seq (.seq (.reg [⟨some 10, .fad 1 (.t 2), none⟩,
 ⟨some 11, .load none (.t 10), none⟩,
 ⟨some 12, .len (.t 11), none⟩,
 ⟨some 13, .fad 1 (.t 3), none⟩,
 ⟨some 14, .load none (.t 13), none⟩,
 ⟨some 15, .len (.t 14), none⟩,
 ⟨some 16, .bin .add (.t 12) (.t 15), none⟩,
 ⟨some 17, .mksl 1 8 [.v (.int .i64 0)] (.t 16) (.t 16), none⟩,
 ⟨some 5, .mov (.t 17), none⟩] []) <|
 .keep [2, 3, 4, 5] [[2], [3], [4], [17]]) <|
 .seq (.seq (.seq (.reg [⟨some 6, .mov (.c (.v (.int .i64 0))), none⟩] []) <|
 .keep [2, 3, 4, 5, 6] [[2], [3], [4], [17]]) <|
 .seq (.blk 0 <|
 .seq (.keep [2, 3, 4, 5, 6] [[2], [3], [4], [17]]) <|
 .loop gantryref04_Mul_l1) <|
 .keep [2, 3, 4, 5] [[2], [3], [4], [17]]) <|
 .seq (.seq (.frz 5) <|
 .seq (.reg [⟨some 69, .fad 0 (.t 2), none⟩,
 ⟨some 70, .load none (.t 69), none⟩,
 ⟨some 71, .fad 0 (.t 3), none⟩,
 ⟨some 72, .load none (.t 71), none⟩,
 ⟨some 73, .binb true (.t 70) (.t 72), none⟩,
 ⟨some 74, .mov (.t 5), none⟩,
 ⟨some 75, .call n_gantryref04_normal [(.t 73), (.t 74)] false, none⟩,
 ⟨none, .store 2 (.t 4) (.t 75), none⟩] []) <|
 .keep [4] [[4]]) <|
 .ret, [.cell 4 (some 2)]⟩

def gantryref05_Den : CF := ⟨1, .seq (.seq (.reg [⟨some 1, .box (.t 0), none⟩,
 ⟨some 2, .new [.v (.bool false), .z true], none⟩] []) <|
 .keep [1, 2] [[1], [2]]) <|
 .seq (.seq (.seq (.reg [⟨some 3, .fad 2 (.t 1), none⟩,
 ⟨some 4, .fad 1 (.t 3), none⟩,
 ⟨some 5, .load none (.t 4), none⟩,
 ⟨some 6, .len (.t 5), none⟩,
 ⟨some 7, .bin .eql (.t 6) (.c (.v (.int .i64 0))), none⟩] []) <|
 .keep [1, 2, 7] [[1], [2]]) <|
 .cond (.t 7) (.seq (.seq (.reg [⟨some 8, .call n_gantryref04_Of [(.c (.v (.int .i64 1)))] false, none⟩,
 ⟨none, .store 2 (.t 2) (.t 8), none⟩] []) <|
 .keep [2] [[2]]) <|
 .ret) <|
 .skip) <|
 .seq (.seq (.reg [⟨some 9, .fad 2 (.t 1), none⟩,
 ⟨some 10, .load (some 2) (.t 9), none⟩,
 ⟨none, .store 2 (.t 2) (.t 10), none⟩] []) <|
 .keep [2] [[2]]) <|
 .ret, [.cell 2 (some 2)]⟩

def integer_Of : CF := ⟨1, .seq (.seq (.reg [⟨some 2, .new [.v (.bool false), .z true], none⟩] []) <|
 .keep [0, 2] [[2]]) <|
 .seq (.seq (.reg [⟨some 4, .mov (.t 0), none⟩,
 ⟨some 5, .conv (.int .u64) (.t 4), none⟩,
 ⟨some 3, .mov (.t 5), none⟩] []) <|
 .keep [0, 2, 3] [[2]]) <|
 .seq (.seq (.seq (.reg [⟨some 6, .mov (.t 0), none⟩,
 ⟨some 7, .bin .lss (.t 6) (.c (.v (.int .i64 0))), none⟩] []) <|
 .keep [0, 2, 3, 7] [[2]]) <|
 .cond (.t 7) (.seq (.reg [⟨some 8, .mov (.t 3), none⟩,
 ⟨some 9, .un .neg (.t 8), none⟩,
 ⟨some 3, .mov (.t 9), none⟩] []) <|
 .keep [0, 2, 3] [[2]]) <|
 .skip) <|
 .seq (.seq (.reg [⟨some 10, .mov (.t 0), none⟩,
 ⟨some 11, .bin .lss (.t 10) (.c (.v (.int .i64 0))), none⟩,
 ⟨some 12, .mov (.t 3), none⟩,
 ⟨some 13, .call n_integer_unsigned [(.t 11), (.t 12)] false, none⟩,
 ⟨none, .store 2 (.t 2) (.t 13), none⟩] []) <|
 .keep [2] [[2]]) <|
 .ret, [.cell 2 (some 2)]⟩

def integer_of_l0 : C :=
 .seq (.seq (.seq (.seq (.reg [⟨some 8, .mov (.t 5), none⟩,
 ⟨some 9, .bin .gtr (.t 8) (.c (.v (.int .i64 0))), none⟩,
 ⟨some 10, .mov (.t 9), none⟩,
 ⟨some 11, .mov (.t 1), (some (10, true))⟩,
 ⟨some 12, .mov (.t 5), (some (10, true))⟩,
 ⟨some 13, .bin .sub (.t 12) (.c (.v (.int .i64 1))), (some (10, true))⟩,
 ⟨some 14, .ixa 1 (.t 11) (.t 13), (some (10, true))⟩,
 ⟨some 15, .load none (.t 14), (some (10, true))⟩,
 ⟨some 16, .bin .eql (.t 15) (.c (.v (.int .i64 0))), (some (10, true))⟩,
 ⟨some 17, .pick (.t 10) (.t 16) (.c (.v (.bool false))), none⟩] []) <|
 .keep [0, 1, 4, 5, 17] [[4]]) <|
 .cond (.t 17) (.skip) <|
 .seq (.keep [0, 1, 4, 5] [[4]]) <|
 .exit 0) <|
 .seq (.blk 1 <|
 .seq (.reg [⟨some 18, .mov (.t 5), none⟩,
 ⟨some 19, .bin .sub (.t 18) (.c (.v (.int .i64 1))), none⟩,
 ⟨some 5, .mov (.t 19), none⟩] []) <|
 .keep [0, 1, 4, 5] [[4]]) <|
 .keep [0, 1, 4, 5] [[4]]) <|
 .keep [0, 1, 4, 5] [[4]]
def integer_of : CF := ⟨2, .seq (.seq (.reg [⟨some 4, .new [.v (.bool false), .z true], none⟩] []) <|
 .keep [0, 1, 4] [[4]]) <|
 .seq (.seq (.reg [⟨some 6, .mov (.t 1), none⟩,
 ⟨some 7, .len (.t 6), none⟩,
 ⟨some 5, .mov (.t 7), none⟩] []) <|
 .keep [0, 1, 4, 5] [[4]]) <|
 .seq (.seq (.blk 0 <|
 .seq (.keep [0, 1, 4, 5] [[4]]) <|
 .loop integer_of_l0) <|
 .keep [0, 1, 4, 5] [[4]]) <|
 .seq (.seq (.seq (.reg [⟨some 20, .mov (.t 5), none⟩,
 ⟨some 21, .bin .eql (.t 20) (.c (.v (.int .i64 0))), none⟩] []) <|
 .keep [0, 1, 4, 5, 21] [[4]]) <|
 .cond (.t 21) (.seq (.seq (.reg [⟨some 22, .build [.v (.bool false), .z true] [], none⟩,
 ⟨none, .store 2 (.t 4) (.t 22), none⟩] []) <|
 .keep [4] [[4]]) <|
 .ret) <|
 .skip) <|
 .seq (.seq (.reg [⟨some 23, .mov (.t 0), none⟩,
 ⟨some 24, .mov (.t 1), none⟩,
 ⟨some 25, .mov (.t 5), none⟩,
 ⟨some 26, .mov (.t 5), none⟩,
 ⟨some 27, .slc 1 (.t 24) none (some (.t 25)) (some (.t 26)), none⟩,
 ⟨some 28, .build [.v (.bool false), .z true] [(0, 1, (.t 23)), (1, 1, (.t 27))], none⟩,
 ⟨none, .store 2 (.t 4) (.t 28), none⟩] []) <|
 .keep [4] [[4]]) <|
 .ret, [.cell 4 (some 2)]⟩

def integer_plus_l0 : C :=
 .seq (.seq (.seq (.reg [⟨some 24, .bin .lss (.t 23) (.t 22), none⟩] []) <|
 .keep [0, 1, 5, 6, 21, 22, 23, 24] [[20]]) <|
 .seq (.cond (.t 24) (.skip) <|
 .seq (.keep [0, 5, 6] [[20]]) <|
 .exit 0) <|
 .seq (.seq (.blk 1 <|
 .seq (.seq (.reg [⟨some 25, .mov (.t 23), none⟩,
 ⟨some 26, .ixa 1 (.t 21) (.t 23), none⟩,
 ⟨some 27, .load none (.t 26), none⟩,
 ⟨some 7, .mov (.t 25), none⟩,
 ⟨some 8, .mov (.t 27), none⟩] []) <|
 .keep [0, 1, 5, 6, 7, 8, 21, 22, 23] [[20]]) <|
 .seq (.seq (.reg [⟨some 28, .mov (.t 8), none⟩,
 ⟨some 29, .mov (.t 6), none⟩,
 ⟨some 30, .bin .add (.t 28) (.t 29), none⟩,
 ⟨some 9, .mov (.t 30), none⟩] []) <|
 .keep [0, 1, 5, 7, 9, 21, 22, 23] [[20]]) <|
 .seq (.seq (.seq (.reg [⟨some 31, .mov (.t 7), none⟩,
 ⟨some 32, .mov (.t 1), none⟩,
 ⟨some 33, .len (.t 32), none⟩,
 ⟨some 34, .bin .lss (.t 31) (.t 33), none⟩] []) <|
 .keep [0, 1, 5, 7, 9, 21, 22, 23, 34] [[20]]) <|
 .cond (.t 34) (.seq (.reg [⟨some 35, .mov (.t 9), none⟩,
 ⟨some 36, .mov (.t 1), none⟩,
 ⟨some 37, .mov (.t 7), none⟩,
 ⟨some 38, .ixa 1 (.t 36) (.t 37), none⟩,
 ⟨some 39, .load none (.t 38), none⟩,
 ⟨some 40, .bin .add (.t 35) (.t 39), none⟩,
 ⟨some 9, .mov (.t 40), none⟩] []) <|
 .keep [0, 1, 5, 7, 9, 21, 22, 23] [[20]]) <|
 .skip) <|
 .seq (.seq (.reg [⟨some 6, .mov (.c (.v (.int .i64 0))), none⟩] []) <|
 .keep [0, 1, 5, 6, 7, 9, 21, 22, 23] [[20]]) <|
 .seq (.seq (.seq (.reg [⟨some 41, .mov (.t 9), none⟩,
 ⟨some 42, .bin .geq (.t 41) (.c (.v (.int .i64 1000000000))), none⟩] []) <|
 .keep [0, 1, 5, 6, 7, 9, 21, 22, 23, 42] [[20]]) <|
 .cond (.t 42) (.seq (.reg [⟨some 43, .mov (.t 9), none⟩,
 ⟨some 44, .bin .sub (.t 43) (.c (.v (.int .i64 1000000000))), none⟩,
 ⟨some 9, .mov (.t 44), none⟩,
 ⟨some 6, .mov (.c (.v (.int .i64 1))), none⟩] []) <|
 .keep [0, 1, 5, 6, 7, 9, 21, 22, 23] [[20]]) <|
 .skip) <|
 .seq (.reg [⟨some 45, .mov (.t 5), none⟩,
 ⟨some 46, .mov (.t 7), none⟩,
 ⟨some 47, .mov (.t 9), none⟩,
 ⟨some 48, .ixa 1 (.t 45) (.t 46), none⟩,
 ⟨none, .store 1 (.t 48) (.t 47), none⟩] []) <|
 .keep [0, 1, 5, 6, 21, 22, 23] [[20]]) <|
 .keep [0, 1, 5, 6, 21, 22, 23] [[20]]) <|
 .seq (.reg [⟨some 49, .bin .add (.t 23) (.c (.v (.int .i64 1))), none⟩,
 ⟨some 23, .mov (.t 49), none⟩] []) <|
 .keep [0, 1, 5, 6, 21, 22, 23] [[20]]) <|
 .keep [0, 1, 5, 6, 21, 22, 23] [[20]]
def integer_plus : CF := ⟨2, .seq (.seq (.reg [⟨some 4, .mov (.c (.z true)), none⟩] []) <|
 .keep [0, 1] []) <|
 .seq (.seq (.seq (.reg [⟨some 10, .mov (.t 0), none⟩,
 ⟨some 11, .len (.t 10), none⟩,
 ⟨some 12, .mov (.t 1), none⟩,
 ⟨some 13, .len (.t 12), none⟩,
 ⟨some 14, .bin .lss (.t 11) (.t 13), none⟩] []) <|
 .keep [0, 1, 14] []) <|
 .cond (.t 14) (.seq (.reg [⟨some 15, .mov (.t 1), none⟩,
 ⟨some 16, .mov (.t 0), none⟩,
 ⟨some 0, .mov (.t 15), none⟩,
 ⟨some 1, .mov (.t 16), none⟩] []) <|
 .keep [0, 1] []) <|
 .skip) <|
 .seq (.seq (.reg [⟨some 17, .mov (.t 0), none⟩,
 ⟨some 18, .len (.t 17), none⟩,
 ⟨some 19, .bin .add (.t 18) (.c (.v (.int .i64 1))), none⟩,
 ⟨some 20, .mksl 1 8 [.v (.int .i64 0)] (.t 19) (.t 19), none⟩,
 ⟨some 5, .mov (.t 20), none⟩] []) <|
 .keep [0, 1, 5] [[20]]) <|
 .seq (.seq (.reg [⟨some 6, .mov (.c (.v (.int .i64 0))), none⟩] []) <|
 .keep [0, 1, 5, 6] [[20]]) <|
 .seq (.seq (.seq (.reg [⟨some 21, .mov (.t 0), none⟩,
 ⟨some 22, .len (.t 21), none⟩,
 ⟨some 23, .mov (.c (.v (.int .i64 0))), none⟩] []) <|
 .keep [0, 1, 5, 6, 21, 22, 23] [[20]]) <|
 .seq (.blk 0 <|
 .seq (.keep [0, 1, 5, 6, 21, 22, 23] [[20]]) <|
 .loop integer_plus_l0) <|
 .keep [0, 5, 6] [[20]]) <|
 .seq (.seq (.reg [⟨some 50, .mov (.t 5), none⟩,
 ⟨some 51, .mov (.t 0), none⟩,
 ⟨some 52, .len (.t 51), none⟩,
 ⟨some 53, .mov (.t 6), none⟩,
 ⟨some 54, .ixa 1 (.t 50) (.t 52), none⟩,
 ⟨none, .store 1 (.t 54) (.t 53), none⟩] []) <|
 .keep [5] [[20]]) <|
 .seq (.seq (.reg [⟨some 55, .mov (.t 5), none⟩,
 ⟨some 4, .mov (.t 55), none⟩] []) <|
 .keep [4] [[20]]) <|
 .ret, [.t 4]⟩

def integer_compare_l0 : C :=
 .seq (.seq (.seq (.seq (.reg [⟨some 19, .mov (.t 5), none⟩,
 ⟨some 20, .bin .geq (.t 19) (.c (.v (.int .i64 0))), none⟩] []) <|
 .keep [0, 1, 5, 20] []) <|
 .cond (.t 20) (.skip) <|
 .seq (.keep [] []) <|
 .exit 0) <|
 .seq (.seq (.blk 1 <|
 .seq (.seq (.reg [⟨some 23, .mov (.t 0), none⟩,
 ⟨some 24, .mov (.t 5), none⟩,
 ⟨some 25, .ixa 1 (.t 23) (.t 24), none⟩,
 ⟨some 26, .load none (.t 25), none⟩,
 ⟨some 27, .mov (.t 1), none⟩,
 ⟨some 28, .mov (.t 5), none⟩,
 ⟨some 29, .ixa 1 (.t 27) (.t 28), none⟩,
 ⟨some 30, .load none (.t 29), none⟩,
 ⟨some 31, .bin .neq (.t 26) (.t 30), none⟩] []) <|
 .keep [0, 1, 5, 31] []) <|
 .cond (.t 31) (.seq (.seq (.reg [⟨some 32, .mov (.t 0), none⟩,
 ⟨some 33, .mov (.t 5), none⟩,
 ⟨some 34, .ixa 1 (.t 32) (.t 33), none⟩,
 ⟨some 35, .load none (.t 34), none⟩,
 ⟨some 36, .mov (.t 1), none⟩,
 ⟨some 37, .mov (.t 5), none⟩,
 ⟨some 38, .ixa 1 (.t 36) (.t 37), none⟩,
 ⟨some 39, .load none (.t 38), none⟩,
 ⟨some 40, .call n_cmp_Compare_int [(.t 35), (.t 39)] false, none⟩,
 ⟨some 4, .mov (.t 40), none⟩] []) <|
 .keep [4] []) <|
 .ret) <|
 .skip) <|
 .keep [0, 1, 5] []) <|
 .seq (.reg [⟨some 21, .mov (.t 5), none⟩,
 ⟨some 22, .bin .sub (.t 21) (.c (.v (.int .i64 1))), none⟩,
 ⟨some 5, .mov (.t 22), none⟩] []) <|
 .keep [0, 1, 5] []) <|
 .keep [0, 1, 5] []
def integer_compare : CF := ⟨2, .seq (.seq (.reg [⟨some 4, .mov (.c (.v (.int .i64 0))), none⟩] []) <|
 .keep [0, 1] []) <|
 .seq (.seq (.seq (.reg [⟨some 6, .mov (.t 0), none⟩,
 ⟨some 7, .len (.t 6), none⟩,
 ⟨some 8, .mov (.t 1), none⟩,
 ⟨some 9, .len (.t 8), none⟩,
 ⟨some 10, .bin .neq (.t 7) (.t 9), none⟩] []) <|
 .keep [0, 1, 10] []) <|
 .cond (.t 10) (.seq (.seq (.reg [⟨some 11, .mov (.t 0), none⟩,
 ⟨some 12, .len (.t 11), none⟩,
 ⟨some 13, .mov (.t 1), none⟩,
 ⟨some 14, .len (.t 13), none⟩,
 ⟨some 15, .call n_cmp_Compare_int [(.t 12), (.t 14)] false, none⟩,
 ⟨some 4, .mov (.t 15), none⟩] []) <|
 .keep [4] []) <|
 .ret) <|
 .skip) <|
 .seq (.seq (.seq (.reg [⟨some 16, .mov (.t 0), none⟩,
 ⟨some 17, .len (.t 16), none⟩,
 ⟨some 18, .bin .sub (.t 17) (.c (.v (.int .i64 1))), none⟩,
 ⟨some 5, .mov (.t 18), none⟩] []) <|
 .keep [0, 1, 5] []) <|
 .seq (.blk 0 <|
 .seq (.keep [0, 1, 5] []) <|
 .loop integer_compare_l0) <|
 .keep [] []) <|
 .seq (.seq (.reg [⟨some 4, .mov (.c (.v (.int .i64 0))), none⟩] []) <|
 .keep [4] []) <|
 .ret, [.t 4]⟩

def integer_minus_l0 : C :=
 .seq (.seq (.seq (.reg [⟨some 16, .bin .lss (.t 15) (.t 14), none⟩] []) <|
 .keep [1, 5, 14, 15, 16] [[9]]) <|
 .seq (.cond (.t 16) (.skip) <|
 .seq (.keep [5] [[9]]) <|
 .exit 0) <|
 .seq (.seq (.blk 1 <|
 .seq (.seq (.reg [⟨some 17, .mov (.t 15), none⟩,
 ⟨some 6, .mov (.t 17), none⟩] []) <|
 .keep [1, 5, 6, 14, 15] [[9]]) <|
 .seq (.seq (.seq (.reg [⟨some 18, .mov (.t 6), none⟩,
 ⟨some 19, .mov (.t 1), none⟩,
 ⟨some 20, .len (.t 19), none⟩,
 ⟨some 21, .bin .lss (.t 18) (.t 20), none⟩] []) <|
 .keep [1, 5, 6, 14, 15, 21] [[9]]) <|
 .cond (.t 21) (.seq (.reg [⟨some 22, .mov (.t 5), none⟩,
 ⟨some 23, .mov (.t 6), none⟩,
 ⟨some 24, .ixa 1 (.t 22) (.t 23), none⟩,
 ⟨some 25, .load none (.t 24), none⟩,
 ⟨some 26, .mov (.t 1), none⟩,
 ⟨some 27, .mov (.t 6), none⟩,
 ⟨some 28, .ixa 1 (.t 26) (.t 27), none⟩,
 ⟨some 29, .load none (.t 28), none⟩,
 ⟨some 30, .bin .sub (.t 25) (.t 29), none⟩,
 ⟨some 31, .ixa 1 (.t 22) (.t 23), none⟩,
 ⟨none, .store 1 (.t 31) (.t 30), none⟩] []) <|
 .keep [1, 5, 6, 14, 15] [[9]]) <|
 .skip) <|
 .seq (.seq (.reg [⟨some 32, .mov (.t 5), none⟩,
 ⟨some 33, .mov (.t 6), none⟩,
 ⟨some 34, .ixa 1 (.t 32) (.t 33), none⟩,
 ⟨some 35, .load none (.t 34), none⟩,
 ⟨some 36, .bin .lss (.t 35) (.c (.v (.int .i64 0))), none⟩] []) <|
 .keep [1, 5, 6, 14, 15, 36] [[9]]) <|
 .cond (.t 36) (.seq (.seq (.reg [⟨some 37, .mov (.t 5), none⟩,
 ⟨some 38, .mov (.t 6), none⟩,
 ⟨some 39, .ixa 1 (.t 37) (.t 38), none⟩,
 ⟨some 40, .load none (.t 39), none⟩,
 ⟨some 41, .bin .add (.t 40) (.c (.v (.int .i64 1000000000))), none⟩,
 ⟨some 42, .ixa 1 (.t 37) (.t 38), none⟩,
 ⟨none, .store 1 (.t 42) (.t 41), none⟩] []) <|
 .keep [1, 5, 6, 14, 15] [[9]]) <|
 .seq (.reg [⟨some 43, .mov (.t 5), none⟩,
 ⟨some 44, .mov (.t 6), none⟩,
 ⟨some 45, .bin .add (.t 44) (.c (.v (.int .i64 1))), none⟩,
 ⟨some 46, .ixa 1 (.t 43) (.t 45), none⟩,
 ⟨some 47, .load none (.t 46), none⟩,
 ⟨some 48, .bin .sub (.t 47) (.c (.v (.int .i64 1))), none⟩,
 ⟨some 49, .ixa 1 (.t 43) (.t 45), none⟩,
 ⟨none, .store 1 (.t 49) (.t 48), none⟩] []) <|
 .keep [1, 5, 14, 15] [[9]]) <|
 .skip) <|
 .keep [1, 5, 14, 15] [[9]]) <|
 .seq (.reg [⟨some 50, .bin .add (.t 15) (.c (.v (.int .i64 1))), none⟩,
 ⟨some 15, .mov (.t 50), none⟩] []) <|
 .keep [1, 5, 14, 15] [[9]]) <|
 .keep [1, 5, 14, 15] [[9]]
def integer_minus : CF := ⟨2, .seq (.seq (.reg [⟨some 4, .mov (.c (.z true)), none⟩] []) <|
 .keep [0, 1] []) <|
 .seq (.seq (.reg [⟨some 7, .mov (.t 0), none⟩,
 ⟨some 8, .len (.t 7), none⟩,
 ⟨some 9, .mksl 1 8 [.v (.int .i64 0)] (.t 8) (.t 8), none⟩,
 ⟨some 5, .mov (.t 9), none⟩] []) <|
 .keep [0, 1, 5] [[9]]) <|
 .seq (.seq (.reg [⟨some 10, .mov (.t 5), none⟩,
 ⟨some 11, .mov (.t 0), none⟩,
 ⟨some 12, .cpy 1 (.t 10) (.t 11), none⟩] []) <|
 .keep [1, 5] [[9]]) <|
 .seq (.seq (.seq (.reg [⟨some 13, .mov (.t 5), none⟩,
 ⟨some 14, .len (.t 13), none⟩,
 ⟨some 15, .mov (.c (.v (.int .i64 0))), none⟩] []) <|
 .keep [1, 5, 14, 15] [[9]]) <|
 .seq (.blk 0 <|
 .seq (.keep [1, 5, 14, 15] [[9]]) <|
 .loop integer_minus_l0) <|
 .keep [5] [[9]]) <|
 .seq (.seq (.reg [⟨some 51, .mov (.t 5), none⟩,
 ⟨some 4, .mov (.t 51), none⟩] []) <|
 .keep [4] [[9]]) <|
 .ret, [.t 4]⟩

def rat_one : CF := ⟨0, .seq (.seq (.reg [⟨some 0, .new [.v (.bool false), .z true], none⟩] []) <|
 .keep [0] [[0]]) <|
 .seq (.seq (.reg [⟨some 1, .call n_integer_Of [(.c (.v (.int .i64 1)))] false, none⟩,
 ⟨none, .store 2 (.t 0) (.t 1), none⟩] []) <|
 .keep [0] [[0]]) <|
 .ret, [.cell 0 (some 2)]⟩

def integer_Div : CF := ⟨2, .seq (.seq (.reg [⟨some 2, .box (.t 0), none⟩,
 ⟨some 3, .box (.t 1), none⟩,
 ⟨some 4, .new [.v (.bool false), .z true], none⟩,
 ⟨some 5, .new [.v (.bool false), .z true], none⟩] []) <|
 .keep [2, 3, 4, 5] [[2], [3], [4], [5]]) <|
 .seq (.seq (.seq (.reg [⟨some 8, .fad 1 (.t 3), none⟩,
 ⟨some 9, .load none (.t 8), none⟩,
 ⟨some 10, .len (.t 9), none⟩,
 ⟨some 11, .bin .eql (.t 10) (.c (.v (.int .i64 0))), none⟩] []) <|
 .keep [2, 3, 4, 5, 11] [[2], [3], [4], [5]]) <|
 .cond (.t 11) (.seq (.seq (.reg [⟨some 12, .build [.v (.bool false), .z true] [], none⟩,
 ⟨some 13, .build [.v (.bool false), .z true] [], none⟩,
 ⟨none, .store 2 (.t 4) (.t 12), none⟩,
 ⟨none, .store 2 (.t 5) (.t 13), none⟩] []) <|
 .keep [4, 5] [[4], [5]]) <|
 .ret) <|
 .skip) <|
 .seq (.seq (.reg [⟨some 15, .fad 1 (.t 2), none⟩,
 ⟨some 16, .load none (.t 15), none⟩,
 ⟨some 17, .fad 1 (.t 3), none⟩,
 ⟨some 18, .load none (.t 17), none⟩,
 ⟨some 19, .call n_integer_divide [(.t 16), (.t 18)] false, none⟩,
 ⟨some 14, .mov (.t 19), none⟩,
 ⟨some 20, .ext (.t 14) 0, none⟩,
 ⟨some 21, .ext (.t 14) 1, none⟩,
 ⟨some 6, .new [.v (.bool false), .z true], none⟩,
 ⟨some 7, .new [.v (.bool false), .z true], none⟩,
 ⟨none, .store 2 (.t 6) (.t 20), none⟩,
 ⟨none, .store 2 (.t 7) (.t 21), none⟩] []) <|
 .keep [2, 3, 4, 5, 6, 7] [[2], [3], [4], [5], [6], [7]]) <|
 .seq (.seq (.seq (.reg [⟨some 22, .fad 0 (.t 2), none⟩,
 ⟨some 23, .load none (.t 22), none⟩,
 ⟨some 24, .mov (.t 23), none⟩,
 ⟨some 25, .fad 1 (.t 7), (some (24, true))⟩,
 ⟨some 26, .load none (.t 25), (some (24, true))⟩,
 ⟨some 27, .len (.t 26), (some (24, true))⟩,
 ⟨some 28, .bin .gtr (.t 27) (.c (.v (.int .i64 0))), (some (24, true))⟩,
 ⟨some 29, .pick (.t 24) (.t 28) (.c (.v (.bool false))), none⟩] []) <|
 .keep [2, 3, 4, 5, 6, 7, 29] [[2], [3], [4], [5], [6], [7]]) <|
 .cond (.t 29) (.seq (.seq (.reg [⟨some 30, .fad 1 (.t 6), none⟩,
 ⟨some 31, .load none (.t 30), none⟩,
 ⟨some 32, .lit 1 1 [.v (.int .i64 0)] [(0, (.c (.v (.int .i64 1))))] true, none⟩,
 ⟨some 33, .call n_integer_plus [(.t 31), (.t 32)] false, none⟩,
 ⟨some 34, .call n_integer_of [(.c (.v (.bool false))), (.t 33)] false, none⟩,
 ⟨none, .store 2 (.t 6) (.t 34), none⟩] []) <|
 .keep [2, 3, 4, 5, 6, 7] [[2], [3], [4], [5], [6], [7]]) <|
 .seq (.reg [⟨some 35, .fad 1 (.t 3), none⟩,
 ⟨some 36, .load none (.t 35), none⟩,
 ⟨some 37, .fad 1 (.t 7), none⟩,
 ⟨some 38, .load none (.t 37), none⟩,
 ⟨some 39, .call n_integer_minus [(.t 36), (.t 38)] false, none⟩,
 ⟨some 40, .call n_integer_of [(.c (.v (.bool false))), (.t 39)] false, none⟩,
 ⟨none, .store 2 (.t 7) (.t 40), none⟩] []) <|
 .keep [2, 3, 4, 5, 6, 7] [[2], [3], [4], [5], [6], [7]]) <|
 .skip) <|
 .seq (.seq (.reg [⟨some 41, .fad 0 (.t 2), none⟩,
 ⟨some 42, .load none (.t 41), none⟩,
 ⟨some 43, .fad 0 (.t 3), none⟩,
 ⟨some 44, .load none (.t 43), none⟩,
 ⟨some 45, .binb true (.t 42) (.t 44), none⟩,
 ⟨some 46, .mov (.t 45), none⟩,
 ⟨some 47, .fad 1 (.t 6), (some (46, true))⟩,
 ⟨some 48, .load none (.t 47), (some (46, true))⟩,
 ⟨some 49, .len (.t 48), (some (46, true))⟩,
 ⟨some 50, .bin .gtr (.t 49) (.c (.v (.int .i64 0))), (some (46, true))⟩,
 ⟨some 51, .pick (.t 46) (.t 50) (.c (.v (.bool false))), none⟩,
 ⟨some 52, .fad 0 (.t 6), none⟩,
 ⟨none, .store 1 (.t 52) (.t 51), none⟩] []) <|
 .keep [4, 5, 6, 7] [[4], [5], [6], [7]]) <|
 .seq (.seq (.reg [⟨some 53, .load (some 2) (.t 6), none⟩,
 ⟨some 54, .load (some 2) (.t 7), none⟩,
 ⟨none, .store 2 (.t 4) (.t 53), none⟩,
 ⟨none, .store 2 (.t 5) (.t 54), none⟩] [((.t 7), 2, (.t 4), 2)]) <|
 .keep [4, 5] [[4], [5]]) <|
 .ret, [.cell 4 (some 2), .cell 5 (some 2)]⟩

def integer_unsigned : CF := ⟨2, .seq (.seq (.reg [⟨some 4, .new [.v (.bool false), .z true], none⟩] []) <|
 .keep [0, 1, 4] [[4]]) <|
 .seq (.seq (.blk 0 <|
 .seq (.seq (.reg [⟨some 6, .mov (.t 1), none⟩,
 ⟨some 7, .bin .eql (.t 6) (.c (.v (.int .u64 0))), none⟩,
 ⟨some 5, .mov (.t 7), none⟩] []) <|
 .keep [0, 1, 4, 5] [[4]]) <|
 .cond (.t 5) (.seq (.seq (.reg [⟨some 8, .build [.v (.bool false), .z true] [], none⟩,
 ⟨none, .store 2 (.t 4) (.t 8), none⟩] []) <|
 .keep [4] [[4]]) <|
 .ret) <|
 .seq (.seq (.reg [⟨some 10, .mov (.t 1), none⟩,
 ⟨some 11, .bin .lss (.t 10) (.c (.v (.int .u64 1000000000))), none⟩,
 ⟨some 9, .mov (.t 11), none⟩] []) <|
 .keep [0, 1, 4, 9] [[4]]) <|
 .cond (.t 9) (.seq (.seq (.reg [⟨some 12, .mov (.t 0), none⟩,
 ⟨some 13, .mov (.t 1), none⟩,
 ⟨some 14, .conv (.int .i64) (.t 13), none⟩,
 ⟨some 15, .lit 1 1 [.v (.int .i64 0)] [(0, (.t 14))] true, none⟩,
 ⟨some 16, .build [.v (.bool false), .z true] [(0, 1, (.t 12)), (1, 1, (.t 15))], none⟩,
 ⟨none, .store 2 (.t 4) (.t 16), none⟩] []) <|
 .keep [4] [[4]]) <|
 .ret) <|
 .seq (.seq (.reg [⟨some 18, .mov (.t 1), none⟩,
 ⟨some 19, .bin .lss (.t 18) (.c (.v (.int .u64 1000000000000000000))), none⟩,
 ⟨some 17, .mov (.t 19), none⟩] []) <|
 .keep [0, 1, 4, 17] [[4]]) <|
 .cond (.t 17) (.seq (.seq (.reg [⟨some 20, .mov (.t 0), none⟩,
 ⟨some 21, .mov (.t 1), none⟩,
 ⟨some 22, .bin .rem (.t 21) (.c (.v (.int .u64 1000000000))), none⟩,
 ⟨some 23, .conv (.int .i64) (.t 22), none⟩,
 ⟨some 24, .mov (.t 1), none⟩,
 ⟨some 25, .bin .quo (.t 24) (.c (.v (.int .u64 1000000000))), none⟩,
 ⟨some 26, .conv (.int .i64) (.t 25), none⟩,
 ⟨some 27, .lit 1 2 [.v (.int .i64 0)] [(0, (.t 23)), (1, (.t 26))] true, none⟩,
 ⟨some 28, .build [.v (.bool false), .z true] [(0, 1, (.t 20)), (1, 1, (.t 27))], none⟩,
 ⟨none, .store 2 (.t 4) (.t 28), none⟩] []) <|
 .keep [4] [[4]]) <|
 .ret) <|
 .skip) <|
 .keep [0, 1, 4] [[4]]) <|
 .seq (.seq (.reg [⟨some 29, .mov (.t 0), none⟩,
 ⟨some 30, .mov (.t 1), none⟩,
 ⟨some 31, .bin .rem (.t 30) (.c (.v (.int .u64 1000000000))), none⟩,
 ⟨some 32, .conv (.int .i64) (.t 31), none⟩,
 ⟨some 33, .mov (.t 1), none⟩,
 ⟨some 34, .bin .quo (.t 33) (.c (.v (.int .u64 1000000000))), none⟩,
 ⟨some 35, .bin .rem (.t 34) (.c (.v (.int .u64 1000000000))), none⟩,
 ⟨some 36, .conv (.int .i64) (.t 35), none⟩,
 ⟨some 37, .mov (.t 1), none⟩,
 ⟨some 38, .bin .quo (.t 37) (.c (.v (.int .u64 1000000000))), none⟩,
 ⟨some 39, .bin .quo (.t 38) (.c (.v (.int .u64 1000000000))), none⟩,
 ⟨some 40, .conv (.int .i64) (.t 39), none⟩,
 ⟨some 41, .lit 1 3 [.v (.int .i64 0)] [(0, (.t 32)), (1, (.t 36)), (2, (.t 40))] true, none⟩,
 ⟨some 42, .build [.v (.bool false), .z true] [(0, 1, (.t 29)), (1, 1, (.t 41))], none⟩,
 ⟨none, .store 2 (.t 4) (.t 42), none⟩] []) <|
 .keep [4] [[4]]) <|
 .ret, [.cell 4 (some 2)]⟩

def slices_Backward_api_Poly_api_Rat_1_l0 : C :=
 .seq (.seq (.seq (.seq (.reg [⟨some 7, .mov (.t 3), none⟩,
 ⟨some 8, .bin .geq (.t 7) (.c (.v (.int .i64 0))), none⟩] []) <|
 .keep [0, 1, 3, 8] []) <|
 .cond (.t 8) (.skip) <|
 .seq (.keep [] []) <|
 .exit 0) <|
 .seq (.seq (.blk 1 <|
 .seq (.seq (.reg [⟨some 11, .mov (.t 0), none⟩,
 ⟨some 12, .mov (.t 3), none⟩,
 ⟨some 13, .load none (.t 1), none⟩,
 ⟨some 14, .mov (.t 3), none⟩,
 ⟨some 15, .ixa 4 (.t 13) (.t 14), none⟩,
 ⟨some 16, .load (some 4) (.t 15), none⟩,
 ⟨some 17, .calv (.t 11) [(.t 12), (.t 16)], none⟩,
 ⟨some 18, .un .not (.t 17), none⟩] []) <|
 .keep [0, 1, 3, 18] []) <|
 .cond (.t 18) (.ret) <|
 .skip) <|
 .keep [0, 1, 3] []) <|
 .seq (.reg [⟨some 9, .mov (.t 3), none⟩,
 ⟨some 10, .bin .sub (.t 9) (.c (.v (.int .i64 1))), none⟩,
 ⟨some 3, .mov (.t 10), none⟩] []) <|
 .keep [0, 1, 3] []) <|
 .keep [0, 1, 3] []
def slices_Backward_api_Poly_api_Rat_1 : CF := ⟨2, .seq (.seq (.reg [⟨some 4, .load none (.t 1), none⟩,
 ⟨some 5, .len (.t 4), none⟩,
 ⟨some 6, .bin .sub (.t 5) (.c (.v (.int .i64 1))), none⟩,
 ⟨some 3, .mov (.t 6), none⟩] []) <|
 .keep [0, 1, 3] []) <|
 .seq (.blk 0 <|
 .seq (.keep [0, 1, 3] []) <|
 .loop slices_Backward_api_Poly_api_Rat_1_l0) <|
 .keep [] [], []⟩

def gantryref04_Div : CF := ⟨2, .seq (.seq (.reg [⟨some 2, .box (.t 0), none⟩,
 ⟨some 3, .box (.t 1), none⟩,
 ⟨some 4, .new [.v (.bool false), .z true], none⟩,
 ⟨some 5, .new [.v (.bool false), .z true], none⟩] []) <|
 .keep [2, 3, 4, 5] [[2], [3], [4], [5]]) <|
 .seq (.seq (.seq (.reg [⟨some 10, .fad 1 (.t 3), none⟩,
 ⟨some 11, .load none (.t 10), none⟩,
 ⟨some 12, .len (.t 11), none⟩,
 ⟨some 13, .bin .eql (.t 12) (.c (.v (.int .i64 0))), none⟩] []) <|
 .keep [2, 3, 4, 5, 13] [[2], [3], [4], [5]]) <|
 .cond (.t 13) (.seq (.seq (.reg [⟨some 14, .build [.v (.bool false), .z true] [], none⟩,
 ⟨some 15, .build [.v (.bool false), .z true] [], none⟩,
 ⟨none, .store 2 (.t 4) (.t 14), none⟩,
 ⟨none, .store 2 (.t 5) (.t 15), none⟩] []) <|
 .keep [4, 5] [[4], [5]]) <|
 .ret) <|
 .skip) <|
 .seq (.seq (.reg [⟨some 17, .fad 1 (.t 2), none⟩,
 ⟨some 18, .load none (.t 17), none⟩,
 ⟨some 19, .fad 1 (.t 3), none⟩,
 ⟨some 20, .load none (.t 19), none⟩,
 ⟨some 21, .call n_gantryref04_divided [(.t 18), (.t 20)] false, none⟩,
 ⟨some 16, .mov (.t 21), none⟩,
 ⟨some 22, .ext (.t 16) 0, none⟩,
 ⟨some 23, .ext (.t 16) 1, none⟩,
 ⟨some 6, .mov (.t 22), none⟩,
 ⟨some 7, .mov (.t 23), none⟩] []) <|
 .keep [2, 3, 4, 5, 6, 7] [[2], [3], [4], [5]]) <|
 .seq (.seq (.reg [⟨some 24, .fad 0 (.t 2), none⟩,
 ⟨some 25, .load none (.t 24), none⟩,
 ⟨some 26, .fad 0 (.t 3), none⟩,
 ⟨some 27, .load none (.t 26), none⟩,
 ⟨some 28, .binb true (.t 25) (.t 27), none⟩,
 ⟨some 29, .mov (.t 6), none⟩,
 ⟨some 30, .call n_gantryref04_normal [(.t 28), (.t 29)] false, none⟩,
 ⟨some 8, .new [.v (.bool false), .z true], none⟩,
 ⟨none, .store 2 (.t 8) (.t 30), none⟩] []) <|
 .keep [2, 3, 4, 5, 7, 8] [[2], [3], [4], [5], [8]]) <|
 .seq (.seq (.reg [⟨some 31, .mov (.t 7), none⟩,
 ⟨some 32, .call n_gantryref04_normal [(.c (.v (.bool false))), (.t 31)] false, none⟩,
 ⟨some 9, .new [.v (.bool false), .z true], none⟩,
 ⟨none, .store 2 (.t 9) (.t 32), none⟩] []) <|
 .keep [2, 3, 4, 5, 8, 9] [[2], [3], [4], [5], [8], [9]]) <|
 .seq (.seq (.seq (.reg [⟨some 33, .fad 0 (.t 2), none⟩,
 ⟨some 34, .load none (.t 33), none⟩,
 ⟨some 35, .mov (.t 34), none⟩,
 ⟨some 36, .fad 1 (.t 9), (some (35, true))⟩,
 ⟨some 37, .load none (.t 36), (some (35, true))⟩,
 ⟨some 38, .len (.t 37), (some (35, true))⟩,
 ⟨some 39, .bin .gtr (.t 38) (.c (.v (.int .i64 0))), (some (35, true))⟩,
 ⟨some 40, .pick (.t 35) (.t 39) (.c (.v (.bool false))), none⟩] []) <|
 .keep [2, 3, 4, 5, 8, 9, 40] [[2], [3], [4], [5], [8], [9]]) <|
 .cond (.t 40) (.seq (.seq (.reg [⟨some 41, .load (some 2) (.t 8), none⟩,
 ⟨some 42, .fad 0 (.t 2), none⟩,
 ⟨some 43, .load none (.t 42), none⟩,
 ⟨some 44, .fad 0 (.t 3), none⟩,
 ⟨some 45, .load none (.t 44), none⟩,
 ⟨some 46, .binb true (.t 43) (.t 45), none⟩,
 ⟨some 47, .lit 1 1 [.v (.int .i64 0)] [(0, (.c (.v (.int .i64 1))))] true, none⟩,
 ⟨some 48, .call n_gantryref04_normal [(.t 46), (.t 47)] false, none⟩,
 ⟨some 49, .call n_gantryref04_Add [(.t 41), (.t 48)] false, none⟩,
 ⟨none, .store 2 (.t 8) (.t 49), none⟩] []) <|
 .keep [3, 4, 5, 8, 9] [[3], [4], [5], [8], [9]]) <|
 .seq (.reg [⟨some 50, .fad 1 (.t 3), none⟩,
 ⟨some 51, .load none (.t 50), none⟩,
 ⟨some 52, .fad 1 (.t 9), none⟩,
 ⟨some 53, .load none (.t 52), none⟩,
 ⟨some 54, .call n_gantryref04_minus [(.t 51), (.t 53)] false, none⟩,
 ⟨some 55, .call n_gantryref04_normal [(.c (.v (.bool false))), (.t 54)] false, none⟩,
 ⟨none, .store 2 (.t 9) (.t 55), none⟩] []) <|
 .keep [4, 5, 8, 9] [[4], [5], [8], [9]]) <|
 .skip) <|
 .seq (.seq (.reg [⟨some 56, .load (some 2) (.t 8), none⟩,
 ⟨some 57, .load (some 2) (.t 9), none⟩,
 ⟨none, .store 2 (.t 4) (.t 56), none⟩,
 ⟨none, .store 2 (.t 5) (.t 57), none⟩] [((.t 9), 2, (.t 4), 2)]) <|
 .keep [4, 5] [[4], [5]]) <|
 .ret, [.cell 4 (some 2), .cell 5 (some 2)]⟩

def gantryref04_normal_l0 : C :=
 .seq (.seq (.seq (.seq (.reg [⟨some 8, .mov (.t 5), none⟩,
 ⟨some 9, .bin .gtr (.t 8) (.c (.v (.int .i64 0))), none⟩,
 ⟨some 10, .mov (.t 9), none⟩,
 ⟨some 11, .mov (.t 1), (some (10, true))⟩,
 ⟨some 12, .mov (.t 5), (some (10, true))⟩,
 ⟨some 13, .bin .sub (.t 12) (.c (.v (.int .i64 1))), (some (10, true))⟩,
 ⟨some 14, .mx [(.t 13), (.c (.v (.int .i64 0)))], (some (10, true))⟩,
 ⟨some 15, .ixa 1 (.t 11) (.t 14), (some (10, true))⟩,
 ⟨some 16, .load none (.t 15), (some (10, true))⟩,
 ⟨some 17, .bin .eql (.t 16) (.c (.v (.int .i64 0))), (some (10, true))⟩,
 ⟨some 18, .pick (.t 10) (.t 17) (.c (.v (.bool false))), none⟩] []) <|
 .keep [0, 1, 4, 5, 18] [[4]]) <|
 .cond (.t 18) (.skip) <|
 .seq (.keep [0, 1, 4, 5] [[4]]) <|
 .exit 0) <|
 .seq (.blk 1 <|
 .seq (.reg [⟨some 19, .mov (.t 5), none⟩,
 ⟨some 20, .bin .sub (.t 19) (.c (.v (.int .i64 1))), none⟩,
 ⟨some 5, .mov (.t 20), none⟩] []) <|
 .keep [0, 1, 4, 5] [[4]]) <|
 .keep [0, 1, 4, 5] [[4]]) <|
 .keep [0, 1, 4, 5] [[4]]
def gantryref04_normal : CF := ⟨2, .seq (.seq (.reg [⟨some 4, .new [.v (.bool false), .z true], none⟩] []) <|
 .keep [0, 1, 4] [[4]]) <|
 .seq (.seq (.reg [⟨some 6, .mov (.t 1), none⟩,
 ⟨some 7, .len (.t 6), none⟩,
 ⟨some 5, .mov (.t 7), none⟩] []) <|
 .keep [0, 1, 4, 5] [[4]]) <|
 .seq (.seq (.blk 0 <|
 .seq (.keep [0, 1, 4, 5] [[4]]) <|
 .loop gantryref04_normal_l0) <|
 .keep [0, 1, 4, 5] [[4]]) <|
 .seq (.seq (.seq (.reg [⟨some 21, .mov (.t 5), none⟩,
 ⟨some 22, .bin .eql (.t 21) (.c (.v (.int .i64 0))), none⟩] []) <|
 .keep [0, 1, 4, 5, 22] [[4]]) <|
 .cond (.t 22) (.seq (.seq (.reg [⟨some 23, .build [.v (.bool false), .z true] [], none⟩,
 ⟨none, .store 2 (.t 4) (.t 23), none⟩] []) <|
 .keep [4] [[4]]) <|
 .ret) <|
 .skip) <|
 .seq (.seq (.reg [⟨some 24, .mov (.t 0), none⟩,
 ⟨some 25, .mov (.t 1), none⟩,
 ⟨some 26, .mov (.t 5), none⟩,
 ⟨some 27, .slc 1 (.t 25) none (some (.t 26)) none, none⟩,
 ⟨some 28, .build [.v (.bool false), .z true] [(0, 1, (.t 24)), (1, 1, (.t 27))], none⟩,
 ⟨none, .store 2 (.t 4) (.t 28), none⟩] []) <|
 .keep [4] [[4]]) <|
 .ret, [.cell 4 (some 2)]⟩

def gantryref04_Add : CF := ⟨2, .seq (.seq (.reg [⟨some 2, .box (.t 0), none⟩,
 ⟨some 3, .box (.t 1), none⟩,
 ⟨some 4, .new [.v (.bool false), .z true], none⟩] []) <|
 .keep [2, 3, 4] [[2], [3], [4]]) <|
 .seq (.seq (.seq (.reg [⟨some 5, .fad 0 (.t 2), none⟩,
 ⟨some 6, .load none (.t 5), none⟩,
 ⟨some 7, .fad 0 (.t 3), none⟩,
 ⟨some 8, .load none (.t 7), none⟩,
 ⟨some 9, .binb false (.t 6) (.t 8), none⟩] []) <|
 .keep [2, 3, 4, 9] [[2], [3], [4]]) <|
 .cond (.t 9) (.seq (.seq (.reg [⟨some 10, .fad 0 (.t 2), none⟩,
 ⟨some 11, .load none (.t 10), none⟩,
 ⟨some 12, .fad 1 (.t 2), none⟩,
 ⟨some 13, .load none (.t 12), none⟩,
 ⟨some 14, .fad 1 (.t 3), none⟩,
 ⟨some 15, .load none (.t 14), none⟩,
 ⟨some 16, .call n_gantryref04_plus [(.t 13), (.t 15)] false, none⟩,
 ⟨some 17, .call n_gantryref04_normal [(.t 11), (.t 16)] false, none⟩,
 ⟨none, .store 2 (.t 4) (.t 17), none⟩] []) <|
 .keep [4] [[4]]) <|
 .ret) <|
 .skip) <|
 .seq (.seq (.seq (.reg [⟨some 18, .fad 1 (.t 2), none⟩,
 ⟨some 19, .load none (.t 18), none⟩,
 ⟨some 20, .fad 1 (.t 3), none⟩,
 ⟨some 21, .load none (.t 20), none⟩,
 ⟨some 22, .call n_gantryref04_compared [(.t 19), (.t 21)] false, none⟩,
 ⟨some 23, .bin .lss (.t 22) (.c (.v (.int .i64 0))), none⟩] []) <|
 .keep [2, 3, 4, 23] [[2], [3], [4]]) <|
 .cond (.t 23) (.seq (.seq (.reg [⟨some 24, .fad 0 (.t 3), none⟩,
 ⟨some 25, .load none (.t 24), none⟩,
 ⟨some 26, .fad 1 (.t 3), none⟩,
 ⟨some 27, .load none (.t 26), none⟩,
 ⟨some 28, .fad 1 (.t 2), none⟩,
 ⟨some 29, .load none (.t 28), none⟩,
 ⟨some 30, .call n_gantryref04_minus [(.t 27), (.t 29)] false, none⟩,
 ⟨some 31, .call n_gantryref04_normal [(.t 25), (.t 30)] false, none⟩,
 ⟨none, .store 2 (.t 4) (.t 31), none⟩] []) <|
 .keep [4] [[4]]) <|
 .ret) <|
 .skip) <|
 .seq (.seq (.reg [⟨some 32, .fad 0 (.t 2), none⟩,
 ⟨some 33, .load none (.t 32), none⟩,
 ⟨some 34, .fad 1 (.t 2), none⟩,
 ⟨some 35, .load none (.t 34), none⟩,
 ⟨some 36, .fad 1 (.t 3), none⟩,
 ⟨some 37, .load none (.t 36), none⟩,
 ⟨some 38, .call n_gantryref04_minus [(.t 35), (.t 37)] false, none⟩,
 ⟨some 39, .call n_gantryref04_normal [(.t 33), (.t 38)] false, none⟩,
 ⟨none, .store 2 (.t 4) (.t 39), none⟩] []) <|
 .keep [4] [[4]]) <|
 .ret, [.cell 4 (some 2)]⟩

def slices_ContainsFunc_int_int : CF := ⟨2, .seq (.seq (.reg [⟨some 4, .mov (.c (.v (.bool false))), none⟩] []) <|
 .keep [0, 1] []) <|
 .seq (.seq (.reg [⟨some 5, .mov (.t 0), none⟩,
 ⟨some 6, .mov (.t 1), none⟩,
 ⟨some 7, .call n_slices_IndexFunc_int_int [(.t 5), (.t 6)] false, none⟩,
 ⟨some 8, .bin .geq (.t 7) (.c (.v (.int .i64 0))), none⟩,
 ⟨some 4, .mov (.t 8), none⟩] []) <|
 .keep [4] []) <|
 .ret, [.t 4]⟩

def integer_Valid_1 : CF := ⟨1, .seq (.seq (.reg [⟨some 2, .mov (.c (.v (.bool false))), none⟩] []) <|
 .keep [0] []) <|
 .seq (.seq (.reg [⟨some 3, .mov (.t 0), none⟩,
 ⟨some 4, .bin .lss (.t 3) (.c (.v (.int .i64 0))), none⟩,
 ⟨some 5, .mov (.t 4), none⟩,
 ⟨some 6, .mov (.t 0), (some (5, false))⟩,
 ⟨some 7, .bin .geq (.t 6) (.c (.v (.int .i64 1000000000))), (some (5, false))⟩,
 ⟨some 8, .pick (.t 5) (.c (.v (.bool true))) (.t 7), none⟩,
 ⟨some 2, .mov (.t 8), none⟩] []) <|
 .keep [2] []) <|
 .ret, [.t 2]⟩

def integer_two : CF := ⟨1, .seq (.seq (.reg [⟨some 2, .mov (.c (.v (.int .i64 0))), none⟩,
 ⟨some 3, .mov (.c (.v (.bool false))), none⟩] []) <|
 .keep [0] []) <|
 .seq (.seq (.seq (.reg [⟨some 4, .mov (.t 0), none⟩,
 ⟨some 5, .len (.t 4), none⟩] []) <|
 .keep [0, 5] []) <|
 .seq (.blk 0 <|
 .seq (.seq (.reg [⟨some 7, .bin .eql (.t 5) (.c (.v (.int .i64 0))), none⟩,
 ⟨some 6, .mov (.t 7), none⟩] []) <|
 .keep [0, 5, 6] []) <|
 .cond (.t 6) (.seq (.seq (.reg [⟨some 2, .mov (.c (.v (.int .i64 0))), none⟩,
 ⟨some 3, .mov (.c (.v (.bool true))), none⟩] []) <|
 .keep [2, 3] []) <|
 .ret) <|
 .seq (.seq (.reg [⟨some 9, .bin .eql (.t 5) (.c (.v (.int .i64 1))), none⟩,
 ⟨some 8, .mov (.t 9), none⟩] []) <|
 .keep [0, 5, 8] []) <|
 .cond (.t 8) (.seq (.seq (.reg [⟨some 10, .mov (.t 0), none⟩,
 ⟨some 11, .ixa 1 (.t 10) (.c (.v (.int .i64 0))), none⟩,
 ⟨some 12, .load none (.t 11), none⟩,
 ⟨some 2, .mov (.t 12), none⟩,
 ⟨some 3, .mov (.c (.v (.bool true))), none⟩] []) <|
 .keep [2, 3] []) <|
 .ret) <|
 .seq (.seq (.reg [⟨some 14, .bin .eql (.t 5) (.c (.v (.int .i64 2))), none⟩,
 ⟨some 13, .mov (.t 14), none⟩] []) <|
 .keep [0, 13] []) <|
 .cond (.t 13) (.seq (.seq (.reg [⟨some 15, .mov (.t 0), none⟩,
 ⟨some 16, .ixa 1 (.t 15) (.c (.v (.int .i64 1))), none⟩,
 ⟨some 17, .load none (.t 16), none⟩,
 ⟨some 18, .bin .mul (.t 17) (.c (.v (.int .i64 1000000000))), none⟩,
 ⟨some 19, .mov (.t 0), none⟩,
 ⟨some 20, .ixa 1 (.t 19) (.c (.v (.int .i64 0))), none⟩,
 ⟨some 21, .load none (.t 20), none⟩,
 ⟨some 22, .bin .add (.t 18) (.t 21), none⟩,
 ⟨some 2, .mov (.t 22), none⟩,
 ⟨some 3, .mov (.c (.v (.bool true))), none⟩] []) <|
 .keep [2, 3] []) <|
 .ret) <|
 .skip) <|
 .keep [] []) <|
 .seq (.seq (.reg [⟨some 2, .mov (.c (.v (.int .i64 0))), none⟩,
 ⟨some 3, .mov (.c (.v (.bool false))), none⟩] []) <|
 .keep [2, 3] []) <|
 .ret, [.t 2, .t 3]⟩

def integer_divide : CF := ⟨2, .seq (.seq (.reg [⟨some 4, .new [.v (.bool false), .z true], none⟩,
 ⟨some 5, .new [.v (.bool false), .z true], none⟩] []) <|
 .keep [0, 1, 4, 5] [[4], [5]]) <|
 .seq (.seq (.seq (.reg [⟨some 15, .mov (.t 0), none⟩,
 ⟨some 16, .call n_integer_two [(.t 15)] false, none⟩,
 ⟨some 14, .mov (.t 16), none⟩,
 ⟨some 17, .ext (.t 14) 0, none⟩,
 ⟨some 18, .ext (.t 14) 1, none⟩,
 ⟨some 6, .mov (.t 17), none⟩,
 ⟨some 7, .mov (.t 18), none⟩] []) <|
 .keep [0, 1, 4, 5, 6, 7] [[4], [5]]) <|
 .seq (.seq (.reg [⟨some 19, .mov (.t 7), none⟩] []) <|
 .keep [0, 1, 4, 5, 6, 19] [[4], [5]]) <|
 .cond (.t 19) (.seq (.seq (.reg [⟨some 21, .mov (.t 1), none⟩,
 ⟨some 22, .call n_integer_two [(.t 21)] false, none⟩,
 ⟨some 20, .mov (.t 22), none⟩,
 ⟨some 23, .ext (.t 20) 0, none⟩,
 ⟨some 24, .ext (.t 20) 1, none⟩,
 ⟨some 8, .mov (.t 23), none⟩,
 ⟨some 9, .mov (.t 24), none⟩] []) <|
 .keep [0, 1, 4, 5, 6, 8, 9] [[4], [5]]) <|
 .seq (.seq (.reg [⟨some 25, .mov (.t 9), none⟩] []) <|
 .keep [0, 1, 4, 5, 6, 8, 25] [[4], [5]]) <|
 .cond (.t 25) (.seq (.seq (.reg [⟨some 26, .mov (.t 6), none⟩,
 ⟨some 27, .mov (.t 8), none⟩,
 ⟨some 28, .bin .quo (.t 26) (.t 27), none⟩,
 ⟨some 29, .conv (.int .u64) (.t 28), none⟩,
 ⟨some 30, .call n_integer_unsigned [(.c (.v (.bool false))), (.t 29)] false, none⟩,
 ⟨some 31, .mov (.t 6), none⟩,
 ⟨some 32, .mov (.t 8), none⟩,
 ⟨some 33, .bin .rem (.t 31) (.t 32), none⟩,
 ⟨some 34, .conv (.int .u64) (.t 33), none⟩,
 ⟨some 35, .call n_integer_unsigned [(.c (.v (.bool false))), (.t 34)] false, none⟩,
 ⟨none, .store 2 (.t 4) (.t 30), none⟩,
 ⟨none, .store 2 (.t 5) (.t 35), none⟩] []) <|
 .keep [4, 5] [[4], [5]]) <|
 .ret) <|
 .skip) <|
 .skip) <|
 .seq (.seq (.seq (.reg [⟨some 36, .mov (.t 0), none⟩,
 ⟨some 37, .mov (.t 1), none⟩,
 ⟨some 38, .call n_integer_compare [(.t 36), (.t 37)] false, none⟩,
 ⟨some 39, .bin .lss (.t 38) (.c (.v (.int .i64 0))), none⟩] []) <|
 .keep [0, 1, 4, 5, 39] [[4], [5]]) <|
 .cond (.t 39) (.seq (.seq (.reg [⟨some 40, .build [.v (.bool false), .z true] [], none⟩,
 ⟨some 41, .mov (.t 0), none⟩,
 ⟨some 42, .call n_integer_of [(.c (.v (.bool false))), (.t 41)] false, none⟩,
 ⟨none, .store 2 (.t 4) (.t 40), none⟩,
 ⟨none, .store 2 (.t 5) (.t 42), none⟩] []) <|
 .keep [4, 5] [[4], [5]]) <|
 .ret) <|
 .skip) <|
 .seq (.seq (.seq (.reg [⟨some 43, .mov (.t 1), none⟩,
 ⟨some 44, .len (.t 43), none⟩,
 ⟨some 45, .bin .eql (.t 44) (.c (.v (.int .i64 1))), none⟩] []) <|
 .keep [0, 1, 4, 5, 45] [[4], [5]]) <|
 .cond (.t 45) (.seq (.seq (.reg [⟨some 47, .mov (.t 0), none⟩,
 ⟨some 48, .mov (.t 1), none⟩,
 ⟨some 49, .ixa 1 (.t 48) (.c (.v (.int .i64 0))), none⟩,
 ⟨some 50, .load none (.t 49), none⟩,
 ⟨some 51, .call n_integer_short [(.t 47), (.t 50)] false, none⟩,
 ⟨some 46, .mov (.t 51), none⟩,
 ⟨some 52, .ext (.t 46) 0, none⟩,
 ⟨some 53, .ext (.t 46) 1, none⟩,
 ⟨some 10, .mov (.t 52), none⟩,
 ⟨some 11, .mov (.t 53), none⟩] []) <|
 .keep [4, 5, 10, 11] [[4], [5]]) <|
 .seq (.seq (.reg [⟨some 54, .mov (.t 10), none⟩,
 ⟨some 55, .call n_integer_of [(.c (.v (.bool false))), (.t 54)] false, none⟩,
 ⟨some 56, .mov (.t 11), none⟩,
 ⟨some 57, .conv (.int .u64) (.t 56), none⟩,
 ⟨some 58, .call n_integer_unsigned [(.c (.v (.bool false))), (.t 57)] false, none⟩,
 ⟨none, .store 2 (.t 4) (.t 55), none⟩,
 ⟨none, .store 2 (.t 5) (.t 58), none⟩] []) <|
 .keep [4, 5] [[4], [5]]) <|
 .ret) <|
 .skip) <|
 .seq (.seq (.reg [⟨some 60, .mov (.t 0), none⟩,
 ⟨some 61, .mov (.t 1), none⟩,
 ⟨some 62, .call n_integer_long [(.t 60), (.t 61)] false, none⟩,
 ⟨some 59, .mov (.t 62), none⟩,
 ⟨some 63, .ext (.t 59) 0, none⟩,
 ⟨some 64, .ext (.t 59) 1, none⟩,
 ⟨some 12, .mov (.t 63), none⟩,
 ⟨some 13, .mov (.t 64), none⟩] []) <|
 .keep [4, 5, 12, 13] [[4], [5]]) <|
 .seq (.seq (.reg [⟨some 65, .mov (.t 12), none⟩,
 ⟨some 66, .call n_integer_of [(.c (.v (.bool false))), (.t 65)] false, none⟩,
 ⟨some 67, .mov (.t 13), none⟩,
 ⟨some 68, .call n_integer_of [(.c (.v (.bool false))), (.t 67)] false, none⟩,
 ⟨none, .store 2 (.t 4) (.t 66), none⟩,
 ⟨none, .store 2 (.t 5) (.t 68), none⟩] []) <|
 .keep [4, 5] [[4], [5]]) <|
 .ret, [.cell 4 (some 2), .cell 5 (some 2)]⟩

def gantryref04_tiny : CF := ⟨1, .seq (.seq (.reg [⟨some 2, .mov (.c (.v (.int .i64 0))), none⟩] []) <|
 .keep [0] []) <|
 .seq (.seq (.reg [⟨some 3, .mov (.t 0), none⟩,
 ⟨some 4, .call n_gantryref04_digit [(.t 3), (.c (.v (.int .i64 1)))] false, none⟩,
 ⟨some 5, .bin .mul (.t 4) (.c (.v (.int .i64 1000000000))), none⟩,
 ⟨some 6, .mov (.t 0), none⟩,
 ⟨some 7, .call n_gantryref04_digit [(.t 6), (.c (.v (.int .i64 0)))] false, none⟩,
 ⟨some 8, .bin .add (.t 5) (.t 7), none⟩,
 ⟨some 2, .mov (.t 8), none⟩] []) <|
 .keep [2] []) <|
 .ret, [.t 2]⟩

def gantryref04_Compare : CF := ⟨2, .seq (.seq (.reg [⟨some 2, .box (.t 0), none⟩,
 ⟨some 3, .box (.t 1), none⟩,
 ⟨some 4, .mov (.c (.v (.int .i64 0))), none⟩] []) <|
 .keep [2, 3] [[2], [3]]) <|
 .seq (.seq (.seq (.reg [⟨some 5, .fad 0 (.t 2), none⟩,
 ⟨some 6, .load none (.t 5), none⟩,
 ⟨some 7, .fad 0 (.t 3), none⟩,
 ⟨some 8, .load none (.t 7), none⟩,
 ⟨some 9, .binb true (.t 6) (.t 8), none⟩] []) <|
 .keep [2, 3, 9] [[2], [3]]) <|
 .cond (.t 9) (.seq (.seq (.seq (.reg [⟨some 10, .fad 0 (.t 2), none⟩,
 ⟨some 11, .load none (.t 10), none⟩] []) <|
 .keep [11] []) <|
 .cond (.t 11) (.seq (.seq (.reg [⟨some 4, .mov (.c (.v (.int .i64 (-1)))), none⟩] []) <|
 .keep [4] []) <|
 .ret) <|
 .skip) <|
 .seq (.seq (.reg [⟨some 4, .mov (.c (.v (.int .i64 1))), none⟩] []) <|
 .keep [4] []) <|
 .ret) <|
 .skip) <|
 .seq (.seq (.seq (.reg [⟨some 12, .fad 0 (.t 2), none⟩,
 ⟨some 13, .load none (.t 12), none⟩] []) <|
 .keep [2, 3, 13] [[2], [3]]) <|
 .cond (.t 13) (.seq (.seq (.reg [⟨some 14, .fad 1 (.t 3), none⟩,
 ⟨some 15, .load none (.t 14), none⟩,
 ⟨some 16, .fad 1 (.t 2), none⟩,
 ⟨some 17, .load none (.t 16), none⟩,
 ⟨some 18, .call n_gantryref04_compared [(.t 15), (.t 17)] false, none⟩,
 ⟨some 4, .mov (.t 18), none⟩] []) <|
 .keep [4] []) <|
 .ret) <|
 .skip) <|
 .seq (.seq (.reg [⟨some 19, .fad 1 (.t 2), none⟩,
 ⟨some 20, .load none (.t 19), none⟩,
 ⟨some 21, .fad 1 (.t 3), none⟩,
 ⟨some 22, .load none (.t 21), none⟩,
 ⟨some 23, .call n_gantryref04_compared [(.t 20), (.t 22)] false, none⟩,
 ⟨some 4, .mov (.t 23), none⟩] []) <|
 .keep [4] []) <|
 .ret, [.t 4]⟩

def poly_Scale_1 : CF := ⟨3, .seq (.seq (.reg [⟨some 4, .new [.v (.bool false), .z true, .v (.bool false), .z true], none⟩] []) <|
 .keep [0, 1, 2, 4] [[4]]) <|
 .seq (.seq (.reg [⟨some 5, .load none (.t 1), none⟩,
 ⟨some 6, .mov (.t 0), none⟩,
 ⟨some 7, .ixa 4 (.t 5) (.t 6), none⟩,
 ⟨some 8, .load (some 4) (.t 7), none⟩,
 ⟨some 9, .load (some 4) (.t 2), none⟩,
 ⟨some 10, .call n_rat_Mul [(.t 8), (.t 9)] false, none⟩,
 ⟨none, .store 4 (.t 4) (.t 10), none⟩] []) <|
 .keep [4] [[4]]) <|
 .ret, [.cell 4 (some 4)]⟩

def integer_Neg : CF := ⟨1, .seq (.seq (.reg [⟨some 1, .box (.t 0), none⟩,
 ⟨some 2, .new [.v (.bool false), .z true], none⟩] []) <|
 .keep [1, 2] [[1], [2]]) <|
 .seq (.seq (.reg [⟨some 3, .fad 0 (.t 1), none⟩,
 ⟨some 4, .load none (.t 3), none⟩,
 ⟨some 5, .un .not (.t 4), none⟩,
 ⟨some 6, .mov (.t 5), none⟩,
 ⟨some 7, .fad 1 (.t 1), (some (6, true))⟩,
 ⟨some 8, .load none (.t 7), (some (6, true))⟩,
 ⟨some 9, .len (.t 8), (some (6, true))⟩,
 ⟨some 10, .bin .gtr (.t 9) (.c (.v (.int .i64 0))), (some (6, true))⟩,
 ⟨some 11, .pick (.t 6) (.t 10) (.c (.v (.bool false))), none⟩,
 ⟨some 12, .fad 0 (.t 1), none⟩,
 ⟨none, .store 1 (.t 12) (.t 11), none⟩] []) <|
 .keep [1, 2] [[1], [2]]) <|
 .seq (.seq (.reg [⟨some 13, .load (some 2) (.t 1), none⟩,
 ⟨none, .store 2 (.t 2) (.t 13), none⟩] []) <|
 .keep [2] [[2]]) <|
 .ret, [.cell 2 (some 2)]⟩

def cmp_Compare_int : CF := ⟨2, .seq (.seq (.reg [⟨some 4, .mov (.c (.v (.int .i64 0))), none⟩] []) <|
 .keep [0, 1] []) <|
 .seq (.seq (.reg [⟨some 7, .mov (.t 0), none⟩,
 ⟨some 8, .call n_cmp_isNaN_int [(.t 7)] false, none⟩,
 ⟨some 5, .mov (.t 8), none⟩] []) <|
 .keep [0, 1, 5] []) <|
 .seq (.seq (.reg [⟨some 9, .mov (.t 1), none⟩,
 ⟨some 10, .call n_cmp_isNaN_int [(.t 9)] false, none⟩,
 ⟨some 6, .mov (.t 10), none⟩] []) <|
 .keep [0, 1, 5, 6] []) <|
 .seq (.seq (.seq (.reg [⟨some 11, .mov (.t 5), none⟩] []) <|
 .keep [0, 1, 6, 11] []) <|
 .cond (.t 11) (.seq (.seq (.seq (.reg [⟨some 12, .mov (.t 6), none⟩] []) <|
 .keep [12] []) <|
 .cond (.t 12) (.seq (.seq (.reg [⟨some 4, .mov (.c (.v (.int .i64 0))), none⟩] []) <|
 .keep [4] []) <|
 .ret) <|
 .skip) <|
 .seq (.seq (.reg [⟨some 4, .mov (.c (.v (.int .i64 (-1)))), none⟩] []) <|
 .keep [4] []) <|
 .ret) <|
 .skip) <|
 .seq (.seq (.seq (.reg [⟨some 13, .mov (.t 6), none⟩] []) <|
 .keep [0, 1, 13] []) <|
 .cond (.t 13) (.seq (.seq (.reg [⟨some 4, .mov (.c (.v (.int .i64 1))), none⟩] []) <|
 .keep [4] []) <|
 .ret) <|
 .skip) <|
 .seq (.seq (.seq (.reg [⟨some 14, .mov (.t 0), none⟩,
 ⟨some 15, .mov (.t 1), none⟩,
 ⟨some 16, .bin .lss (.t 14) (.t 15), none⟩] []) <|
 .keep [0, 1, 16] []) <|
 .cond (.t 16) (.seq (.seq (.reg [⟨some 4, .mov (.c (.v (.int .i64 (-1)))), none⟩] []) <|
 .keep [4] []) <|
 .ret) <|
 .skip) <|
 .seq (.seq (.seq (.reg [⟨some 17, .mov (.t 0), none⟩,
 ⟨some 18, .mov (.t 1), none⟩,
 ⟨some 19, .bin .gtr (.t 17) (.t 18), none⟩] []) <|
 .keep [19] []) <|
 .cond (.t 19) (.seq (.seq (.reg [⟨some 4, .mov (.c (.v (.int .i64 1))), none⟩] []) <|
 .keep [4] []) <|
 .ret) <|
 .skip) <|
 .seq (.seq (.reg [⟨some 4, .mov (.c (.v (.int .i64 0))), none⟩] []) <|
 .keep [4] []) <|
 .ret, [.t 4]⟩

def gantryref04_divided_l0 : C :=
 .seq (.seq (.seq (.seq (.reg [⟨some 64, .mov (.t 12), none⟩,
 ⟨some 65, .mov (.t 13), none⟩,
 ⟨some 66, .bin .lss (.t 64) (.t 65), none⟩] []) <|
 .keep [0, 1, 8, 9, 10, 12, 13, 66] [[42]]) <|
 .cond (.t 66) (.skip) <|
 .seq (.keep [0, 1, 8, 9, 10, 12] [[42]]) <|
 .exit 2) <|
 .seq (.blk 3 <|
 .seq (.seq (.reg [⟨some 67, .mov (.t 12), none⟩,
 ⟨some 68, .mov (.t 13), none⟩,
 ⟨some 69, .bin .add (.t 67) (.t 68), none⟩,
 ⟨some 70, .bin .add (.t 69) (.c (.v (.int .i64 1))), none⟩,
 ⟨some 71, .bin .quo (.t 70) (.c (.v (.int .i64 2))), none⟩,
 ⟨some 14, .mov (.t 71), none⟩] []) <|
 .keep [0, 1, 8, 9, 10, 12, 13, 14] [[42]]) <|
 .seq (.seq (.reg [⟨some 72, .mov (.t 1), none⟩,
 ⟨some 73, .mov (.t 14), none⟩,
 ⟨some 74, .call n_gantryref04_times [(.t 72), (.t 73)] false, none⟩,
 ⟨some 75, .mov (.t 9), none⟩,
 ⟨some 76, .call n_gantryref04_compared [(.t 74), (.t 75)] false, none⟩,
 ⟨some 77, .bin .leq (.t 76) (.c (.v (.int .i64 0))), none⟩] []) <|
 .keep [0, 1, 8, 9, 10, 12, 13, 14, 77] [[42]]) <|
 .cond (.t 77) (.seq (.reg [⟨some 78, .mov (.t 14), none⟩,
 ⟨some 12, .mov (.t 78), none⟩] []) <|
 .keep [0, 1, 8, 9, 10, 12, 13] [[42]]) <|
 .seq (.reg [⟨some 79, .mov (.t 14), none⟩,
 ⟨some 80, .bin .sub (.t 79) (.c (.v (.int .i64 1))), none⟩,
 ⟨some 13, .mov (.t 80), none⟩] []) <|
 .keep [0, 1, 8, 9, 10, 12, 13] [[42]]) <|
 .keep [0, 1, 8, 9, 10, 12, 13] [[42]]) <|
 .keep [0, 1, 8, 9, 10, 12, 13] [[42]]
def gantryref04_divided_l1 : C :=
 .seq (.seq (.seq (.seq (.reg [⟨some 46, .mov (.t 10), none⟩,
 ⟨some 47, .bin .geq (.t 46) (.c (.v (.int .i64 0))), none⟩] []) <|
 .keep [0, 1, 8, 9, 10, 47] [[42]]) <|
 .cond (.t 47) (.skip) <|
 .seq (.keep [8, 9] [[42]]) <|
 .exit 0) <|
 .seq (.seq (.blk 1 <|
 .seq (.seq (.reg [⟨some 50, .mov (.t 0), none⟩,
 ⟨some 51, .mov (.t 10), none⟩,
 ⟨some 52, .ixa 1 (.t 50) (.t 51), none⟩,
 ⟨some 53, .load none (.t 52), none⟩,
 ⟨some 54, .lit 1 1 [.v (.int .i64 0)] [(0, (.t 53))] false, none⟩,
 ⟨some 55, .mov (.t 9), none⟩,
 ⟨some 56, .app 1 8 (.t 54) (.t 55) true, none⟩,
 ⟨some 57, .call n_gantryref04_normal [(.c (.v (.bool false))), (.t 56)] false, none⟩,
 ⟨some 11, .new [.v (.bool false), .z true], none⟩,
 ⟨none, .store 2 (.t 11) (.t 57), none⟩] []) <|
 .keep [0, 1, 8, 10, 11] [[11], [42]]) <|
 .seq (.seq (.reg [⟨some 58, .fad 1 (.t 11), none⟩,
 ⟨some 59, .load none (.t 58), none⟩,
 ⟨some 9, .mov (.t 59), none⟩] []) <|
 .keep [0, 1, 8, 9, 10] [[42]]) <|
 .seq (.seq (.reg [⟨some 12, .mov (.c (.v (.int .i64 0))), none⟩] []) <|
 .keep [0, 1, 8, 9, 10, 12] [[42]]) <|
 .seq (.seq (.reg [⟨some 13, .mov (.c (.v (.int .i64 999999999))), none⟩] []) <|
 .keep [0, 1, 8, 9, 10, 12, 13] [[42]]) <|
 .seq (.seq (.seq (.reg [⟨some 60, .mov (.t 9), none⟩,
 ⟨some 61, .mov (.t 1), none⟩,
 ⟨some 62, .call n_gantryref04_compared [(.t 60), (.t 61)] false, none⟩,
 ⟨some 63, .bin .lss (.t 62) (.c (.v (.int .i64 0))), none⟩] []) <|
 .keep [0, 1, 8, 9, 10, 12, 13, 63] [[42]]) <|
 .cond (.t 63) (.seq (.reg [⟨some 13, .mov (.c (.v (.int .i64 0))), none⟩] []) <|
 .keep [0, 1, 8, 9, 10, 12, 13] [[42]]) <|
 .skip) <|
 .seq (.seq (.blk 2 <|
 .seq (.keep [0, 1, 8, 9, 10, 12, 13] [[42]]) <|
 .loop gantryref04_divided_l0) <|
 .keep [0, 1, 8, 9, 10, 12] [[42]]) <|
 .seq (.seq (.reg [⟨some 81, .mov (.t 9), none⟩,
 ⟨some 82, .mov (.t 1), none⟩,
 ⟨some 83, .mov (.t 12), none⟩,
 ⟨some 84, .call n_gantryref04_times [(.t 82), (.t 83)] false, none⟩,
 ⟨some 85, .call n_gantryref04_minus [(.t 81), (.t 84)] false, none⟩,
 ⟨some 86, .call n_gantryref04_normal [(.c (.v (.bool false))), (.t 85)] false, none⟩,
 ⟨some 15, .new [.v (.bool false), .z true], none⟩,
 ⟨none, .store 2 (.t 15) (.t 86), none⟩] []) <|
 .keep [0, 1, 8, 10, 12, 15] [[15], [42]]) <|
 .seq (.seq (.reg [⟨some 87, .mov (.t 8), none⟩,
 ⟨some 88, .mov (.t 10), none⟩,
 ⟨some 89, .mov (.t 12), none⟩,
 ⟨some 90, .ixa 1 (.t 87) (.t 88), none⟩,
 ⟨none, .store 1 (.t 90) (.t 89), none⟩] []) <|
 .keep [0, 1, 8, 10, 15] [[15], [42]]) <|
 .seq (.reg [⟨some 91, .fad 1 (.t 15), none⟩,
 ⟨some 92, .load none (.t 91), none⟩,
 ⟨some 9, .mov (.t 92), none⟩] []) <|
 .keep [0, 1, 8, 9, 10] [[42]]) <|
 .keep [0, 1, 8, 9, 10] [[42]]) <|
 .seq (.reg [⟨some 48, .mov (.t 10), none⟩,
 ⟨some 49, .bin .sub (.t 48) (.c (.v (.int .i64 1))), none⟩,
 ⟨some 10, .mov (.t 49), none⟩] []) <|
 .keep [0, 1, 8, 9, 10] [[42]]) <|
 .keep [0, 1, 8, 9, 10] [[42]]
def gantryref04_divided : CF := ⟨2, .seq (.seq (.reg [⟨some 4, .mov (.c (.z true)), none⟩,
 ⟨some 5, .mov (.c (.z true)), none⟩] []) <|
 .keep [0, 1] []) <|
 .seq (.seq (.seq (.reg [⟨some 16, .mov (.t 0), none⟩,
 ⟨some 17, .len (.t 16), none⟩,
 ⟨some 18, .bin .leq (.t 17) (.c (.v (.int .i64 2))), none⟩,
 ⟨some 19, .mov (.t 18), none⟩,
 ⟨some 20, .mov (.t 1), (some (19, true))⟩,
 ⟨some 21, .len (.t 20), (some (19, true))⟩,
 ⟨some 22, .bin .leq (.t 21) (.c (.v (.int .i64 2))), (some (19, true))⟩,
 ⟨some 23, .pick (.t 19) (.t 22) (.c (.v (.bool false))), none⟩] []) <|
 .keep [0, 1, 23] []) <|
 .cond (.t 23) (.seq (.seq (.reg [⟨some 24, .mov (.t 0), none⟩,
 ⟨some 25, .call n_gantryref04_tiny [(.t 24)] false, none⟩,
 ⟨some 26, .mov (.t 1), none⟩,
 ⟨some 27, .call n_gantryref04_tiny [(.t 26)] false, none⟩,
 ⟨some 28, .bin .quo (.t 25) (.t 27), none⟩,
 ⟨some 29, .call n_gantryref04_Of [(.t 28)] false, none⟩,
 ⟨some 6, .new [.v (.bool false), .z true], none⟩,
 ⟨none, .store 2 (.t 6) (.t 29), none⟩] []) <|
 .keep [0, 1, 6] [[6]]) <|
 .seq (.seq (.reg [⟨some 30, .mov (.t 0), none⟩,
 ⟨some 31, .call n_gantryref04_tiny [(.t 30)] false, none⟩,
 ⟨some 32, .mov (.t 1), none⟩,
 ⟨some 33, .call n_gantryref04_tiny [(.t 32)] false, none⟩,
 ⟨some 34, .bin .rem (.t 31) (.t 33), none⟩,
 ⟨some 35, .call n_gantryref04_Of [(.t 34)] false, none⟩,
 ⟨some 7, .new [.v (.bool false), .z true], none⟩,
 ⟨none, .store 2 (.t 7) (.t 35), none⟩] []) <|
 .keep [6, 7] [[6], [7]]) <|
 .seq (.seq (.reg [⟨some 36, .fad 1 (.t 6), none⟩,
 ⟨some 37, .load none (.t 36), none⟩,
 ⟨some 38, .fad 1 (.t 7), none⟩,
 ⟨some 39, .load none (.t 38), none⟩,
 ⟨some 4, .mov (.t 37), none⟩,
 ⟨some 5, .mov (.t 39), none⟩] []) <|
 .keep [4, 5] [[42]]) <|
 .ret) <|
 .skip) <|
 .seq (.seq (.reg [⟨some 40, .mov (.t 0), none⟩,
 ⟨some 41, .len (.t 40), none⟩,
 ⟨some 42, .mksl 1 8 [.v (.int .i64 0)] (.t 41) (.t 41), none⟩,
 ⟨some 8, .mov (.t 42), none⟩] []) <|
 .keep [0, 1, 8] [[42]]) <|
 .seq (.seq (.reg [⟨some 9, .mov (.c (.z true)), none⟩] []) <|
 .keep [0, 1, 8, 9] [[42]]) <|
 .seq (.seq (.seq (.reg [⟨some 43, .mov (.t 0), none⟩,
 ⟨some 44, .len (.t 43), none⟩,
 ⟨some 45, .bin .sub (.t 44) (.c (.v (.int .i64 1))), none⟩,
 ⟨some 10, .mov (.t 45), none⟩] []) <|
 .keep [0, 1, 8, 9, 10] [[42]]) <|
 .seq (.blk 0 <|
 .seq (.keep [0, 1, 8, 9, 10] [[42]]) <|
 .loop gantryref04_divided_l1) <|
 .keep [8, 9] [[42]]) <|
 .seq (.seq (.reg [⟨some 93, .mov (.t 8), none⟩,
 ⟨some 94, .mov (.t 9), none⟩,
 ⟨some 4, .mov (.t 93), none⟩,
 ⟨some 5, .mov (.t 94), none⟩] []) <|
 .keep [4, 5] [[42]]) <|
 .ret, [.t 4, .t 5]⟩

def gantryref04_minus_l0 : C :=
 .seq (.seq (.seq (.seq (.reg [⟨some 9, .mov (.t 7), none⟩,
 ⟨some 10, .mov (.t 0), none⟩,
 ⟨some 11, .len (.t 10), none⟩,
 ⟨some 12, .bin .lss (.t 9) (.t 11), none⟩] []) <|
 .keep [0, 1, 5, 6, 7, 12] [[32]]) <|
 .cond (.t 12) (.skip) <|
 .seq (.keep [5] [[32]]) <|
 .exit 0) <|
 .seq (.seq (.blk 1 <|
 .seq (.seq (.reg [⟨some 15, .mov (.t 0), none⟩,
 ⟨some 16, .mov (.t 7), none⟩,
 ⟨some 17, .ixa 1 (.t 15) (.t 16), none⟩,
 ⟨some 18, .load none (.t 17), none⟩,
 ⟨some 19, .mov (.t 1), none⟩,
 ⟨some 20, .mov (.t 7), none⟩,
 ⟨some 21, .call n_gantryref04_digit [(.t 19), (.t 20)] false, none⟩,
 ⟨some 22, .bin .sub (.t 18) (.t 21), none⟩,
 ⟨some 23, .mov (.t 6), none⟩,
 ⟨some 24, .bin .sub (.t 22) (.t 23), none⟩,
 ⟨some 8, .mov (.t 24), none⟩] []) <|
 .keep [0, 1, 5, 7, 8] [[32]]) <|
 .seq (.seq (.reg [⟨some 6, .mov (.c (.v (.int .i64 0))), none⟩] []) <|
 .keep [0, 1, 5, 6, 7, 8] [[32]]) <|
 .seq (.seq (.seq (.reg [⟨some 25, .mov (.t 8), none⟩,
 ⟨some 26, .bin .lss (.t 25) (.c (.v (.int .i64 0))), none⟩] []) <|
 .keep [0, 1, 5, 6, 7, 8, 26] [[32]]) <|
 .cond (.t 26) (.seq (.seq (.reg [⟨some 27, .mov (.t 8), none⟩,
 ⟨some 28, .bin .add (.t 27) (.c (.v (.int .i64 1000000000))), none⟩,
 ⟨some 8, .mov (.t 28), none⟩] []) <|
 .keep [0, 1, 5, 7, 8] [[32]]) <|
 .seq (.reg [⟨some 6, .mov (.c (.v (.int .i64 1))), none⟩] []) <|
 .keep [0, 1, 5, 6, 7, 8] [[32]]) <|
 .skip) <|
 .seq (.reg [⟨some 29, .mov (.t 5), none⟩,
 ⟨some 30, .mov (.t 8), none⟩,
 ⟨some 31, .lit 1 1 [.v (.int .i64 0)] [(0, (.t 30))] true, none⟩,
 ⟨some 32, .app 1 8 (.t 29) (.t 31) false, none⟩,
 ⟨some 5, .mov (.t 32), none⟩] []) <|
 .keep [0, 1, 5, 6, 7] [[32]]) <|
 .keep [0, 1, 5, 6, 7] [[32]]) <|
 .seq (.reg [⟨some 13, .mov (.t 7), none⟩,
 ⟨some 14, .bin .add (.t 13) (.c (.v (.int .i64 1))), none⟩,
 ⟨some 7, .mov (.t 14), none⟩] []) <|
 .keep [0, 1, 5, 6, 7] [[32]]) <|
 .keep [0, 1, 5, 6, 7] [[32]]
def gantryref04_minus : CF := ⟨2, .seq (.seq (.reg [⟨some 4, .mov (.c (.z true)), none⟩] []) <|
 .keep [0, 1] []) <|
 .seq (.seq (.reg [⟨some 5, .mov (.c (.z true)), none⟩] []) <|
 .keep [0, 1, 5] [[32]]) <|
 .seq (.seq (.reg [⟨some 6, .mov (.c (.v (.int .i64 0))), none⟩] []) <|
 .keep [0, 1, 5, 6] [[32]]) <|
 .seq (.seq (.seq (.reg [⟨some 7, .mov (.c (.v (.int .i64 0))), none⟩] []) <|
 .keep [0, 1, 5, 6, 7] [[32]]) <|
 .seq (.blk 0 <|
 .seq (.keep [0, 1, 5, 6, 7] [[32]]) <|
 .loop gantryref04_minus_l0) <|
 .keep [5] [[32]]) <|
 .seq (.seq (.reg [⟨some 33, .mov (.t 5), none⟩,
 ⟨some 4, .mov (.t 33), none⟩] []) <|
 .keep [4] [[32]]) <|
 .ret, [.t 4]⟩

def gantryref04_plus_l0 : C :=
 .seq (.seq (.seq (.seq (.reg [⟨some 9, .mov (.t 7), none⟩,
 ⟨some 10, .mov (.t 0), none⟩,
 ⟨some 11, .len (.t 10), none⟩,
 ⟨some 12, .bin .lss (.t 9) (.t 11), none⟩,
 ⟨some 13, .mov (.t 12), none⟩,
 ⟨some 14, .mov (.t 7), (some (13, false))⟩,
 ⟨some 15, .mov (.t 1), (some (13, false))⟩,
 ⟨some 16, .len (.t 15), (some (13, false))⟩,
 ⟨some 17, .bin .lss (.t 14) (.t 16), (some (13, false))⟩,
 ⟨some 18, .pick (.t 13) (.c (.v (.bool true))) (.t 17), none⟩,
 ⟨some 19, .mov (.t 18), none⟩,
 ⟨some 20, .mov (.t 6), (some (19, false))⟩,
 ⟨some 21, .bin .gtr (.t 20) (.c (.v (.int .i64 0))), (some (19, false))⟩,
 ⟨some 22, .pick (.t 19) (.c (.v (.bool true))) (.t 21), none⟩] []) <|
 .keep [0, 1, 5, 6, 7, 22] [[38]]) <|
 .cond (.t 22) (.skip) <|
 .seq (.keep [5] [[38]]) <|
 .exit 0) <|
 .seq (.seq (.blk 1 <|
 .seq (.seq (.reg [⟨some 25, .mov (.t 0), none⟩,
 ⟨some 26, .mov (.t 7), none⟩,
 ⟨some 27, .call n_gantryref04_digit [(.t 25), (.t 26)] false, none⟩,
 ⟨some 28, .mov (.t 1), none⟩,
 ⟨some 29, .mov (.t 7), none⟩,
 ⟨some 30, .call n_gantryref04_digit [(.t 28), (.t 29)] false, none⟩,
 ⟨some 31, .bin .add (.t 27) (.t 30), none⟩,
 ⟨some 32, .mov (.t 6), none⟩,
 ⟨some 33, .bin .add (.t 31) (.t 32), none⟩,
 ⟨some 8, .mov (.t 33), none⟩] []) <|
 .keep [0, 1, 5, 7, 8] [[38]]) <|
 .seq (.seq (.reg [⟨some 34, .mov (.t 5), none⟩,
 ⟨some 35, .mov (.t 8), none⟩,
 ⟨some 36, .bin .rem (.t 35) (.c (.v (.int .i64 1000000000))), none⟩,
 ⟨some 37, .lit 1 1 [.v (.int .i64 0)] [(0, (.t 36))] true, none⟩,
 ⟨some 38, .app 1 8 (.t 34) (.t 37) false, none⟩,
 ⟨some 5, .mov (.t 38), none⟩] []) <|
 .keep [0, 1, 5, 7, 8] [[38]]) <|
 .seq (.reg [⟨some 39, .mov (.t 8), none⟩,
 ⟨some 40, .bin .quo (.t 39) (.c (.v (.int .i64 1000000000))), none⟩,
 ⟨some 6, .mov (.t 40), none⟩] []) <|
 .keep [0, 1, 5, 6, 7] [[38]]) <|
 .keep [0, 1, 5, 6, 7] [[38]]) <|
 .seq (.reg [⟨some 23, .mov (.t 7), none⟩,
 ⟨some 24, .bin .add (.t 23) (.c (.v (.int .i64 1))), none⟩,
 ⟨some 7, .mov (.t 24), none⟩] []) <|
 .keep [0, 1, 5, 6, 7] [[38]]) <|
 .keep [0, 1, 5, 6, 7] [[38]]
def gantryref04_plus : CF := ⟨2, .seq (.seq (.reg [⟨some 4, .mov (.c (.z true)), none⟩] []) <|
 .keep [0, 1] []) <|
 .seq (.seq (.reg [⟨some 5, .mov (.c (.z true)), none⟩] []) <|
 .keep [0, 1, 5] [[38]]) <|
 .seq (.seq (.reg [⟨some 6, .mov (.c (.v (.int .i64 0))), none⟩] []) <|
 .keep [0, 1, 5, 6] [[38]]) <|
 .seq (.seq (.seq (.reg [⟨some 7, .mov (.c (.v (.int .i64 0))), none⟩] []) <|
 .keep [0, 1, 5, 6, 7] [[38]]) <|
 .seq (.blk 0 <|
 .seq (.keep [0, 1, 5, 6, 7] [[38]]) <|
 .loop gantryref04_plus_l0) <|
 .keep [5] [[38]]) <|
 .seq (.seq (.reg [⟨some 41, .mov (.t 5), none⟩,
 ⟨some 4, .mov (.t 41), none⟩] []) <|
 .keep [4] [[38]]) <|
 .ret, [.t 4]⟩

def gantryref04_compared_l0 : C :=
 .seq (.seq (.seq (.seq (.reg [⟨some 19, .mov (.t 5), none⟩,
 ⟨some 20, .bin .geq (.t 19) (.c (.v (.int .i64 0))), none⟩] []) <|
 .keep [0, 1, 5, 20] []) <|
 .cond (.t 20) (.skip) <|
 .seq (.keep [] []) <|
 .exit 0) <|
 .seq (.seq (.blk 1 <|
 .seq (.seq (.seq (.reg [⟨some 23, .mov (.t 0), none⟩,
 ⟨some 24, .mov (.t 5), none⟩,
 ⟨some 25, .ixa 1 (.t 23) (.t 24), none⟩,
 ⟨some 26, .load none (.t 25), none⟩,
 ⟨some 27, .mov (.t 1), none⟩,
 ⟨some 28, .mov (.t 5), none⟩,
 ⟨some 29, .ixa 1 (.t 27) (.t 28), none⟩,
 ⟨some 30, .load none (.t 29), none⟩,
 ⟨some 31, .bin .lss (.t 26) (.t 30), none⟩] []) <|
 .keep [0, 1, 5, 31] []) <|
 .cond (.t 31) (.seq (.seq (.reg [⟨some 4, .mov (.c (.v (.int .i64 (-1)))), none⟩] []) <|
 .keep [4] []) <|
 .ret) <|
 .skip) <|
 .seq (.seq (.reg [⟨some 32, .mov (.t 0), none⟩,
 ⟨some 33, .mov (.t 5), none⟩,
 ⟨some 34, .ixa 1 (.t 32) (.t 33), none⟩,
 ⟨some 35, .load none (.t 34), none⟩,
 ⟨some 36, .mov (.t 1), none⟩,
 ⟨some 37, .mov (.t 5), none⟩,
 ⟨some 38, .ixa 1 (.t 36) (.t 37), none⟩,
 ⟨some 39, .load none (.t 38), none⟩,
 ⟨some 40, .bin .gtr (.t 35) (.t 39), none⟩] []) <|
 .keep [0, 1, 5, 40] []) <|
 .cond (.t 40) (.seq (.seq (.reg [⟨some 4, .mov (.c (.v (.int .i64 1))), none⟩] []) <|
 .keep [4] []) <|
 .ret) <|
 .skip) <|
 .keep [0, 1, 5] []) <|
 .seq (.reg [⟨some 21, .mov (.t 5), none⟩,
 ⟨some 22, .bin .sub (.t 21) (.c (.v (.int .i64 1))), none⟩,
 ⟨some 5, .mov (.t 22), none⟩] []) <|
 .keep [0, 1, 5] []) <|
 .keep [0, 1, 5] []
def gantryref04_compared : CF := ⟨2, .seq (.seq (.reg [⟨some 4, .mov (.c (.v (.int .i64 0))), none⟩] []) <|
 .keep [0, 1] []) <|
 .seq (.seq (.seq (.reg [⟨some 6, .mov (.t 0), none⟩,
 ⟨some 7, .len (.t 6), none⟩,
 ⟨some 8, .mov (.t 1), none⟩,
 ⟨some 9, .len (.t 8), none⟩,
 ⟨some 10, .bin .lss (.t 7) (.t 9), none⟩] []) <|
 .keep [0, 1, 10] []) <|
 .cond (.t 10) (.seq (.seq (.reg [⟨some 4, .mov (.c (.v (.int .i64 (-1)))), none⟩] []) <|
 .keep [4] []) <|
 .ret) <|
 .skip) <|
 .seq (.seq (.seq (.reg [⟨some 11, .mov (.t 0), none⟩,
 ⟨some 12, .len (.t 11), none⟩,
 ⟨some 13, .mov (.t 1), none⟩,
 ⟨some 14, .len (.t 13), none⟩,
 ⟨some 15, .bin .gtr (.t 12) (.t 14), none⟩] []) <|
 .keep [0, 1, 15] []) <|
 .cond (.t 15) (.seq (.seq (.reg [⟨some 4, .mov (.c (.v (.int .i64 1))), none⟩] []) <|
 .keep [4] []) <|
 .ret) <|
 .skip) <|
 .seq (.seq (.seq (.reg [⟨some 16, .mov (.t 0), none⟩,
 ⟨some 17, .len (.t 16), none⟩,
 ⟨some 18, .bin .sub (.t 17) (.c (.v (.int .i64 1))), none⟩,
 ⟨some 5, .mov (.t 18), none⟩] []) <|
 .keep [0, 1, 5] []) <|
 .seq (.blk 0 <|
 .seq (.keep [0, 1, 5] []) <|
 .loop gantryref04_compared_l0) <|
 .keep [] []) <|
 .seq (.seq (.reg [⟨some 4, .mov (.c (.v (.int .i64 0))), none⟩] []) <|
 .keep [4] []) <|
 .ret, [.t 4]⟩

def slices_IndexFunc_int_int_l0 : C :=
 .seq (.seq (.seq (.reg [⟨some 9, .bin .lss (.t 8) (.t 7), none⟩] []) <|
 .keep [0, 1, 7, 8, 9] []) <|
 .seq (.cond (.t 9) (.skip) <|
 .seq (.keep [] []) <|
 .exit 0) <|
 .seq (.seq (.blk 1 <|
 .seq (.seq (.reg [⟨some 10, .mov (.t 8), none⟩,
 ⟨some 5, .mov (.t 10), none⟩] []) <|
 .keep [0, 1, 5, 7, 8] []) <|
 .seq (.seq (.reg [⟨some 11, .mov (.t 1), none⟩,
 ⟨some 12, .mov (.t 0), none⟩,
 ⟨some 13, .mov (.t 5), none⟩,
 ⟨some 14, .ixa 1 (.t 12) (.t 13), none⟩,
 ⟨some 15, .load none (.t 14), none⟩,
 ⟨some 16, .calv (.t 11) [(.t 15)], none⟩] []) <|
 .keep [0, 1, 5, 7, 8, 16] []) <|
 .cond (.t 16) (.seq (.seq (.reg [⟨some 17, .mov (.t 5), none⟩,
 ⟨some 4, .mov (.t 17), none⟩] []) <|
 .keep [4] []) <|
 .ret) <|
 .skip) <|
 .keep [0, 1, 7, 8] []) <|
 .seq (.reg [⟨some 18, .bin .add (.t 8) (.c (.v (.int .i64 1))), none⟩,
 ⟨some 8, .mov (.t 18), none⟩] []) <|
 .keep [0, 1, 7, 8] []) <|
 .keep [0, 1, 7, 8] []
def slices_IndexFunc_int_int : CF := ⟨2, .seq (.seq (.reg [⟨some 4, .mov (.c (.v (.int .i64 0))), none⟩] []) <|
 .keep [0, 1] []) <|
 .seq (.seq (.seq (.reg [⟨some 6, .mov (.t 0), none⟩,
 ⟨some 7, .len (.t 6), none⟩,
 ⟨some 8, .mov (.c (.v (.int .i64 0))), none⟩] []) <|
 .keep [0, 1, 7, 8] []) <|
 .seq (.blk 0 <|
 .seq (.keep [0, 1, 7, 8] []) <|
 .loop slices_IndexFunc_int_int_l0) <|
 .keep [] []) <|
 .seq (.seq (.reg [⟨some 4, .mov (.c (.v (.int .i64 (-1)))), none⟩] []) <|
 .keep [4] []) <|
 .ret, [.t 4]⟩

def integer_short_l0 : C :=
 .seq (.seq (.seq (.seq (.reg [⟨some 16, .mov (.t 8), none⟩,
 ⟨some 17, .bin .geq (.t 16) (.c (.v (.int .i64 0))), none⟩] []) <|
 .keep [0, 1, 6, 7, 8, 17] [[12]]) <|
 .cond (.t 17) (.skip) <|
 .seq (.keep [6, 7] [[12]]) <|
 .exit 0) <|
 .seq (.seq (.blk 1 <|
 .seq (.seq (.reg [⟨some 20, .mov (.t 7), none⟩,
 ⟨some 21, .bin .mul (.t 20) (.c (.v (.int .i64 1000000000))), none⟩,
 ⟨some 22, .mov (.t 0), none⟩,
 ⟨some 23, .mov (.t 8), none⟩,
 ⟨some 24, .ixa 1 (.t 22) (.t 23), none⟩,
 ⟨some 25, .load none (.t 24), none⟩,
 ⟨some 26, .bin .add (.t 21) (.t 25), none⟩,
 ⟨some 9, .mov (.t 26), none⟩] []) <|
 .keep [0, 1, 6, 8, 9] [[12]]) <|
 .seq (.reg [⟨some 27, .mov (.t 6), none⟩,
 ⟨some 28, .mov (.t 8), none⟩,
 ⟨some 29, .mov (.t 9), none⟩,
 ⟨some 30, .mov (.t 1), none⟩,
 ⟨some 31, .bin .quo (.t 29) (.t 30), none⟩,
 ⟨some 32, .mov (.t 9), none⟩,
 ⟨some 33, .mov (.t 1), none⟩,
 ⟨some 34, .bin .rem (.t 32) (.t 33), none⟩,
 ⟨some 35, .ixa 1 (.t 27) (.t 28), none⟩,
 ⟨none, .store 1 (.t 35) (.t 31), none⟩,
 ⟨some 7, .mov (.t 34), none⟩] []) <|
 .keep [0, 1, 6, 7, 8] [[12]]) <|
 .keep [0, 1, 6, 7, 8] [[12]]) <|
 .seq (.reg [⟨some 18, .mov (.t 8), none⟩,
 ⟨some 19, .bin .sub (.t 18) (.c (.v (.int .i64 1))), none⟩,
 ⟨some 8, .mov (.t 19), none⟩] []) <|
 .keep [0, 1, 6, 7, 8] [[12]]) <|
 .keep [0, 1, 6, 7, 8] [[12]]
def integer_short : CF := ⟨2, .seq (.seq (.reg [⟨some 4, .mov (.c (.z true)), none⟩,
 ⟨some 5, .mov (.c (.v (.int .i64 0))), none⟩] []) <|
 .keep [0, 1] []) <|
 .seq (.seq (.reg [⟨some 10, .mov (.t 0), none⟩,
 ⟨some 11, .len (.t 10), none⟩,
 ⟨some 12, .mksl 1 8 [.v (.int .i64 0)] (.t 11) (.t 11), none⟩,
 ⟨some 6, .mov (.t 12), none⟩] []) <|
 .keep [0, 1, 6] [[12]]) <|
 .seq (.seq (.reg [⟨some 7, .mov (.c (.v (.int .i64 0))), none⟩] []) <|
 .keep [0, 1, 6, 7] [[12]]) <|
 .seq (.seq (.seq (.reg [⟨some 13, .mov (.t 0), none⟩,
 ⟨some 14, .len (.t 13), none⟩,
 ⟨some 15, .bin .sub (.t 14) (.c (.v (.int .i64 1))), none⟩,
 ⟨some 8, .mov (.t 15), none⟩] []) <|
 .keep [0, 1, 6, 7, 8] [[12]]) <|
 .seq (.blk 0 <|
 .seq (.keep [0, 1, 6, 7, 8] [[12]]) <|
 .loop integer_short_l0) <|
 .keep [6, 7] [[12]]) <|
 .seq (.seq (.reg [⟨some 36, .mov (.t 6), none⟩,
 ⟨some 37, .mov (.t 7), none⟩,
 ⟨some 4, .mov (.t 36), none⟩,
 ⟨some 5, .mov (.t 37), none⟩] []) <|
 .keep [4, 5] [[12]]) <|
 .ret, [.t 4, .t 5]⟩

def integer_long_l0 : C :=
 .seq (.seq (.seq (.seq (.reg [⟨some 84, .mov (.t 13), none⟩,
 ⟨some 85, .bin .geq (.t 84) (.c (.v (.int .i64 1000000000))), none⟩,
 ⟨some 86, .mov (.t 85), none⟩,
 ⟨some 87, .mov (.t 13), (some (86, false))⟩,
 ⟨some 88, .mov (.t 8), (some (86, false))⟩,
 ⟨some 89, .mov (.t 9), (some (86, false))⟩,
 ⟨some 90, .bin .sub (.t 89) (.c (.v (.int .i64 2))), (some (86, false))⟩,
 ⟨some 91, .ixa 1 (.t 88) (.t 90), (some (86, false))⟩,
 ⟨some 92, .load none (.t 91), (some (86, false))⟩,
 ⟨some 93, .bin .mul (.t 87) (.t 92), (some (86, false))⟩,
 ⟨some 94, .mov (.t 14), (some (86, false))⟩,
 ⟨some 95, .bin .mul (.t 94) (.c (.v (.int .i64 1000000000))), (some (86, false))⟩,
 ⟨some 96, .mov (.t 7), (some (86, false))⟩,
 ⟨some 97, .mov (.t 11), (some (86, false))⟩,
 ⟨some 98, .mov (.t 9), (some (86, false))⟩,
 ⟨some 99, .bin .add (.t 97) (.t 98), (some (86, false))⟩,
 ⟨some 100, .bin .sub (.t 99) (.c (.v (.int .i64 2))), (some (86, false))⟩,
 ⟨some 101, .ixa 1 (.t 96) (.t 100), (some (86, false))⟩,
 ⟨some 102, .load none (.t 101), (some (86, false))⟩,
 ⟨some 103, .bin .add (.t 95) (.t 102), (some (86, false))⟩,
 ⟨some 104, .bin .gtr (.t 93) (.t 103), (some (86, false))⟩,
 ⟨some 105, .pick (.t 86) (.c (.v (.bool true))) (.t 104), none⟩] []) <|
 .keep [6, 7, 8, 9, 10, 11, 13, 14, 105] [[32], [46]]) <|
 .cond (.t 105) (.skip) <|
 .seq (.keep [6, 7, 8, 9, 10, 11, 13] [[32], [46]]) <|
 .exit 2) <|
 .seq (.blk 3 <|
 .seq (.seq (.reg [⟨some 106, .mov (.t 13), none⟩,
 ⟨some 107, .bin .sub (.t 106) (.c (.v (.int .i64 1))), none⟩,
 ⟨some 13, .mov (.t 107), none⟩] []) <|
 .keep [6, 7, 8, 9, 10, 11, 13, 14] [[32], [46]]) <|
 .seq (.seq (.reg [⟨some 108, .mov (.t 14), none⟩,
 ⟨some 109, .mov (.t 8), none⟩,
 ⟨some 110, .mov (.t 9), none⟩,
 ⟨some 111, .bin .sub (.t 110) (.c (.v (.int .i64 1))), none⟩,
 ⟨some 112, .ixa 1 (.t 109) (.t 111), none⟩,
 ⟨some 113, .load none (.t 112), none⟩,
 ⟨some 114, .bin .add (.t 108) (.t 113), none⟩,
 ⟨some 14, .mov (.t 114), none⟩] []) <|
 .keep [6, 7, 8, 9, 10, 11, 13, 14] [[32], [46]]) <|
 .seq (.seq (.reg [⟨some 115, .mov (.t 14), none⟩,
 ⟨some 116, .bin .geq (.t 115) (.c (.v (.int .i64 1000000000))), none⟩] []) <|
 .keep [6, 7, 8, 9, 10, 11, 13, 14, 116] [[32], [46]]) <|
 .cond (.t 116) (.seq (.keep [6, 7, 8, 9, 10, 11, 13] [[32], [46]]) <|
 .exit 2) <|
 .skip) <|
 .keep [6, 7, 8, 9, 10, 11, 13, 14] [[32], [46]]) <|
 .keep [6, 7, 8, 9, 10, 11, 13, 14] [[32], [46]]
def integer_long_l1 : C :=
 .seq (.seq (.seq (.reg [⟨some 119, .bin .lss (.t 118) (.t 117), none⟩] []) <|
 .keep [6, 7, 8, 9, 10, 11, 13, 15, 117, 118, 119] [[32], [46]]) <|
 .seq (.cond (.t 119) (.skip) <|
 .seq (.keep [6, 7, 8, 9, 10, 11, 13, 15] [[32], [46]]) <|
 .exit 4) <|
 .seq (.seq (.blk 5 <|
 .seq (.seq (.reg [⟨some 120, .mov (.t 118), none⟩,
 ⟨some 16, .mov (.t 120), none⟩] []) <|
 .keep [6, 7, 8, 9, 10, 11, 13, 15, 16, 117, 118] [[32], [46]]) <|
 .seq (.seq (.reg [⟨some 121, .mov (.t 7), none⟩,
 ⟨some 122, .mov (.t 16), none⟩,
 ⟨some 123, .mov (.t 11), none⟩,
 ⟨some 124, .bin .add (.t 122) (.t 123), none⟩,
 ⟨some 125, .ixa 1 (.t 121) (.t 124), none⟩,
 ⟨some 126, .load none (.t 125), none⟩,
 ⟨some 127, .mov (.t 13), none⟩,
 ⟨some 128, .mov (.t 8), none⟩,
 ⟨some 129, .mov (.t 16), none⟩,
 ⟨some 130, .ixa 1 (.t 128) (.t 129), none⟩,
 ⟨some 131, .load none (.t 130), none⟩,
 ⟨some 132, .bin .mul (.t 127) (.t 131), none⟩,
 ⟨some 133, .bin .sub (.t 126) (.t 132), none⟩,
 ⟨some 134, .mov (.t 15), none⟩,
 ⟨some 135, .bin .sub (.t 133) (.t 134), none⟩,
 ⟨some 17, .mov (.t 135), none⟩] []) <|
 .keep [6, 7, 8, 9, 10, 11, 13, 16, 17, 117, 118] [[32], [46]]) <|
 .seq (.seq (.reg [⟨some 15, .mov (.c (.v (.int .i64 0))), none⟩] []) <|
 .keep [6, 7, 8, 9, 10, 11, 13, 15, 16, 17, 117, 118] [[32], [46]]) <|
 .seq (.seq (.seq (.reg [⟨some 136, .mov (.t 17), none⟩,
 ⟨some 137, .bin .lss (.t 136) (.c (.v (.int .i64 0))), none⟩] []) <|
 .keep [6, 7, 8, 9, 10, 11, 13, 15, 16, 17, 117, 118, 137] [[32], [46]]) <|
 .cond (.t 137) (.seq (.seq (.reg [⟨some 138, .mov (.t 17), none⟩,
 ⟨some 139, .un .neg (.t 138), none⟩,
 ⟨some 140, .bin .add (.t 139) (.c (.v (.int .i64 1000000000))), none⟩,
 ⟨some 141, .bin .sub (.t 140) (.c (.v (.int .i64 1))), none⟩,
 ⟨some 142, .bin .quo (.t 141) (.c (.v (.int .i64 1000000000))), none⟩,
 ⟨some 15, .mov (.t 142), none⟩] []) <|
 .keep [6, 7, 8, 9, 10, 11, 13, 15, 16, 17, 117, 118] [[32], [46]]) <|
 .seq (.reg [⟨some 143, .mov (.t 17), none⟩,
 ⟨some 144, .mov (.t 15), none⟩,
 ⟨some 145, .bin .mul (.t 144) (.c (.v (.int .i64 1000000000))), none⟩,
 ⟨some 146, .bin .add (.t 143) (.t 145), none⟩,
 ⟨some 17, .mov (.t 146), none⟩] []) <|
 .keep [6, 7, 8, 9, 10, 11, 13, 15, 16, 17, 117, 118] [[32], [46]]) <|
 .skip) <|
 .seq (.reg [⟨some 147, .mov (.t 7), none⟩,
 ⟨some 148, .mov (.t 16), none⟩,
 ⟨some 149, .mov (.t 11), none⟩,
 ⟨some 150, .bin .add (.t 148) (.t 149), none⟩,
 ⟨some 151, .mov (.t 17), none⟩,
 ⟨some 152, .ixa 1 (.t 147) (.t 150), none⟩,
 ⟨none, .store 1 (.t 152) (.t 151), none⟩] []) <|
 .keep [6, 7, 8, 9, 10, 11, 13, 15, 117, 118] [[32], [46]]) <|
 .keep [6, 7, 8, 9, 10, 11, 13, 15, 117, 118] [[32], [46]]) <|
 .seq (.reg [⟨some 153, .bin .add (.t 118) (.c (.v (.int .i64 1))), none⟩,
 ⟨some 118, .mov (.t 153), none⟩] []) <|
 .keep [6, 7, 8, 9, 10, 11, 13, 15, 117, 118] [[32], [46]]) <|
 .keep [6, 7, 8, 9, 10, 11, 13, 15, 117, 118] [[32], [46]]
def integer_long_l2 : C :=
 .seq (.seq (.seq (.reg [⟨some 174, .bin .lss (.t 173) (.t 172), none⟩] []) <|
 .keep [6, 7, 8, 9, 10, 11, 13, 15, 172, 173, 174] [[32], [46]]) <|
 .seq (.cond (.t 174) (.skip) <|
 .seq (.keep [6, 7, 8, 9, 10, 11, 13, 15] [[32], [46]]) <|
 .exit 6) <|
 .seq (.seq (.blk 7 <|
 .seq (.seq (.reg [⟨some 175, .mov (.t 173), none⟩,
 ⟨some 18, .mov (.t 175), none⟩] []) <|
 .keep [6, 7, 8, 9, 10, 11, 13, 15, 18, 172, 173] [[32], [46]]) <|
 .seq (.seq (.reg [⟨some 176, .mov (.t 7), none⟩,
 ⟨some 177, .mov (.t 18), none⟩,
 ⟨some 178, .mov (.t 11), none⟩,
 ⟨some 179, .bin .add (.t 177) (.t 178), none⟩,
 ⟨some 180, .ixa 1 (.t 176) (.t 179), none⟩,
 ⟨some 181, .load none (.t 180), none⟩,
 ⟨some 182, .mov (.t 8), none⟩,
 ⟨some 183, .mov (.t 18), none⟩,
 ⟨some 184, .ixa 1 (.t 182) (.t 183), none⟩,
 ⟨some 185, .load none (.t 184), none⟩,
 ⟨some 186, .bin .add (.t 181) (.t 185), none⟩,
 ⟨some 187, .mov (.t 15), none⟩,
 ⟨some 188, .bin .add (.t 186) (.t 187), none⟩,
 ⟨some 19, .mov (.t 188), none⟩] []) <|
 .keep [6, 7, 8, 9, 10, 11, 13, 18, 19, 172, 173] [[32], [46]]) <|
 .seq (.reg [⟨some 189, .mov (.t 7), none⟩,
 ⟨some 190, .mov (.t 18), none⟩,
 ⟨some 191, .mov (.t 11), none⟩,
 ⟨some 192, .bin .add (.t 190) (.t 191), none⟩,
 ⟨some 193, .mov (.t 19), none⟩,
 ⟨some 194, .bin .rem (.t 193) (.c (.v (.int .i64 1000000000))), none⟩,
 ⟨some 195, .mov (.t 19), none⟩,
 ⟨some 196, .bin .quo (.t 195) (.c (.v (.int .i64 1000000000))), none⟩,
 ⟨some 197, .ixa 1 (.t 189) (.t 192), none⟩,
 ⟨none, .store 1 (.t 197) (.t 194), none⟩,
 ⟨some 15, .mov (.t 196), none⟩] []) <|
 .keep [6, 7, 8, 9, 10, 11, 13, 15, 172, 173] [[32], [46]]) <|
 .keep [6, 7, 8, 9, 10, 11, 13, 15, 172, 173] [[32], [46]]) <|
 .seq (.reg [⟨some 198, .bin .add (.t 173) (.c (.v (.int .i64 1))), none⟩,
 ⟨some 173, .mov (.t 198), none⟩] []) <|
 .keep [6, 7, 8, 9, 10, 11, 13, 15, 172, 173] [[32], [46]]) <|
 .keep [6, 7, 8, 9, 10, 11, 13, 15, 172, 173] [[32], [46]]
def integer_long_l3 : C :=
 .seq (.seq (.seq (.seq (.reg [⟨some 51, .mov (.t 11), none⟩,
 ⟨some 52, .bin .geq (.t 51) (.c (.v (.int .i64 0))), none⟩] []) <|
 .keep [6, 7, 8, 9, 10, 11, 52] [[32], [46]]) <|
 .cond (.t 52) (.skip) <|
 .seq (.keep [6, 7, 9, 10] [[32], [46]]) <|
 .exit 0) <|
 .seq (.seq (.blk 1 <|
 .seq (.seq (.reg [⟨some 55, .mov (.t 7), none⟩,
 ⟨some 56, .mov (.t 11), none⟩,
 ⟨some 57, .mov (.t 9), none⟩,
 ⟨some 58, .bin .add (.t 56) (.t 57), none⟩,
 ⟨some 59, .ixa 1 (.t 55) (.t 58), none⟩,
 ⟨some 60, .load none (.t 59), none⟩,
 ⟨some 61, .bin .mul (.t 60) (.c (.v (.int .i64 1000000000))), none⟩,
 ⟨some 62, .mov (.t 7), none⟩,
 ⟨some 63, .mov (.t 11), none⟩,
 ⟨some 64, .mov (.t 9), none⟩,
 ⟨some 65, .bin .add (.t 63) (.t 64), none⟩,
 ⟨some 66, .bin .sub (.t 65) (.c (.v (.int .i64 1))), none⟩,
 ⟨some 67, .ixa 1 (.t 62) (.t 66), none⟩,
 ⟨some 68, .load none (.t 67), none⟩,
 ⟨some 69, .bin .add (.t 61) (.t 68), none⟩,
 ⟨some 12, .mov (.t 69), none⟩] []) <|
 .keep [6, 7, 8, 9, 10, 11, 12] [[32], [46]]) <|
 .seq (.seq (.reg [⟨some 70, .mov (.t 12), none⟩,
 ⟨some 71, .mov (.t 8), none⟩,
 ⟨some 72, .mov (.t 9), none⟩,
 ⟨some 73, .bin .sub (.t 72) (.c (.v (.int .i64 1))), none⟩,
 ⟨some 74, .ixa 1 (.t 71) (.t 73), none⟩,
 ⟨some 75, .load none (.t 74), none⟩,
 ⟨some 76, .bin .quo (.t 70) (.t 75), none⟩,
 ⟨some 77, .mov (.t 12), none⟩,
 ⟨some 78, .mov (.t 8), none⟩,
 ⟨some 79, .mov (.t 9), none⟩,
 ⟨some 80, .bin .sub (.t 79) (.c (.v (.int .i64 1))), none⟩,
 ⟨some 81, .ixa 1 (.t 78) (.t 80), none⟩,
 ⟨some 82, .load none (.t 81), none⟩,
 ⟨some 83, .bin .rem (.t 77) (.t 82), none⟩,
 ⟨some 13, .mov (.t 76), none⟩,
 ⟨some 14, .mov (.t 83), none⟩] []) <|
 .keep [6, 7, 8, 9, 10, 11, 13, 14] [[32], [46]]) <|
 .seq (.skip) <|
 .seq (.seq (.blk 2 <|
 .seq (.keep [6, 7, 8, 9, 10, 11, 13, 14] [[32], [46]]) <|
 .loop integer_long_l0) <|
 .keep [6, 7, 8, 9, 10, 11, 13] [[32], [46]]) <|
 .seq (.seq (.reg [⟨some 15, .mov (.c (.v (.int .i64 0))), none⟩] []) <|
 .keep [6, 7, 8, 9, 10, 11, 13, 15] [[32], [46]]) <|
 .seq (.seq (.seq (.reg [⟨some 117, .mov (.t 9), none⟩,
 ⟨some 118, .mov (.c (.v (.int .i64 0))), none⟩] []) <|
 .keep [6, 7, 8, 9, 10, 11, 13, 15, 117, 118] [[32], [46]]) <|
 .seq (.blk 4 <|
 .seq (.keep [6, 7, 8, 9, 10, 11, 13, 15, 117, 118] [[32], [46]]) <|
 .loop integer_long_l1) <|
 .keep [6, 7, 8, 9, 10, 11, 13, 15] [[32], [46]]) <|
 .seq (.seq (.seq (.reg [⟨some 154, .mov (.t 7), none⟩,
 ⟨some 155, .mov (.t 11), none⟩,
 ⟨some 156, .mov (.t 9), none⟩,
 ⟨some 157, .bin .add (.t 155) (.t 156), none⟩,
 ⟨some 158, .ixa 1 (.t 154) (.t 157), none⟩,
 ⟨some 159, .load none (.t 158), none⟩,
 ⟨some 160, .mov (.t 15), none⟩,
 ⟨some 161, .bin .sub (.t 159) (.t 160), none⟩,
 ⟨some 162, .ixa 1 (.t 154) (.t 157), none⟩,
 ⟨none, .store 1 (.t 162) (.t 161), none⟩] []) <|
 .keep [6, 7, 8, 9, 10, 11, 13] [[32], [46]]) <|
 .seq (.seq (.reg [⟨some 163, .mov (.t 7), none⟩,
 ⟨some 164, .mov (.t 11), none⟩,
 ⟨some 165, .mov (.t 9), none⟩,
 ⟨some 166, .bin .add (.t 164) (.t 165), none⟩,
 ⟨some 167, .ixa 1 (.t 163) (.t 166), none⟩,
 ⟨some 168, .load none (.t 167), none⟩,
 ⟨some 169, .bin .lss (.t 168) (.c (.v (.int .i64 0))), none⟩] []) <|
 .keep [6, 7, 8, 9, 10, 11, 13, 169] [[32], [46]]) <|
 .cond (.t 169) (.seq (.seq (.reg [⟨some 170, .mov (.t 13), none⟩,
 ⟨some 171, .bin .sub (.t 170) (.c (.v (.int .i64 1))), none⟩,
 ⟨some 13, .mov (.t 171), none⟩] []) <|
 .keep [6, 7, 8, 9, 10, 11, 13] [[32], [46]]) <|
 .seq (.seq (.reg [⟨some 15, .mov (.c (.v (.int .i64 0))), none⟩] []) <|
 .keep [6, 7, 8, 9, 10, 11, 13, 15] [[32], [46]]) <|
 .seq (.seq (.seq (.reg [⟨some 172, .mov (.t 9), none⟩,
 ⟨some 173, .mov (.c (.v (.int .i64 0))), none⟩] []) <|
 .keep [6, 7, 8, 9, 10, 11, 13, 15, 172, 173] [[32], [46]]) <|
 .seq (.blk 6 <|
 .seq (.keep [6, 7, 8, 9, 10, 11, 13, 15, 172, 173] [[32], [46]]) <|
 .loop integer_long_l2) <|
 .keep [6, 7, 8, 9, 10, 11, 13, 15] [[32], [46]]) <|
 .seq (.reg [⟨some 199, .mov (.t 7), none⟩,
 ⟨some 200, .mov (.t 11), none⟩,
 ⟨some 201, .mov (.t 9), none⟩,
 ⟨some 202, .bin .add (.t 200) (.t 201), none⟩,
 ⟨some 203, .ixa 1 (.t 199) (.t 202), none⟩,
 ⟨some 204, .load none (.t 203), none⟩,
 ⟨some 205, .mov (.t 15), none⟩,
 ⟨some 206, .bin .add (.t 204) (.t 205), none⟩,
 ⟨some 207, .ixa 1 (.t 199) (.t 202), none⟩,
 ⟨none, .store 1 (.t 207) (.t 206), none⟩] []) <|
 .keep [6, 7, 8, 9, 10, 11, 13] [[32], [46]]) <|
 .skip) <|
 .seq (.reg [⟨some 208, .mov (.t 10), none⟩,
 ⟨some 209, .mov (.t 11), none⟩,
 ⟨some 210, .mov (.t 13), none⟩,
 ⟨some 211, .ixa 1 (.t 208) (.t 209), none⟩,
 ⟨none, .store 1 (.t 211) (.t 210), none⟩] []) <|
 .keep [6, 7, 8, 9, 10, 11] [[32], [46]]) <|
 .keep [6, 7, 8, 9, 10, 11] [[32], [46]]) <|
 .seq (.reg [⟨some 53, .mov (.t 11), none⟩,
 ⟨some 54, .bin .sub (.t 53) (.c (.v (.int .i64 1))), none⟩,
 ⟨some 11, .mov (.t 54), none⟩] []) <|
 .keep [6, 7, 8, 9, 10, 11] [[32], [46]]) <|
 .keep [6, 7, 8, 9, 10, 11] [[32], [46]]
def integer_long : CF := ⟨2, .seq (.seq (.reg [⟨some 4, .mov (.c (.z true)), none⟩,
 ⟨some 5, .mov (.c (.z true)), none⟩] []) <|
 .keep [0, 1] []) <|
 .seq (.seq (.reg [⟨some 22, .mov (.t 1), none⟩,
 ⟨some 23, .mov (.t 1), none⟩,
 ⟨some 24, .len (.t 23), none⟩,
 ⟨some 25, .bin .sub (.t 24) (.c (.v (.int .i64 1))), none⟩,
 ⟨some 26, .ixa 1 (.t 22) (.t 25), none⟩,
 ⟨some 27, .load none (.t 26), none⟩,
 ⟨some 28, .bin .add (.t 27) (.c (.v (.int .i64 1))), none⟩,
 ⟨some 29, .bin .quo (.c (.v (.int .i64 1000000000))) (.t 28), none⟩,
 ⟨some 6, .mov (.t 29), none⟩] []) <|
 .keep [0, 1, 6] []) <|
 .seq (.seq (.reg [⟨some 30, .mov (.t 0), none⟩,
 ⟨some 31, .mov (.t 6), none⟩,
 ⟨some 32, .call n_integer_scaled [(.t 30), (.t 31)] true, none⟩,
 ⟨some 33, .mov (.t 1), none⟩,
 ⟨some 34, .mov (.t 6), none⟩,
 ⟨some 35, .call n_integer_scaled [(.t 33), (.t 34)] false, none⟩,
 ⟨some 36, .mov (.t 1), none⟩,
 ⟨some 37, .len (.t 36), none⟩,
 ⟨some 38, .slc 1 (.t 35) none (some (.t 37)) none, none⟩,
 ⟨some 7, .mov (.t 32), none⟩,
 ⟨some 8, .mov (.t 38), none⟩] []) <|
 .keep [0, 1, 6, 7, 8] [[32]]) <|
 .seq (.seq (.reg [⟨some 39, .mov (.t 1), none⟩,
 ⟨some 40, .len (.t 39), none⟩,
 ⟨some 9, .mov (.t 40), none⟩] []) <|
 .keep [0, 6, 7, 8, 9] [[32]]) <|
 .seq (.seq (.reg [⟨some 41, .mov (.t 0), none⟩,
 ⟨some 42, .len (.t 41), none⟩,
 ⟨some 43, .mov (.t 9), none⟩,
 ⟨some 44, .bin .sub (.t 42) (.t 43), none⟩,
 ⟨some 45, .bin .add (.t 44) (.c (.v (.int .i64 1))), none⟩,
 ⟨some 46, .mksl 1 8 [.v (.int .i64 0)] (.t 45) (.t 45), none⟩,
 ⟨some 10, .mov (.t 46), none⟩] []) <|
 .keep [0, 6, 7, 8, 9, 10] [[32], [46]]) <|
 .seq (.seq (.seq (.reg [⟨some 47, .mov (.t 0), none⟩,
 ⟨some 48, .len (.t 47), none⟩,
 ⟨some 49, .mov (.t 9), none⟩,
 ⟨some 50, .bin .sub (.t 48) (.t 49), none⟩,
 ⟨some 11, .mov (.t 50), none⟩] []) <|
 .keep [6, 7, 8, 9, 10, 11] [[32], [46]]) <|
 .seq (.blk 0 <|
 .seq (.keep [6, 7, 8, 9, 10, 11] [[32], [46]]) <|
 .loop integer_long_l3) <|
 .keep [6, 7, 9, 10] [[32], [46]]) <|
 .seq (.seq (.frz 7) <|
 .seq (.reg [⟨some 213, .mov (.t 7), none⟩,
 ⟨some 214, .mov (.t 9), none⟩,
 ⟨some 215, .slc 1 (.t 213) none (some (.t 214)) none, none⟩,
 ⟨some 216, .mov (.t 6), none⟩,
 ⟨some 217, .call n_integer_short [(.t 215), (.t 216)] false, none⟩,
 ⟨some 212, .mov (.t 217), none⟩,
 ⟨some 218, .ext (.t 212) 0, none⟩,
 ⟨some 219, .ext (.t 212) 1, none⟩,
 ⟨some 20, .mov (.t 218), none⟩,
 ⟨some 21, .mov (.t 219), none⟩] []) <|
 .keep [10, 20] [[46]]) <|
 .seq (.seq (.reg [⟨some 220, .mov (.t 10), none⟩,
 ⟨some 221, .mov (.t 20), none⟩,
 ⟨some 4, .mov (.t 220), none⟩,
 ⟨some 5, .mov (.t 221), none⟩] []) <|
 .keep [4, 5] [[46]]) <|
 .ret, [.t 4, .t 5]⟩

def gantryref04_digit : CF := ⟨2, .seq (.seq (.reg [⟨some 4, .mov (.c (.v (.int .i64 0))), none⟩] []) <|
 .keep [0, 1] []) <|
 .seq (.seq (.seq (.reg [⟨some 5, .mov (.t 1), none⟩,
 ⟨some 6, .mov (.t 0), none⟩,
 ⟨some 7, .len (.t 6), none⟩,
 ⟨some 8, .bin .lss (.t 5) (.t 7), none⟩] []) <|
 .keep [0, 1, 8] []) <|
 .cond (.t 8) (.seq (.seq (.reg [⟨some 9, .mov (.t 0), none⟩,
 ⟨some 10, .mov (.t 1), none⟩,
 ⟨some 11, .ixa 1 (.t 9) (.t 10), none⟩,
 ⟨some 12, .load none (.t 11), none⟩,
 ⟨some 4, .mov (.t 12), none⟩] []) <|
 .keep [4] []) <|
 .ret) <|
 .skip) <|
 .seq (.seq (.reg [⟨some 4, .mov (.c (.v (.int .i64 0))), none⟩] []) <|
 .keep [4] []) <|
 .ret, [.t 4]⟩

def cmp_isNaN_int : CF := ⟨1, .seq (.seq (.reg [⟨some 2, .mov (.c (.v (.bool false))), none⟩] []) <|
 .keep [0] []) <|
 .seq (.seq (.reg [⟨some 3, .mov (.t 0), none⟩,
 ⟨some 4, .mov (.t 0), none⟩,
 ⟨some 5, .bin .neq (.t 3) (.t 4), none⟩,
 ⟨some 2, .mov (.t 5), none⟩] []) <|
 .keep [2] []) <|
 .ret, [.t 2]⟩

def gantryref04_times : CF := ⟨2, .seq (.seq (.reg [⟨some 4, .mov (.c (.z true)), none⟩] []) <|
 .keep [0, 1] []) <|
 .seq (.seq (.reg [⟨some 6, .mov (.t 0), none⟩,
 ⟨some 7, .call n_gantryref04_normal [(.c (.v (.bool false))), (.t 6)] false, none⟩,
 ⟨some 8, .mov (.t 1), none⟩,
 ⟨some 9, .call n_gantryref04_Of [(.t 8)] false, none⟩,
 ⟨some 10, .call n_gantryref04_Mul [(.t 7), (.t 9)] false, none⟩,
 ⟨some 5, .new [.v (.bool false), .z true], none⟩,
 ⟨none, .store 2 (.t 5) (.t 10), none⟩] []) <|
 .keep [5] [[5]]) <|
 .seq (.seq (.reg [⟨some 11, .fad 1 (.t 5), none⟩,
 ⟨some 12, .load none (.t 11), none⟩,
 ⟨some 4, .mov (.t 12), none⟩] []) <|
 .keep [4] []) <|
 .ret, [.t 4]⟩

def integer_scaled_l0 : C :=
 .seq (.seq (.seq (.reg [⟨some 17, .bin .lss (.t 16) (.t 15), none⟩] []) <|
 .keep [0, 1, 5, 6, 14, 15, 16, 17] [[13]]) <|
 .seq (.cond (.t 17) (.skip) <|
 .seq (.keep [0, 5, 6] [[13]]) <|
 .exit 0) <|
 .seq (.seq (.blk 1 <|
 .seq (.seq (.reg [⟨some 18, .mov (.t 16), none⟩,
 ⟨some 19, .ixa 1 (.t 14) (.t 16), none⟩,
 ⟨some 20, .load none (.t 19), none⟩,
 ⟨some 7, .mov (.t 18), none⟩,
 ⟨some 8, .mov (.t 20), none⟩] []) <|
 .keep [0, 1, 5, 6, 7, 8, 14, 15, 16] [[13]]) <|
 .seq (.seq (.reg [⟨some 21, .mov (.t 8), none⟩,
 ⟨some 22, .mov (.t 1), none⟩,
 ⟨some 23, .bin .mul (.t 21) (.t 22), none⟩,
 ⟨some 24, .mov (.t 6), none⟩,
 ⟨some 25, .bin .add (.t 23) (.t 24), none⟩,
 ⟨some 9, .mov (.t 25), none⟩] []) <|
 .keep [0, 1, 5, 7, 9, 14, 15, 16] [[13]]) <|
 .seq (.reg [⟨some 26, .mov (.t 5), none⟩,
 ⟨some 27, .mov (.t 7), none⟩,
 ⟨some 28, .mov (.t 9), none⟩,
 ⟨some 29, .bin .rem (.t 28) (.c (.v (.int .i64 1000000000))), none⟩,
 ⟨some 30, .mov (.t 9), none⟩,
 ⟨some 31, .bin .quo (.t 30) (.c (.v (.int .i64 1000000000))), none⟩,
 ⟨some 32, .ixa 1 (.t 26) (.t 27), none⟩,
 ⟨none, .store 1 (.t 32) (.t 29), none⟩,
 ⟨some 6, .mov (.t 31), none⟩] []) <|
 .keep [0, 1, 5, 6, 14, 15, 16] [[13]]) <|
 .keep [0, 1, 5, 6, 14, 15, 16] [[13]]) <|
 .seq (.reg [⟨some 33, .bin .add (.t 16) (.c (.v (.int .i64 1))), none⟩,
 ⟨some 16, .mov (.t 33), none⟩] []) <|
 .keep [0, 1, 5, 6, 14, 15, 16] [[13]]) <|
 .keep [0, 1, 5, 6, 14, 15, 16] [[13]]
def integer_scaled : CF := ⟨2, .seq (.seq (.reg [⟨some 4, .mov (.c (.z true)), none⟩] []) <|
 .keep [0, 1] []) <|
 .seq (.seq (.reg [⟨some 10, .mov (.t 0), none⟩,
 ⟨some 11, .len (.t 10), none⟩,
 ⟨some 12, .bin .add (.t 11) (.c (.v (.int .i64 1))), none⟩,
 ⟨some 13, .mksl 1 8 [.v (.int .i64 0)] (.t 12) (.t 12), none⟩,
 ⟨some 5, .mov (.t 13), none⟩] []) <|
 .keep [0, 1, 5] [[13]]) <|
 .seq (.seq (.reg [⟨some 6, .mov (.c (.v (.int .i64 0))), none⟩] []) <|
 .keep [0, 1, 5, 6] [[13]]) <|
 .seq (.seq (.seq (.reg [⟨some 14, .mov (.t 0), none⟩,
 ⟨some 15, .len (.t 14), none⟩,
 ⟨some 16, .mov (.c (.v (.int .i64 0))), none⟩] []) <|
 .keep [0, 1, 5, 6, 14, 15, 16] [[13]]) <|
 .seq (.blk 0 <|
 .seq (.keep [0, 1, 5, 6, 14, 15, 16] [[13]]) <|
 .loop integer_scaled_l0) <|
 .keep [0, 5, 6] [[13]]) <|
 .seq (.seq (.reg [⟨some 34, .mov (.t 5), none⟩,
 ⟨some 35, .mov (.t 0), none⟩,
 ⟨some 36, .len (.t 35), none⟩,
 ⟨some 37, .mov (.t 6), none⟩,
 ⟨some 38, .ixa 1 (.t 34) (.t 36), none⟩,
 ⟨none, .store 1 (.t 38) (.t 37), none⟩] []) <|
 .keep [5] [[13]]) <|
 .seq (.seq (.reg [⟨some 39, .mov (.t 5), none⟩,
 ⟨some 4, .mov (.t 39), none⟩] []) <|
 .keep [4] [[13]]) <|
 .ret, [.t 4]⟩

end Go.AM

set_option maxRecDepth 100000
namespace Go.AM
open Go Go.Proofs

def ft : Nat → Option CF
  | 4 => some gantrylaw06_PolyDivisors
  | 6 => some gantryref06_Poly
  | 7 => some gantryref01_Around
  | 8 => some poly_Trim
  | 9 => some gantryref06_Same
  | 10 => some poly_Degree
  | 11 => some poly_Valid
  | 13 => some gantrylaw06_lives
  | 14 => some poly_Gcd
  | 15 => some poly_Div
  | 16 => some poly_Mul
  | 17 => some gantrylaw06_is
  | 18 => some gantryref06_Monic
  | 19 => some poly_Free
  | 20 => some poly_Derive
  | 21 => some gantryref06_Small
  | 23 => some poly_Shift
  | 24 => some rat_Add
  | 26 => some poly_Eval
  | 27 => some gantryref01_At
  | 28 => some gantryref06_Trim
  | 29 => some gantryref05_Of
  | 30 => some gantryref05_Neg
  | 31 => some gantryref06_Mul
  | 32 => some rat_Sign
  | 33 => some slices_Clone_api_Poly_api_Rat
  | 34 => some gantryref05_Same
  | 35 => some slices_ContainsFunc_api_Poly_api_Rat
  | 36 => some poly_Valid_1
  | 37 => some rat_Valid
  | 39 => some gantryref05_Sign
  | 40 => some gantrylaw06_of
  | 41 => some poly_monic
  | 42 => some rat_Div
  | 43 => some rat_Sub
  | 44 => some rat_Mul
  | 45 => some poly_made
  | 46 => some poly_Mul_1
  | 47 => some gantryref06_Scale
  | 48 => some gantryref05_Div
  | 49 => some poly_Derive_1
  | 50 => some rat_Of
  | 53 => some integer_Add
  | 54 => some rat_Den
  | 55 => some rat_Make
  | 56 => some integer_Mul
  | 59 => some slices_Backward_api_Poly_api_Rat
  | 60 => some gantryref05_Make
  | 61 => some gantryref04_Of
  | 62 => some gantryref04_Neg
  | 63 => some gantryref05_Add
  | 64 => some gantryref05_Mul
  | 65 => some integer_Sign
  | 66 => some gantryref04_Same
  | 67 => some slices_IndexFunc_api_Poly_api_Rat
  | 68 => some integer_Valid
  | 69 => some rat_unit
  | 70 => some integer_Gcd
  | 72 => some gantryref05_one
  | 73 => some gantryref04_Gcd
  | 74 => some gantryref04_Sign
  | 75 => some poly_Scale
  | 76 => some rat_lowest
  | 77 => some rat_Neg
  | 78 => some gantryref04_Mul
  | 79 => some gantryref05_Den
  | 80 => some integer_Of
  | 81 => some integer_of
  | 82 => some integer_plus
  | 83 => some integer_compare
  | 84 => some integer_minus
  | 85 => some rat_one
  | 86 => some integer_Div
  | 87 => some integer_unsigned
  | 88 => some slices_Backward_api_Poly_api_Rat_1
  | 89 => some gantryref04_Div
  | 90 => some gantryref04_normal
  | 91 => some gantryref04_Add
  | 92 => some slices_ContainsFunc_int_int
  | 93 => some integer_Valid_1
  | 94 => some integer_two
  | 95 => some integer_divide
  | 96 => some gantryref04_tiny
  | 97 => some gantryref04_Compare
  | 98 => some poly_Scale_1
  | 99 => some integer_Neg
  | 100 => some cmp_Compare_int
  | 101 => some gantryref04_divided
  | 102 => some gantryref04_minus
  | 103 => some gantryref04_plus
  | 104 => some gantryref04_compared
  | 105 => some slices_IndexFunc_int_int
  | 106 => some integer_short
  | 107 => some integer_long
  | 108 => some gantryref04_digit
  | 109 => some cmp_isNaN_int
  | 110 => some gantryref04_times
  | 111 => some integer_scaled
  | _ => none
theorem gantrylaw06_PolyDivisors_c : compF Try.prog Try.f4 = some gantrylaw06_PolyDivisors.er := by kernel_rfl
theorem gantryref06_Poly_c : compF Try.prog Try.f6 = some gantryref06_Poly.er := by kernel_rfl
theorem gantryref01_Around_c : compF Try.prog Try.f7 = some gantryref01_Around.er := by kernel_rfl
theorem poly_Trim_c : compF Try.prog Try.f8 = some poly_Trim.er := by kernel_rfl
theorem gantryref06_Same_c : compF Try.prog Try.f9 = some gantryref06_Same.er := by kernel_rfl
theorem poly_Degree_c : compF Try.prog Try.f10 = some poly_Degree.er := by kernel_rfl
theorem poly_Valid_c : compF Try.prog Try.f11 = some poly_Valid.er := by kernel_rfl
theorem gantrylaw06_lives_c : compF Try.prog Try.f13 = some gantrylaw06_lives.er := by kernel_rfl
theorem poly_Gcd_c : compF Try.prog Try.f14 = some poly_Gcd.er := by kernel_rfl
theorem poly_Div_c : compF Try.prog Try.f15 = some poly_Div.er := by kernel_rfl
theorem poly_Mul_c : compF Try.prog Try.f16 = some poly_Mul.er := by kernel_rfl
theorem gantrylaw06_is_c : compF Try.prog Try.f17 = some gantrylaw06_is.er := by kernel_rfl
theorem gantryref06_Monic_c : compF Try.prog Try.f18 = some gantryref06_Monic.er := by kernel_rfl
theorem poly_Free_c : compF Try.prog Try.f19 = some poly_Free.er := by kernel_rfl
theorem poly_Derive_c : compF Try.prog Try.f20 = some poly_Derive.er := by kernel_rfl
theorem gantryref06_Small_c : compF Try.prog Try.f21 = some gantryref06_Small.er := by kernel_rfl
theorem poly_Shift_c : compF Try.prog Try.f23 = some poly_Shift.er := by kernel_rfl
theorem rat_Add_c : compF Try.prog Try.f24 = some rat_Add.er := by kernel_rfl
theorem poly_Eval_c : compF Try.prog Try.f26 = some poly_Eval.er := by kernel_rfl
theorem gantryref01_At_c : compF Try.prog Try.f27 = some gantryref01_At.er := by kernel_rfl
theorem gantryref06_Trim_c : compF Try.prog Try.f28 = some gantryref06_Trim.er := by kernel_rfl
theorem gantryref05_Of_c : compF Try.prog Try.f29 = some gantryref05_Of.er := by kernel_rfl
theorem gantryref05_Neg_c : compF Try.prog Try.f30 = some gantryref05_Neg.er := by kernel_rfl
theorem gantryref06_Mul_c : compF Try.prog Try.f31 = some gantryref06_Mul.er := by kernel_rfl
theorem rat_Sign_c : compF Try.prog Try.f32 = some rat_Sign.er := by kernel_rfl
theorem slices_Clone_api_Poly_api_Rat_c : compF Try.prog Try.f33 = some slices_Clone_api_Poly_api_Rat.er := by kernel_rfl
theorem gantryref05_Same_c : compF Try.prog Try.f34 = some gantryref05_Same.er := by kernel_rfl
theorem slices_ContainsFunc_api_Poly_api_Rat_c : compF Try.prog Try.f35 = some slices_ContainsFunc_api_Poly_api_Rat.er := by kernel_rfl
theorem poly_Valid_1_c : compF Try.prog Try.f36 = some poly_Valid_1.er := by kernel_rfl
theorem rat_Valid_c : compF Try.prog Try.f37 = some rat_Valid.er := by kernel_rfl
theorem gantryref05_Sign_c : compF Try.prog Try.f39 = some gantryref05_Sign.er := by kernel_rfl
theorem gantrylaw06_of_c : compF Try.prog Try.f40 = some gantrylaw06_of.er := by kernel_rfl
theorem poly_monic_c : compF Try.prog Try.f41 = some poly_monic.er := by kernel_rfl
theorem rat_Div_c : compF Try.prog Try.f42 = some rat_Div.er := by kernel_rfl
theorem rat_Sub_c : compF Try.prog Try.f43 = some rat_Sub.er := by kernel_rfl
theorem rat_Mul_c : compF Try.prog Try.f44 = some rat_Mul.er := by kernel_rfl
theorem poly_made_c : compF Try.prog Try.f45 = some poly_made.er := by kernel_rfl
theorem poly_Mul_1_c : compF Try.prog Try.f46 = some poly_Mul_1.er := by kernel_rfl
theorem gantryref06_Scale_c : compF Try.prog Try.f47 = some gantryref06_Scale.er := by kernel_rfl
theorem gantryref05_Div_c : compF Try.prog Try.f48 = some gantryref05_Div.er := by kernel_rfl
theorem poly_Derive_1_c : compF Try.prog Try.f49 = some poly_Derive_1.er := by kernel_rfl
theorem rat_Of_c : compF Try.prog Try.f50 = some rat_Of.er := by kernel_rfl
theorem integer_Add_c : compF Try.prog Try.f53 = some integer_Add.er := by kernel_rfl
theorem rat_Den_c : compF Try.prog Try.f54 = some rat_Den.er := by kernel_rfl
theorem rat_Make_c : compF Try.prog Try.f55 = some rat_Make.er := by kernel_rfl
theorem integer_Mul_c : compF Try.prog Try.f56 = some integer_Mul.er := by kernel_rfl
theorem slices_Backward_api_Poly_api_Rat_c : compF Try.prog Try.f59 = some slices_Backward_api_Poly_api_Rat.er := by kernel_rfl
theorem gantryref05_Make_c : compF Try.prog Try.f60 = some gantryref05_Make.er := by kernel_rfl
theorem gantryref04_Of_c : compF Try.prog Try.f61 = some gantryref04_Of.er := by kernel_rfl
theorem gantryref04_Neg_c : compF Try.prog Try.f62 = some gantryref04_Neg.er := by kernel_rfl
theorem gantryref05_Add_c : compF Try.prog Try.f63 = some gantryref05_Add.er := by kernel_rfl
theorem gantryref05_Mul_c : compF Try.prog Try.f64 = some gantryref05_Mul.er := by kernel_rfl
theorem integer_Sign_c : compF Try.prog Try.f65 = some integer_Sign.er := by kernel_rfl
theorem gantryref04_Same_c : compF Try.prog Try.f66 = some gantryref04_Same.er := by kernel_rfl
theorem slices_IndexFunc_api_Poly_api_Rat_c : compF Try.prog Try.f67 = some slices_IndexFunc_api_Poly_api_Rat.er := by kernel_rfl
theorem integer_Valid_c : compF Try.prog Try.f68 = some integer_Valid.er := by kernel_rfl
theorem rat_unit_c : compF Try.prog Try.f69 = some rat_unit.er := by kernel_rfl
theorem integer_Gcd_c : compF Try.prog Try.f70 = some integer_Gcd.er := by kernel_rfl
theorem gantryref05_one_c : compF Try.prog Try.f72 = some gantryref05_one.er := by kernel_rfl
theorem gantryref04_Gcd_c : compF Try.prog Try.f73 = some gantryref04_Gcd.er := by kernel_rfl
theorem gantryref04_Sign_c : compF Try.prog Try.f74 = some gantryref04_Sign.er := by kernel_rfl
theorem poly_Scale_c : compF Try.prog Try.f75 = some poly_Scale.er := by kernel_rfl
theorem rat_lowest_c : compF Try.prog Try.f76 = some rat_lowest.er := by kernel_rfl
theorem rat_Neg_c : compF Try.prog Try.f77 = some rat_Neg.er := by kernel_rfl
theorem gantryref04_Mul_c : compF Try.prog Try.f78 = some gantryref04_Mul.er := by kernel_rfl
theorem gantryref05_Den_c : compF Try.prog Try.f79 = some gantryref05_Den.er := by kernel_rfl
theorem integer_Of_c : compF Try.prog Try.f80 = some integer_Of.er := by kernel_rfl
theorem integer_of_c : compF Try.prog Try.f81 = some integer_of.er := by kernel_rfl
theorem integer_plus_c : compF Try.prog Try.f82 = some integer_plus.er := by kernel_rfl
theorem integer_compare_c : compF Try.prog Try.f83 = some integer_compare.er := by kernel_rfl
theorem integer_minus_c : compF Try.prog Try.f84 = some integer_minus.er := by kernel_rfl
theorem rat_one_c : compF Try.prog Try.f85 = some rat_one.er := by kernel_rfl
theorem integer_Div_c : compF Try.prog Try.f86 = some integer_Div.er := by kernel_rfl
theorem integer_unsigned_c : compF Try.prog Try.f87 = some integer_unsigned.er := by kernel_rfl
theorem slices_Backward_api_Poly_api_Rat_1_c : compF Try.prog Try.f88 = some slices_Backward_api_Poly_api_Rat_1.er := by kernel_rfl
theorem gantryref04_Div_c : compF Try.prog Try.f89 = some gantryref04_Div.er := by kernel_rfl
theorem gantryref04_normal_c : compF Try.prog Try.f90 = some gantryref04_normal.er := by kernel_rfl
theorem gantryref04_Add_c : compF Try.prog Try.f91 = some gantryref04_Add.er := by kernel_rfl
theorem slices_ContainsFunc_int_int_c : compF Try.prog Try.f92 = some slices_ContainsFunc_int_int.er := by kernel_rfl
theorem integer_Valid_1_c : compF Try.prog Try.f93 = some integer_Valid_1.er := by kernel_rfl
theorem integer_two_c : compF Try.prog Try.f94 = some integer_two.er := by kernel_rfl
theorem integer_divide_c : compF Try.prog Try.f95 = some integer_divide.er := by kernel_rfl
theorem gantryref04_tiny_c : compF Try.prog Try.f96 = some gantryref04_tiny.er := by kernel_rfl
theorem gantryref04_Compare_c : compF Try.prog Try.f97 = some gantryref04_Compare.er := by kernel_rfl
theorem poly_Scale_1_c : compF Try.prog Try.f98 = some poly_Scale_1.er := by kernel_rfl
theorem integer_Neg_c : compF Try.prog Try.f99 = some integer_Neg.er := by kernel_rfl
theorem cmp_Compare_int_c : compF Try.prog Try.f100 = some cmp_Compare_int.er := by kernel_rfl
theorem gantryref04_divided_c : compF Try.prog Try.f101 = some gantryref04_divided.er := by kernel_rfl
theorem gantryref04_minus_c : compF Try.prog Try.f102 = some gantryref04_minus.er := by kernel_rfl
theorem gantryref04_plus_c : compF Try.prog Try.f103 = some gantryref04_plus.er := by kernel_rfl
theorem gantryref04_compared_c : compF Try.prog Try.f104 = some gantryref04_compared.er := by kernel_rfl
theorem slices_IndexFunc_int_int_c : compF Try.prog Try.f105 = some slices_IndexFunc_int_int.er := by kernel_rfl
theorem integer_short_c : compF Try.prog Try.f106 = some integer_short.er := by kernel_rfl
theorem integer_long_c : compF Try.prog Try.f107 = some integer_long.er := by kernel_rfl
theorem gantryref04_digit_c : compF Try.prog Try.f108 = some gantryref04_digit.er := by kernel_rfl
theorem cmp_isNaN_int_c : compF Try.prog Try.f109 = some cmp_isNaN_int.er := by kernel_rfl
theorem gantryref04_times_c : compF Try.prog Try.f110 = some gantryref04_times.er := by kernel_rfl
theorem integer_scaled_c : compF Try.prog Try.f111 = some integer_scaled.er := by kernel_rfl
theorem ft_ok : ∀ f cf, ft f = some cf → ∃ fn L, Try.prog.funcs[f]? = some fn ∧ compF Try.prog fn = some cf.er ∧ InlOk Try.prog L cf.body ∧ (L = [] ∨ ∀ b, fn.body = some b → okI L b = true) := by
  intro f cf h
  unfold ft at h
  split at h
  · cases h; exact ⟨_, [], Try.func4, gantrylaw06_PolyDivisors_c, noInl_ok (by kernel_rfl), .inl rfl⟩
  · cases h; exact ⟨_, [], Try.func6, gantryref06_Poly_c, noInl_ok (by kernel_rfl), .inl rfl⟩
  · cases h; exact ⟨_, [], Try.func7, gantryref01_Around_c, noInl_ok (by kernel_rfl), .inl rfl⟩
  · cases h; exact ⟨_, [], Try.func8, poly_Trim_c, noInl_ok (by kernel_rfl), .inl rfl⟩
  · cases h; exact ⟨_, [], Try.func9, gantryref06_Same_c, noInl_ok (by kernel_rfl), .inl rfl⟩
  · cases h; exact ⟨_, [], Try.func10, poly_Degree_c, noInl_ok (by kernel_rfl), .inl rfl⟩
  · cases h; exact ⟨_, [], Try.func11, poly_Valid_c, noInl_ok (by kernel_rfl), .inl rfl⟩
  · cases h; exact ⟨_, [], Try.func13, gantrylaw06_lives_c, noInl_ok (by kernel_rfl), .inl rfl⟩
  · cases h; exact ⟨_, [], Try.func14, poly_Gcd_c, noInl_ok (by kernel_rfl), .inl rfl⟩
  · cases h; exact ⟨_, [], Try.func15, poly_Div_c, noInl_ok (by kernel_rfl), .inl rfl⟩
  · cases h; exact ⟨_, [], Try.func16, poly_Mul_c, noInl_ok (by kernel_rfl), .inl rfl⟩
  · cases h; exact ⟨_, [], Try.func17, gantrylaw06_is_c, noInl_ok (by kernel_rfl), .inl rfl⟩
  · cases h; exact ⟨_, [], Try.func18, gantryref06_Monic_c, noInl_ok (by kernel_rfl), .inl rfl⟩
  · cases h; exact ⟨_, [], Try.func19, poly_Free_c, noInl_ok (by kernel_rfl), .inl rfl⟩
  · cases h; exact ⟨_, [], Try.func20, poly_Derive_c, noInl_ok (by kernel_rfl), .inl rfl⟩
  · cases h; exact ⟨_, [], Try.func21, gantryref06_Small_c, noInl_ok (by kernel_rfl), .inl rfl⟩
  · cases h; exact ⟨_, [], Try.func23, poly_Shift_c, noInl_ok (by kernel_rfl), .inl rfl⟩
  · cases h; exact ⟨_, [], Try.func24, rat_Add_c, noInl_ok (by kernel_rfl), .inl rfl⟩
  · cases h; exact ⟨_, [], Try.func26, poly_Eval_c, noInl_ok (by kernel_rfl), .inl rfl⟩
  · cases h; exact ⟨_, [], Try.func27, gantryref01_At_c, noInl_ok (by kernel_rfl), .inl rfl⟩
  · cases h; exact ⟨_, [], Try.func28, gantryref06_Trim_c, noInl_ok (by kernel_rfl), .inl rfl⟩
  · cases h; exact ⟨_, [], Try.func29, gantryref05_Of_c, noInl_ok (by kernel_rfl), .inl rfl⟩
  · cases h; exact ⟨_, [], Try.func30, gantryref05_Neg_c, noInl_ok (by kernel_rfl), .inl rfl⟩
  · cases h; exact ⟨_, [], Try.func31, gantryref06_Mul_c, noInl_ok (by kernel_rfl), .inl rfl⟩
  · cases h; exact ⟨_, [], Try.func32, rat_Sign_c, noInl_ok (by kernel_rfl), .inl rfl⟩
  · cases h; exact ⟨_, [], Try.func33, slices_Clone_api_Poly_api_Rat_c, noInl_ok (by kernel_rfl), .inl rfl⟩
  · cases h; exact ⟨_, [], Try.func34, gantryref05_Same_c, noInl_ok (by kernel_rfl), .inl rfl⟩
  · cases h; exact ⟨_, [], Try.func35, slices_ContainsFunc_api_Poly_api_Rat_c, noInl_ok (by kernel_rfl), .inl rfl⟩
  · cases h; exact ⟨_, [], Try.func36, poly_Valid_1_c, noInl_ok (by kernel_rfl), .inl rfl⟩
  · cases h; exact ⟨_, [], Try.func37, rat_Valid_c, noInl_ok (by kernel_rfl), .inl rfl⟩
  · cases h; exact ⟨_, [], Try.func39, gantryref05_Sign_c, noInl_ok (by kernel_rfl), .inl rfl⟩
  · cases h; exact ⟨_, [], Try.func40, gantrylaw06_of_c, noInl_ok (by kernel_rfl), .inl rfl⟩
  · cases h; exact ⟨_, [], Try.func41, poly_monic_c, noInl_ok (by kernel_rfl), .inl rfl⟩
  · cases h; exact ⟨_, [], Try.func42, rat_Div_c, noInl_ok (by kernel_rfl), .inl rfl⟩
  · cases h; exact ⟨_, [], Try.func43, rat_Sub_c, noInl_ok (by kernel_rfl), .inl rfl⟩
  · cases h; exact ⟨_, [], Try.func44, rat_Mul_c, noInl_ok (by kernel_rfl), .inl rfl⟩
  · cases h; exact ⟨_, [], Try.func45, poly_made_c, noInl_ok (by kernel_rfl), .inl rfl⟩
  · cases h; exact ⟨_, [], Try.func46, poly_Mul_1_c, noInl_ok (by kernel_rfl), .inl rfl⟩
  · cases h; exact ⟨_, [], Try.func47, gantryref06_Scale_c, noInl_ok (by kernel_rfl), .inl rfl⟩
  · cases h; exact ⟨_, [], Try.func48, gantryref05_Div_c, noInl_ok (by kernel_rfl), .inl rfl⟩
  · cases h; exact ⟨_, [], Try.func49, poly_Derive_1_c, noInl_ok (by kernel_rfl), .inl rfl⟩
  · cases h; exact ⟨_, [], Try.func50, rat_Of_c, noInl_ok (by kernel_rfl), .inl rfl⟩
  · cases h; exact ⟨_, [], Try.func53, integer_Add_c, noInl_ok (by kernel_rfl), .inl rfl⟩
  · cases h; exact ⟨_, [], Try.func54, rat_Den_c, noInl_ok (by kernel_rfl), .inl rfl⟩
  · cases h; exact ⟨_, [], Try.func55, rat_Make_c, noInl_ok (by kernel_rfl), .inl rfl⟩
  · cases h; exact ⟨_, [], Try.func56, integer_Mul_c, noInl_ok (by kernel_rfl), .inl rfl⟩
  · cases h; exact ⟨_, [], Try.func59, slices_Backward_api_Poly_api_Rat_c, noInl_ok (by kernel_rfl), .inl rfl⟩
  · cases h; exact ⟨_, [], Try.func60, gantryref05_Make_c, noInl_ok (by kernel_rfl), .inl rfl⟩
  · cases h; exact ⟨_, [], Try.func61, gantryref04_Of_c, noInl_ok (by kernel_rfl), .inl rfl⟩
  · cases h; exact ⟨_, [], Try.func62, gantryref04_Neg_c, noInl_ok (by kernel_rfl), .inl rfl⟩
  · cases h; exact ⟨_, [], Try.func63, gantryref05_Add_c, noInl_ok (by kernel_rfl), .inl rfl⟩
  · cases h; exact ⟨_, [], Try.func64, gantryref05_Mul_c, noInl_ok (by kernel_rfl), .inl rfl⟩
  · cases h; exact ⟨_, [], Try.func65, integer_Sign_c, noInl_ok (by kernel_rfl), .inl rfl⟩
  · cases h; exact ⟨_, [], Try.func66, gantryref04_Same_c, noInl_ok (by kernel_rfl), .inl rfl⟩
  · cases h; exact ⟨_, [], Try.func67, slices_IndexFunc_api_Poly_api_Rat_c, noInl_ok (by kernel_rfl), .inl rfl⟩
  · cases h; exact ⟨_, [], Try.func68, integer_Valid_c, noInl_ok (by kernel_rfl), .inl rfl⟩
  · cases h; exact ⟨_, [], Try.func69, rat_unit_c, noInl_ok (by kernel_rfl), .inl rfl⟩
  · cases h; exact ⟨_, [], Try.func70, integer_Gcd_c, noInl_ok (by kernel_rfl), .inl rfl⟩
  · cases h; exact ⟨_, [], Try.func72, gantryref05_one_c, noInl_ok (by kernel_rfl), .inl rfl⟩
  · cases h; exact ⟨_, [], Try.func73, gantryref04_Gcd_c, noInl_ok (by kernel_rfl), .inl rfl⟩
  · cases h; exact ⟨_, [], Try.func74, gantryref04_Sign_c, noInl_ok (by kernel_rfl), .inl rfl⟩
  · cases h; exact ⟨_, [], Try.func75, poly_Scale_c, noInl_ok (by kernel_rfl), .inl rfl⟩
  · cases h; exact ⟨_, [], Try.func76, rat_lowest_c, noInl_ok (by kernel_rfl), .inl rfl⟩
  · cases h; exact ⟨_, [], Try.func77, rat_Neg_c, noInl_ok (by kernel_rfl), .inl rfl⟩
  · cases h; exact ⟨_, [], Try.func78, gantryref04_Mul_c, noInl_ok (by kernel_rfl), .inl rfl⟩
  · cases h; exact ⟨_, [], Try.func79, gantryref05_Den_c, noInl_ok (by kernel_rfl), .inl rfl⟩
  · cases h; exact ⟨_, [], Try.func80, integer_Of_c, noInl_ok (by kernel_rfl), .inl rfl⟩
  · cases h; exact ⟨_, [], Try.func81, integer_of_c, noInl_ok (by kernel_rfl), .inl rfl⟩
  · cases h; exact ⟨_, [], Try.func82, integer_plus_c, noInl_ok (by kernel_rfl), .inl rfl⟩
  · cases h; exact ⟨_, [], Try.func83, integer_compare_c, noInl_ok (by kernel_rfl), .inl rfl⟩
  · cases h; exact ⟨_, [], Try.func84, integer_minus_c, noInl_ok (by kernel_rfl), .inl rfl⟩
  · cases h; exact ⟨_, [], Try.func85, rat_one_c, noInl_ok (by kernel_rfl), .inl rfl⟩
  · cases h; exact ⟨_, [], Try.func86, integer_Div_c, noInl_ok (by kernel_rfl), .inl rfl⟩
  · cases h; exact ⟨_, [], Try.func87, integer_unsigned_c, noInl_ok (by kernel_rfl), .inl rfl⟩
  · cases h; exact ⟨_, [], Try.func88, slices_Backward_api_Poly_api_Rat_1_c, noInl_ok (by kernel_rfl), .inl rfl⟩
  · cases h; exact ⟨_, [], Try.func89, gantryref04_Div_c, noInl_ok (by kernel_rfl), .inl rfl⟩
  · cases h; exact ⟨_, [], Try.func90, gantryref04_normal_c, noInl_ok (by kernel_rfl), .inl rfl⟩
  · cases h; exact ⟨_, [], Try.func91, gantryref04_Add_c, noInl_ok (by kernel_rfl), .inl rfl⟩
  · cases h; exact ⟨_, [], Try.func92, slices_ContainsFunc_int_int_c, noInl_ok (by kernel_rfl), .inl rfl⟩
  · cases h; exact ⟨_, [], Try.func93, integer_Valid_1_c, noInl_ok (by kernel_rfl), .inl rfl⟩
  · cases h; exact ⟨_, [], Try.func94, integer_two_c, noInl_ok (by kernel_rfl), .inl rfl⟩
  · cases h; exact ⟨_, [], Try.func95, integer_divide_c, noInl_ok (by kernel_rfl), .inl rfl⟩
  · cases h; exact ⟨_, [], Try.func96, gantryref04_tiny_c, noInl_ok (by kernel_rfl), .inl rfl⟩
  · cases h; exact ⟨_, [], Try.func97, gantryref04_Compare_c, noInl_ok (by kernel_rfl), .inl rfl⟩
  · cases h; exact ⟨_, [], Try.func98, poly_Scale_1_c, noInl_ok (by kernel_rfl), .inl rfl⟩
  · cases h; exact ⟨_, [], Try.func99, integer_Neg_c, noInl_ok (by kernel_rfl), .inl rfl⟩
  · cases h; exact ⟨_, [], Try.func100, cmp_Compare_int_c, noInl_ok (by kernel_rfl), .inl rfl⟩
  · cases h; exact ⟨_, [], Try.func101, gantryref04_divided_c, noInl_ok (by kernel_rfl), .inl rfl⟩
  · cases h; exact ⟨_, [], Try.func102, gantryref04_minus_c, noInl_ok (by kernel_rfl), .inl rfl⟩
  · cases h; exact ⟨_, [], Try.func103, gantryref04_plus_c, noInl_ok (by kernel_rfl), .inl rfl⟩
  · cases h; exact ⟨_, [], Try.func104, gantryref04_compared_c, noInl_ok (by kernel_rfl), .inl rfl⟩
  · cases h; exact ⟨_, [], Try.func105, slices_IndexFunc_int_int_c, noInl_ok (by kernel_rfl), .inl rfl⟩
  · cases h; exact ⟨_, [], Try.func106, integer_short_c, noInl_ok (by kernel_rfl), .inl rfl⟩
  · cases h; exact ⟨_, [], Try.func107, integer_long_c, noInl_ok (by kernel_rfl), .inl rfl⟩
  · cases h; exact ⟨_, [], Try.func108, gantryref04_digit_c, noInl_ok (by kernel_rfl), .inl rfl⟩
  · cases h; exact ⟨_, [], Try.func109, cmp_isNaN_int_c, noInl_ok (by kernel_rfl), .inl rfl⟩
  · cases h; exact ⟨_, [], Try.func110, gantryref04_times_c, noInl_ok (by kernel_rfl), .inl rfl⟩
  · cases h; exact ⟨_, [], Try.func111, integer_scaled_c, noInl_ok (by kernel_rfl), .inl rfl⟩
  · cases h
end Go.AM

/- The seat's functions, and that their small texts are theirs. -/
namespace Go.AM
open Go Go.Proofs
/-- What the seat's iterators yield. -/
class Its where
  it : Nat → List D → Option (List (List D))
  orc : Nat → List D → Option R := fun _ _ => none
abbrev noIts : Its := { it := fun _ _ => none }
def G [Its] : Env := ⟨ft, Its.orc, Its.it⟩
theorem env_okO [Its] (h : ∀ f ds xs, Its.it f ds = some xs → ItOk Try.prog f ds xs) (ho : ∀ f ds r, ft f = none → Its.orc f ds = some r → CallOk Try.prog f ds r) : EnvOk Try.prog G := ⟨by kernel_rfl, ft_ok, ho, h⟩
theorem env_ok [Its] (h : ∀ f ds xs, Its.it f ds = some xs → ItOk Try.prog f ds xs) (h0 : ∀ f ds, (Its.orc f ds : Option R) = none := by intros; rfl) : EnvOk Try.prog G := env_okO h fun f ds r _ h => by rw [h0] at h; cases h
theorem env_ok0 : EnvOk Try.prog (@G noIts) := @env_ok noIts (fun _ _ _ h => by cases h) (fun _ _ => rfl)
end Go.AM

