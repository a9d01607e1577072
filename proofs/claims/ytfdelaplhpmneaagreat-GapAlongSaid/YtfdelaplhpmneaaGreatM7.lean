/- Part 7 of the proof: a small machine, its soundness against the model, and what the program's functions compute on it. -/
import Derived.Test.YtfdelaplhpmneaaGreatM6
import Derived.Test.YtfdelaplhpmneaaGreatProg
import Derived.KernelRfl
import Derived.Test.YtfdelaplhpmneaaGreatM3
import Derived.Test.YtfdelaplhpmneaaGreatM0
import Derived.RowKit
set_option linter.unusedVariables false
set_option linter.unusedSimpArgs false
set_option maxRecDepth 100000
namespace Go.AM
open Go Go.Proofs


def sturm_Changes_l0 : C :=
 .seq (.seq (.seq (.reg [⟨some 13, .bin .lss (.t 12) (.t 11), none⟩] []) <|
 .keep [3, 5, 6, 10, 11, 12, 13] [[3]]) <|
 .seq (.cond (.t 13) (.skip) <|
 .seq (.keep [5] []) <|
 .exit 0) <|
 .seq (.seq (.blk 1 <|
 .seq (.seq (.reg [⟨some 14, .ixa 1 (.t 10) (.t 12), none⟩,
 ⟨some 15, .load none (.t 14), none⟩,
 ⟨some 8, .mov (.t 15), none⟩] []) <|
 .keep [3, 5, 6, 8, 10, 11, 12] [[3]]) <|
 .seq (.seq (.reg [⟨some 16, .mov (.t 8), none⟩,
 ⟨some 17, .load (some 4) (.t 3), none⟩,
 ⟨some 18, .call n_poly_Eval [(.t 16), (.t 17)] false, none⟩,
 ⟨some 19, .call n_rat_Sign [(.t 18)] false, none⟩,
 ⟨some 9, .mov (.t 19), none⟩] []) <|
 .keep [3, 5, 6, 9, 10, 11, 12] [[3]]) <|
 .seq (.seq (.reg [⟨some 20, .mov (.t 9), none⟩,
 ⟨some 21, .bin .neq (.t 20) (.c (.v (.int .i64 0))), none⟩] []) <|
 .keep [3, 5, 6, 9, 10, 11, 12, 21] [[3]]) <|
 .cond (.t 21) (.seq (.seq (.seq (.reg [⟨some 22, .mov (.t 9), none⟩,
 ⟨some 23, .mov (.t 6), none⟩,
 ⟨some 24, .un .neg (.t 23), none⟩,
 ⟨some 25, .bin .eql (.t 22) (.t 24), none⟩] []) <|
 .keep [3, 5, 9, 10, 11, 12, 25] [[3]]) <|
 .cond (.t 25) (.seq (.reg [⟨some 26, .mov (.t 5), none⟩,
 ⟨some 27, .bin .add (.t 26) (.c (.v (.int .i64 1))), none⟩,
 ⟨some 5, .mov (.t 27), none⟩] []) <|
 .keep [3, 5, 9, 10, 11, 12] [[3]]) <|
 .skip) <|
 .seq (.reg [⟨some 28, .mov (.t 9), none⟩,
 ⟨some 6, .mov (.t 28), none⟩] []) <|
 .keep [3, 5, 6, 10, 11, 12] [[3]]) <|
 .skip) <|
 .keep [3, 5, 6, 10, 11, 12] [[3]]) <|
 .seq (.reg [⟨some 29, .bin .add (.t 12) (.c (.v (.int .i64 1))), none⟩,
 ⟨some 12, .mov (.t 29), none⟩] []) <|
 .keep [3, 5, 6, 10, 11, 12] [[3]]) <|
 .keep [3, 5, 6, 10, 11, 12] [[3]]
def sturm_Changes : CF := ⟨2, .seq (.seq (.reg [⟨some 3, .box (.t 1), none⟩,
 ⟨some 4, .mov (.c (.v (.int .i64 0))), none⟩] []) <|
 .keep [0, 3] [[3]]) <|
 .seq (.seq (.reg [⟨some 5, .mov (.c (.v (.int .i64 0))), none⟩,
 ⟨some 6, .mov (.c (.v (.int .i64 0))), none⟩] []) <|
 .keep [0, 3, 5, 6] [[3]]) <|
 .seq (.seq (.seq (.reg [⟨some 10, .mov (.t 0), none⟩,
 ⟨some 11, .len (.t 10), none⟩,
 ⟨some 12, .mov (.c (.v (.int .i64 0))), none⟩] []) <|
 .keep [3, 5, 6, 10, 11, 12] [[3]]) <|
 .seq (.blk 0 <|
 .seq (.keep [3, 5, 6, 10, 11, 12] [[3]]) <|
 .loop sturm_Changes_l0) <|
 .keep [5] []) <|
 .seq (.seq (.reg [⟨some 30, .mov (.t 5), none⟩,
 ⟨some 4, .mov (.t 30), none⟩] []) <|
 .keep [4] []) <|
 .ret, [.t 4]⟩

def sturm_next : CF := ⟨2, .seq (.seq (.reg [⟨some 4, .mov (.c (.z true)), none⟩] []) <|
 .keep [0, 1] []) <|
 .seq (.seq (.reg [⟨some 8, .mov (.t 0), none⟩,
 ⟨some 9, .mov (.t 1), none⟩,
 ⟨some 10, .call n_poly_Div [(.t 8), (.t 9)] false, none⟩,
 ⟨some 7, .mov (.t 10), none⟩,
 ⟨some 11, .ext (.t 7) 0, none⟩,
 ⟨some 12, .ext (.t 7) 1, none⟩,
 ⟨some 5, .mov (.t 11), none⟩,
 ⟨some 6, .mov (.t 12), none⟩] []) <|
 .keep [6] []) <|
 .seq (.seq (.reg [⟨some 13, .mov (.t 6), none⟩,
 ⟨some 14, .call n_rat_Of [(.c (.v (.int .i64 (-1)))), (.c (.v (.int .i64 1)))] false, none⟩,
 ⟨some 15, .call n_poly_Scale [(.t 13), (.t 14)] false, none⟩,
 ⟨some 4, .mov (.t 15), none⟩] []) <|
 .keep [4] []) <|
 .ret, [.t 4]⟩

def gantryref04_digit : CF := ⟨2, .seq (.seq (.reg [⟨some 4, .mov (.c (.v (.int .i64 0))), none⟩] []) <|
 .keep [0, 1] []) <|
 .seq (.seq (.seq (.reg [⟨some 5, .mov (.t 1), none⟩,
 ⟨some 6, .mov (.t 0), none⟩,
 ⟨some 7, .len (.t 6), none⟩,
 ⟨some 8, .bin .lss (.t 5) (.t 7), none⟩] []) <|
 .keep [0, 1, 8] []) <|
 .cond (.t 8) (.seq (.seq (.reg [⟨some 9, .mov (.t 0), none⟩,
 ⟨some 10, .mov (.t 1), none⟩,
 ⟨some 11, .ixa 1 (.t 9) (.t 10), none⟩,
 ⟨some 12, .load none (.t 11), none⟩,
 ⟨some 4, .mov (.t 12), none⟩] []) <|
 .keep [4] []) <|
 .ret) <|
 .skip) <|
 .seq (.seq (.reg [⟨some 4, .mov (.c (.v (.int .i64 0))), none⟩] []) <|
 .keep [4] []) <|
 .ret, [.t 4]⟩

def gantryref04_times : CF := ⟨2, .seq (.seq (.reg [⟨some 4, .mov (.c (.z true)), none⟩] []) <|
 .keep [0, 1] []) <|
 .seq (.seq (.reg [⟨some 6, .mov (.t 0), none⟩,
 ⟨some 7, .call n_gantryref04_normal [(.c (.v (.bool false))), (.t 6)] false, none⟩,
 ⟨some 8, .mov (.t 1), none⟩,
 ⟨some 9, .call n_gantryref04_Of [(.t 8)] false, none⟩,
 ⟨some 10, .call n_gantryref04_Mul [(.t 7), (.t 9)] false, none⟩,
 ⟨some 5, .new [.v (.bool false), .z true], none⟩,
 ⟨none, .store 2 (.t 5) (.t 10), none⟩] []) <|
 .keep [5] [[5]]) <|
 .seq (.seq (.reg [⟨some 11, .fad 1 (.t 5), none⟩,
 ⟨some 12, .load none (.t 11), none⟩,
 ⟨some 4, .mov (.t 12), none⟩] []) <|
 .keep [4] []) <|
 .ret, [.t 4]⟩

def integer_short_l0 : C :=
 .seq (.seq (.seq (.seq (.reg [⟨some 16, .mov (.t 8), none⟩,
 ⟨some 17, .bin .geq (.t 16) (.c (.v (.int .i64 0))), none⟩] []) <|
 .keep [0, 1, 6, 7, 8, 17] [[12]]) <|
 .cond (.t 17) (.skip) <|
 .seq (.keep [6, 7] [[12]]) <|
 .exit 0) <|
 .seq (.seq (.blk 1 <|
 .seq (.seq (.reg [⟨some 20, .mov (.t 7), none⟩,
 ⟨some 21, .bin .mul (.t 20) (.c (.v (.int .i64 1000000000))), none⟩,
 ⟨some 22, .mov (.t 0), none⟩,
 ⟨some 23, .mov (.t 8), none⟩,
 ⟨some 24, .ixa 1 (.t 22) (.t 23), none⟩,
 ⟨some 25, .load none (.t 24), none⟩,
 ⟨some 26, .bin .add (.t 21) (.t 25), none⟩,
 ⟨some 9, .mov (.t 26), none⟩] []) <|
 .keep [0, 1, 6, 8, 9] [[12]]) <|
 .seq (.reg [⟨some 27, .mov (.t 6), none⟩,
 ⟨some 28, .mov (.t 8), none⟩,
 ⟨some 29, .mov (.t 9), none⟩,
 ⟨some 30, .mov (.t 1), none⟩,
 ⟨some 31, .bin .quo (.t 29) (.t 30), none⟩,
 ⟨some 32, .mov (.t 9), none⟩,
 ⟨some 33, .mov (.t 1), none⟩,
 ⟨some 34, .bin .rem (.t 32) (.t 33), none⟩,
 ⟨some 35, .ixa 1 (.t 27) (.t 28), none⟩,
 ⟨none, .store 1 (.t 35) (.t 31), none⟩,
 ⟨some 7, .mov (.t 34), none⟩] []) <|
 .keep [0, 1, 6, 7, 8] [[12]]) <|
 .keep [0, 1, 6, 7, 8] [[12]]) <|
 .seq (.reg [⟨some 18, .mov (.t 8), none⟩,
 ⟨some 19, .bin .sub (.t 18) (.c (.v (.int .i64 1))), none⟩,
 ⟨some 8, .mov (.t 19), none⟩] []) <|
 .keep [0, 1, 6, 7, 8] [[12]]) <|
 .keep [0, 1, 6, 7, 8] [[12]]
def integer_short : CF := ⟨2, .seq (.seq (.reg [⟨some 4, .mov (.c (.z true)), none⟩,
 ⟨some 5, .mov (.c (.v (.int .i64 0))), none⟩] []) <|
 .keep [0, 1] []) <|
 .seq (.seq (.reg [⟨some 10, .mov (.t 0), none⟩,
 ⟨some 11, .len (.t 10), none⟩,
 ⟨some 12, .mksl 1 8 [.v (.int .i64 0)] (.t 11) (.t 11), none⟩,
 ⟨some 6, .mov (.t 12), none⟩] []) <|
 .keep [0, 1, 6] [[12]]) <|
 .seq (.seq (.reg [⟨some 7, .mov (.c (.v (.int .i64 0))), none⟩] []) <|
 .keep [0, 1, 6, 7] [[12]]) <|
 .seq (.seq (.seq (.reg [⟨some 13, .mov (.t 0), none⟩,
 ⟨some 14, .len (.t 13), none⟩,
 ⟨some 15, .bin .sub (.t 14) (.c (.v (.int .i64 1))), none⟩,
 ⟨some 8, .mov (.t 15), none⟩] []) <|
 .keep [0, 1, 6, 7, 8] [[12]]) <|
 .seq (.blk 0 <|
 .seq (.keep [0, 1, 6, 7, 8] [[12]]) <|
 .loop integer_short_l0) <|
 .keep [6, 7] [[12]]) <|
 .seq (.seq (.reg [⟨some 36, .mov (.t 6), none⟩,
 ⟨some 37, .mov (.t 7), none⟩,
 ⟨some 4, .mov (.t 36), none⟩,
 ⟨some 5, .mov (.t 37), none⟩] []) <|
 .keep [4, 5] [[12]]) <|
 .ret, [.t 4, .t 5]⟩

def integer_long_l0 : C :=
 .seq (.seq (.seq (.seq (.reg [⟨some 84, .mov (.t 13), none⟩,
 ⟨some 85, .bin .geq (.t 84) (.c (.v (.int .i64 1000000000))), none⟩,
 ⟨some 86, .mov (.t 85), none⟩,
 ⟨some 87, .mov (.t 13), (some (86, false))⟩,
 ⟨some 88, .mov (.t 8), (some (86, false))⟩,
 ⟨some 89, .mov (.t 9), (some (86, false))⟩,
 ⟨some 90, .bin .sub (.t 89) (.c (.v (.int .i64 2))), (some (86, false))⟩,
 ⟨some 91, .ixa 1 (.t 88) (.t 90), (some (86, false))⟩,
 ⟨some 92, .load none (.t 91), (some (86, false))⟩,
 ⟨some 93, .bin .mul (.t 87) (.t 92), (some (86, false))⟩,
 ⟨some 94, .mov (.t 14), (some (86, false))⟩,
 ⟨some 95, .bin .mul (.t 94) (.c (.v (.int .i64 1000000000))), (some (86, false))⟩,
 ⟨some 96, .mov (.t 7), (some (86, false))⟩,
 ⟨some 97, .mov (.t 11), (some (86, false))⟩,
 ⟨some 98, .mov (.t 9), (some (86, false))⟩,
 ⟨some 99, .bin .add (.t 97) (.t 98), (some (86, false))⟩,
 ⟨some 100, .bin .sub (.t 99) (.c (.v (.int .i64 2))), (some (86, false))⟩,
 ⟨some 101, .ixa 1 (.t 96) (.t 100), (some (86, false))⟩,
 ⟨some 102, .load none (.t 101), (some (86, false))⟩,
 ⟨some 103, .bin .add (.t 95) (.t 102), (some (86, false))⟩,
 ⟨some 104, .bin .gtr (.t 93) (.t 103), (some (86, false))⟩,
 ⟨some 105, .pick (.t 86) (.c (.v (.bool true))) (.t 104), none⟩] []) <|
 .keep [6, 7, 8, 9, 10, 11, 13, 14, 105] [[32], [46]]) <|
 .cond (.t 105) (.skip) <|
 .seq (.keep [6, 7, 8, 9, 10, 11, 13] [[32], [46]]) <|
 .exit 2) <|
 .seq (.blk 3 <|
 .seq (.seq (.reg [⟨some 106, .mov (.t 13), none⟩,
 ⟨some 107, .bin .sub (.t 106) (.c (.v (.int .i64 1))), none⟩,
 ⟨some 13, .mov (.t 107), none⟩] []) <|
 .keep [6, 7, 8, 9, 10, 11, 13, 14] [[32], [46]]) <|
 .seq (.seq (.reg [⟨some 108, .mov (.t 14), none⟩,
 ⟨some 109, .mov (.t 8), none⟩,
 ⟨some 110, .mov (.t 9), none⟩,
 ⟨some 111, .bin .sub (.t 110) (.c (.v (.int .i64 1))), none⟩,
 ⟨some 112, .ixa 1 (.t 109) (.t 111), none⟩,
 ⟨some 113, .load none (.t 112), none⟩,
 ⟨some 114, .bin .add (.t 108) (.t 113), none⟩,
 ⟨some 14, .mov (.t 114), none⟩] []) <|
 .keep [6, 7, 8, 9, 10, 11, 13, 14] [[32], [46]]) <|
 .seq (.seq (.reg [⟨some 115, .mov (.t 14), none⟩,
 ⟨some 116, .bin .geq (.t 115) (.c (.v (.int .i64 1000000000))), none⟩] []) <|
 .keep [6, 7, 8, 9, 10, 11, 13, 14, 116] [[32], [46]]) <|
 .cond (.t 116) (.seq (.keep [6, 7, 8, 9, 10, 11, 13] [[32], [46]]) <|
 .exit 2) <|
 .skip) <|
 .keep [6, 7, 8, 9, 10, 11, 13, 14] [[32], [46]]) <|
 .keep [6, 7, 8, 9, 10, 11, 13, 14] [[32], [46]]
def integer_long_l1 : C :=
 .seq (.seq (.seq (.reg [⟨some 119, .bin .lss (.t 118) (.t 117), none⟩] []) <|
 .keep [6, 7, 8, 9, 10, 11, 13, 15, 117, 118, 119] [[32], [46]]) <|
 .seq (.cond (.t 119) (.skip) <|
 .seq (.keep [6, 7, 8, 9, 10, 11, 13, 15] [[32], [46]]) <|
 .exit 4) <|
 .seq (.seq (.blk 5 <|
 .seq (.seq (.reg [⟨some 120, .mov (.t 118), none⟩,
 ⟨some 16, .mov (.t 120), none⟩] []) <|
 .keep [6, 7, 8, 9, 10, 11, 13, 15, 16, 117, 118] [[32], [46]]) <|
 .seq (.seq (.reg [⟨some 121, .mov (.t 7), none⟩,
 ⟨some 122, .mov (.t 16), none⟩,
 ⟨some 123, .mov (.t 11), none⟩,
 ⟨some 124, .bin .add (.t 122) (.t 123), none⟩,
 ⟨some 125, .ixa 1 (.t 121) (.t 124), none⟩,
 ⟨some 126, .load none (.t 125), none⟩,
 ⟨some 127, .mov (.t 13), none⟩,
 ⟨some 128, .mov (.t 8), none⟩,
 ⟨some 129, .mov (.t 16), none⟩,
 ⟨some 130, .ixa 1 (.t 128) (.t 129), none⟩,
 ⟨some 131, .load none (.t 130), none⟩,
 ⟨some 132, .bin .mul (.t 127) (.t 131), none⟩,
 ⟨some 133, .bin .sub (.t 126) (.t 132), none⟩,
 ⟨some 134, .mov (.t 15), none⟩,
 ⟨some 135, .bin .sub (.t 133) (.t 134), none⟩,
 ⟨some 17, .mov (.t 135), none⟩] []) <|
 .keep [6, 7, 8, 9, 10, 11, 13, 16, 17, 117, 118] [[32], [46]]) <|
 .seq (.seq (.reg [⟨some 15, .mov (.c (.v (.int .i64 0))), none⟩] []) <|
 .keep [6, 7, 8, 9, 10, 11, 13, 15, 16, 17, 117, 118] [[32], [46]]) <|
 .seq (.seq (.seq (.reg [⟨some 136, .mov (.t 17), none⟩,
 ⟨some 137, .bin .lss (.t 136) (.c (.v (.int .i64 0))), none⟩] []) <|
 .keep [6, 7, 8, 9, 10, 11, 13, 15, 16, 17, 117, 118, 137] [[32], [46]]) <|
 .cond (.t 137) (.seq (.seq (.reg [⟨some 138, .mov (.t 17), none⟩,
 ⟨some 139, .un .neg (.t 138), none⟩,
 ⟨some 140, .bin .add (.t 139) (.c (.v (.int .i64 1000000000))), none⟩,
 ⟨some 141, .bin .sub (.t 140) (.c (.v (.int .i64 1))), none⟩,
 ⟨some 142, .bin .quo (.t 141) (.c (.v (.int .i64 1000000000))), none⟩,
 ⟨some 15, .mov (.t 142), none⟩] []) <|
 .keep [6, 7, 8, 9, 10, 11, 13, 15, 16, 17, 117, 118] [[32], [46]]) <|
 .seq (.reg [⟨some 143, .mov (.t 17), none⟩,
 ⟨some 144, .mov (.t 15), none⟩,
 ⟨some 145, .bin .mul (.t 144) (.c (.v (.int .i64 1000000000))), none⟩,
 ⟨some 146, .bin .add (.t 143) (.t 145), none⟩,
 ⟨some 17, .mov (.t 146), none⟩] []) <|
 .keep [6, 7, 8, 9, 10, 11, 13, 15, 16, 17, 117, 118] [[32], [46]]) <|
 .skip) <|
 .seq (.reg [⟨some 147, .mov (.t 7), none⟩,
 ⟨some 148, .mov (.t 16), none⟩,
 ⟨some 149, .mov (.t 11), none⟩,
 ⟨some 150, .bin .add (.t 148) (.t 149), none⟩,
 ⟨some 151, .mov (.t 17), none⟩,
 ⟨some 152, .ixa 1 (.t 147) (.t 150), none⟩,
 ⟨none, .store 1 (.t 152) (.t 151), none⟩] []) <|
 .keep [6, 7, 8, 9, 10, 11, 13, 15, 117, 118] [[32], [46]]) <|
 .keep [6, 7, 8, 9, 10, 11, 13, 15, 117, 118] [[32], [46]]) <|
 .seq (.reg [⟨some 153, .bin .add (.t 118) (.c (.v (.int .i64 1))), none⟩,
 ⟨some 118, .mov (.t 153), none⟩] []) <|
 .keep [6, 7, 8, 9, 10, 11, 13, 15, 117, 118] [[32], [46]]) <|
 .keep [6, 7, 8, 9, 10, 11, 13, 15, 117, 118] [[32], [46]]
def integer_long_l2 : C :=
 .seq (.seq (.seq (.reg [⟨some 174, .bin .lss (.t 173) (.t 172), none⟩] []) <|
 .keep [6, 7, 8, 9, 10, 11, 13, 15, 172, 173, 174] [[32], [46]]) <|
 .seq (.cond (.t 174) (.skip) <|
 .seq (.keep [6, 7, 8, 9, 10, 11, 13, 15] [[32], [46]]) <|
 .exit 6) <|
 .seq (.seq (.blk 7 <|
 .seq (.seq (.reg [⟨some 175, .mov (.t 173), none⟩,
 ⟨some 18, .mov (.t 175), none⟩] []) <|
 .keep [6, 7, 8, 9, 10, 11, 13, 15, 18, 172, 173] [[32], [46]]) <|
 .seq (.seq (.reg [⟨some 176, .mov (.t 7), none⟩,
 ⟨some 177, .mov (.t 18), none⟩,
 ⟨some 178, .mov (.t 11), none⟩,
 ⟨some 179, .bin .add (.t 177) (.t 178), none⟩,
 ⟨some 180, .ixa 1 (.t 176) (.t 179), none⟩,
 ⟨some 181, .load none (.t 180), none⟩,
 ⟨some 182, .mov (.t 8), none⟩,
 ⟨some 183, .mov (.t 18), none⟩,
 ⟨some 184, .ixa 1 (.t 182) (.t 183), none⟩,
 ⟨some 185, .load none (.t 184), none⟩,
 ⟨some 186, .bin .add (.t 181) (.t 185), none⟩,
 ⟨some 187, .mov (.t 15), none⟩,
 ⟨some 188, .bin .add (.t 186) (.t 187), none⟩,
 ⟨some 19, .mov (.t 188), none⟩] []) <|
 .keep [6, 7, 8, 9, 10, 11, 13, 18, 19, 172, 173] [[32], [46]]) <|
 .seq (.reg [⟨some 189, .mov (.t 7), none⟩,
 ⟨some 190, .mov (.t 18), none⟩,
 ⟨some 191, .mov (.t 11), none⟩,
 ⟨some 192, .bin .add (.t 190) (.t 191), none⟩,
 ⟨some 193, .mov (.t 19), none⟩,
 ⟨some 194, .bin .rem (.t 193) (.c (.v (.int .i64 1000000000))), none⟩,
 ⟨some 195, .mov (.t 19), none⟩,
 ⟨some 196, .bin .quo (.t 195) (.c (.v (.int .i64 1000000000))), none⟩,
 ⟨some 197, .ixa 1 (.t 189) (.t 192), none⟩,
 ⟨none, .store 1 (.t 197) (.t 194), none⟩,
 ⟨some 15, .mov (.t 196), none⟩] []) <|
 .keep [6, 7, 8, 9, 10, 11, 13, 15, 172, 173] [[32], [46]]) <|
 .keep [6, 7, 8, 9, 10, 11, 13, 15, 172, 173] [[32], [46]]) <|
 .seq (.reg [⟨some 198, .bin .add (.t 173) (.c (.v (.int .i64 1))), none⟩,
 ⟨some 173, .mov (.t 198), none⟩] []) <|
 .keep [6, 7, 8, 9, 10, 11, 13, 15, 172, 173] [[32], [46]]) <|
 .keep [6, 7, 8, 9, 10, 11, 13, 15, 172, 173] [[32], [46]]
def integer_long_l3 : C :=
 .seq (.seq (.seq (.seq (.reg [⟨some 51, .mov (.t 11), none⟩,
 ⟨some 52, .bin .geq (.t 51) (.c (.v (.int .i64 0))), none⟩] []) <|
 .keep [6, 7, 8, 9, 10, 11, 52] [[32], [46]]) <|
 .cond (.t 52) (.skip) <|
 .seq (.keep [6, 7, 9, 10] [[32], [46]]) <|
 .exit 0) <|
 .seq (.seq (.blk 1 <|
 .seq (.seq (.reg [⟨some 55, .mov (.t 7), none⟩,
 ⟨some 56, .mov (.t 11), none⟩,
 ⟨some 57, .mov (.t 9), none⟩,
 ⟨some 58, .bin .add (.t 56) (.t 57), none⟩,
 ⟨some 59, .ixa 1 (.t 55) (.t 58), none⟩,
 ⟨some 60, .load none (.t 59), none⟩,
 ⟨some 61, .bin .mul (.t 60) (.c (.v (.int .i64 1000000000))), none⟩,
 ⟨some 62, .mov (.t 7), none⟩,
 ⟨some 63, .mov (.t 11), none⟩,
 ⟨some 64, .mov (.t 9), none⟩,
 ⟨some 65, .bin .add (.t 63) (.t 64), none⟩,
 ⟨some 66, .bin .sub (.t 65) (.c (.v (.int .i64 1))), none⟩,
 ⟨some 67, .ixa 1 (.t 62) (.t 66), none⟩,
 ⟨some 68, .load none (.t 67), none⟩,
 ⟨some 69, .bin .add (.t 61) (.t 68), none⟩,
 ⟨some 12, .mov (.t 69), none⟩] []) <|
 .keep [6, 7, 8, 9, 10, 11, 12] [[32], [46]]) <|
 .seq (.seq (.reg [⟨some 70, .mov (.t 12), none⟩,
 ⟨some 71, .mov (.t 8), none⟩,
 ⟨some 72, .mov (.t 9), none⟩,
 ⟨some 73, .bin .sub (.t 72) (.c (.v (.int .i64 1))), none⟩,
 ⟨some 74, .ixa 1 (.t 71) (.t 73), none⟩,
 ⟨some 75, .load none (.t 74), none⟩,
 ⟨some 76, .bin .quo (.t 70) (.t 75), none⟩,
 ⟨some 77, .mov (.t 12), none⟩,
 ⟨some 78, .mov (.t 8), none⟩,
 ⟨some 79, .mov (.t 9), none⟩,
 ⟨some 80, .bin .sub (.t 79) (.c (.v (.int .i64 1))), none⟩,
 ⟨some 81, .ixa 1 (.t 78) (.t 80), none⟩,
 ⟨some 82, .load none (.t 81), none⟩,
 ⟨some 83, .bin .rem (.t 77) (.t 82), none⟩,
 ⟨some 13, .mov (.t 76), none⟩,
 ⟨some 14, .mov (.t 83), none⟩] []) <|
 .keep [6, 7, 8, 9, 10, 11, 13, 14] [[32], [46]]) <|
 .seq (.skip) <|
 .seq (.seq (.blk 2 <|
 .seq (.keep [6, 7, 8, 9, 10, 11, 13, 14] [[32], [46]]) <|
 .loop integer_long_l0) <|
 .keep [6, 7, 8, 9, 10, 11, 13] [[32], [46]]) <|
 .seq (.seq (.reg [⟨some 15, .mov (.c (.v (.int .i64 0))), none⟩] []) <|
 .keep [6, 7, 8, 9, 10, 11, 13, 15] [[32], [46]]) <|
 .seq (.seq (.seq (.reg [⟨some 117, .mov (.t 9), none⟩,
 ⟨some 118, .mov (.c (.v (.int .i64 0))), none⟩] []) <|
 .keep [6, 7, 8, 9, 10, 11, 13, 15, 117, 118] [[32], [46]]) <|
 .seq (.blk 4 <|
 .seq (.keep [6, 7, 8, 9, 10, 11, 13, 15, 117, 118] [[32], [46]]) <|
 .loop integer_long_l1) <|
 .keep [6, 7, 8, 9, 10, 11, 13, 15] [[32], [46]]) <|
 .seq (.seq (.seq (.reg [⟨some 154, .mov (.t 7), none⟩,
 ⟨some 155, .mov (.t 11), none⟩,
 ⟨some 156, .mov (.t 9), none⟩,
 ⟨some 157, .bin .add (.t 155) (.t 156), none⟩,
 ⟨some 158, .ixa 1 (.t 154) (.t 157), none⟩,
 ⟨some 159, .load none (.t 158), none⟩,
 ⟨some 160, .mov (.t 15), none⟩,
 ⟨some 161, .bin .sub (.t 159) (.t 160), none⟩,
 ⟨some 162, .ixa 1 (.t 154) (.t 157), none⟩,
 ⟨none, .store 1 (.t 162) (.t 161), none⟩] []) <|
 .keep [6, 7, 8, 9, 10, 11, 13] [[32], [46]]) <|
 .seq (.seq (.reg [⟨some 163, .mov (.t 7), none⟩,
 ⟨some 164, .mov (.t 11), none⟩,
 ⟨some 165, .mov (.t 9), none⟩,
 ⟨some 166, .bin .add (.t 164) (.t 165), none⟩,
 ⟨some 167, .ixa 1 (.t 163) (.t 166), none⟩,
 ⟨some 168, .load none (.t 167), none⟩,
 ⟨some 169, .bin .lss (.t 168) (.c (.v (.int .i64 0))), none⟩] []) <|
 .keep [6, 7, 8, 9, 10, 11, 13, 169] [[32], [46]]) <|
 .cond (.t 169) (.seq (.seq (.reg [⟨some 170, .mov (.t 13), none⟩,
 ⟨some 171, .bin .sub (.t 170) (.c (.v (.int .i64 1))), none⟩,
 ⟨some 13, .mov (.t 171), none⟩] []) <|
 .keep [6, 7, 8, 9, 10, 11, 13] [[32], [46]]) <|
 .seq (.seq (.reg [⟨some 15, .mov (.c (.v (.int .i64 0))), none⟩] []) <|
 .keep [6, 7, 8, 9, 10, 11, 13, 15] [[32], [46]]) <|
 .seq (.seq (.seq (.reg [⟨some 172, .mov (.t 9), none⟩,
 ⟨some 173, .mov (.c (.v (.int .i64 0))), none⟩] []) <|
 .keep [6, 7, 8, 9, 10, 11, 13, 15, 172, 173] [[32], [46]]) <|
 .seq (.blk 6 <|
 .seq (.keep [6, 7, 8, 9, 10, 11, 13, 15, 172, 173] [[32], [46]]) <|
 .loop integer_long_l2) <|
 .keep [6, 7, 8, 9, 10, 11, 13, 15] [[32], [46]]) <|
 .seq (.reg [⟨some 199, .mov (.t 7), none⟩,
 ⟨some 200, .mov (.t 11), none⟩,
 ⟨some 201, .mov (.t 9), none⟩,
 ⟨some 202, .bin .add (.t 200) (.t 201), none⟩,
 ⟨some 203, .ixa 1 (.t 199) (.t 202), none⟩,
 ⟨some 204, .load none (.t 203), none⟩,
 ⟨some 205, .mov (.t 15), none⟩,
 ⟨some 206, .bin .add (.t 204) (.t 205), none⟩,
 ⟨some 207, .ixa 1 (.t 199) (.t 202), none⟩,
 ⟨none, .store 1 (.t 207) (.t 206), none⟩] []) <|
 .keep [6, 7, 8, 9, 10, 11, 13] [[32], [46]]) <|
 .skip) <|
 .seq (.reg [⟨some 208, .mov (.t 10), none⟩,
 ⟨some 209, .mov (.t 11), none⟩,
 ⟨some 210, .mov (.t 13), none⟩,
 ⟨some 211, .ixa 1 (.t 208) (.t 209), none⟩,
 ⟨none, .store 1 (.t 211) (.t 210), none⟩] []) <|
 .keep [6, 7, 8, 9, 10, 11] [[32], [46]]) <|
 .keep [6, 7, 8, 9, 10, 11] [[32], [46]]) <|
 .seq (.reg [⟨some 53, .mov (.t 11), none⟩,
 ⟨some 54, .bin .sub (.t 53) (.c (.v (.int .i64 1))), none⟩,
 ⟨some 11, .mov (.t 54), none⟩] []) <|
 .keep [6, 7, 8, 9, 10, 11] [[32], [46]]) <|
 .keep [6, 7, 8, 9, 10, 11] [[32], [46]]
def integer_long : CF := ⟨2, .seq (.seq (.reg [⟨some 4, .mov (.c (.z true)), none⟩,
 ⟨some 5, .mov (.c (.z true)), none⟩] []) <|
 .keep [0, 1] []) <|
 .seq (.seq (.reg [⟨some 22, .mov (.t 1), none⟩,
 ⟨some 23, .mov (.t 1), none⟩,
 ⟨some 24, .len (.t 23), none⟩,
 ⟨some 25, .bin .sub (.t 24) (.c (.v (.int .i64 1))), none⟩,
 ⟨some 26, .ixa 1 (.t 22) (.t 25), none⟩,
 ⟨some 27, .load none (.t 26), none⟩,
 ⟨some 28, .bin .add (.t 27) (.c (.v (.int .i64 1))), none⟩,
 ⟨some 29, .bin .quo (.c (.v (.int .i64 1000000000))) (.t 28), none⟩,
 ⟨some 6, .mov (.t 29), none⟩] []) <|
 .keep [0, 1, 6] []) <|
 .seq (.seq (.reg [⟨some 30, .mov (.t 0), none⟩,
 ⟨some 31, .mov (.t 6), none⟩,
 ⟨some 32, .call n_integer_scaled [(.t 30), (.t 31)] true, none⟩,
 ⟨some 33, .mov (.t 1), none⟩,
 ⟨some 34, .mov (.t 6), none⟩,
 ⟨some 35, .call n_integer_scaled [(.t 33), (.t 34)] false, none⟩,
 ⟨some 36, .mov (.t 1), none⟩,
 ⟨some 37, .len (.t 36), none⟩,
 ⟨some 38, .slc 1 (.t 35) none (some (.t 37)) none, none⟩,
 ⟨some 7, .mov (.t 32), none⟩,
 ⟨some 8, .mov (.t 38), none⟩] []) <|
 .keep [0, 1, 6, 7, 8] [[32]]) <|
 .seq (.seq (.reg [⟨some 39, .mov (.t 1), none⟩,
 ⟨some 40, .len (.t 39), none⟩,
 ⟨some 9, .mov (.t 40), none⟩] []) <|
 .keep [0, 6, 7, 8, 9] [[32]]) <|
 .seq (.seq (.reg [⟨some 41, .mov (.t 0), none⟩,
 ⟨some 42, .len (.t 41), none⟩,
 ⟨some 43, .mov (.t 9), none⟩,
 ⟨some 44, .bin .sub (.t 42) (.t 43), none⟩,
 ⟨some 45, .bin .add (.t 44) (.c (.v (.int .i64 1))), none⟩,
 ⟨some 46, .mksl 1 8 [.v (.int .i64 0)] (.t 45) (.t 45), none⟩,
 ⟨some 10, .mov (.t 46), none⟩] []) <|
 .keep [0, 6, 7, 8, 9, 10] [[32], [46]]) <|
 .seq (.seq (.seq (.reg [⟨some 47, .mov (.t 0), none⟩,
 ⟨some 48, .len (.t 47), none⟩,
 ⟨some 49, .mov (.t 9), none⟩,
 ⟨some 50, .bin .sub (.t 48) (.t 49), none⟩,
 ⟨some 11, .mov (.t 50), none⟩] []) <|
 .keep [6, 7, 8, 9, 10, 11] [[32], [46]]) <|
 .seq (.blk 0 <|
 .seq (.keep [6, 7, 8, 9, 10, 11] [[32], [46]]) <|
 .loop integer_long_l3) <|
 .keep [6, 7, 9, 10] [[32], [46]]) <|
 .seq (.seq (.frz 7) <|
 .seq (.reg [⟨some 213, .mov (.t 7), none⟩,
 ⟨some 214, .mov (.t 9), none⟩,
 ⟨some 215, .slc 1 (.t 213) none (some (.t 214)) none, none⟩,
 ⟨some 216, .mov (.t 6), none⟩,
 ⟨some 217, .call n_integer_short [(.t 215), (.t 216)] false, none⟩,
 ⟨some 212, .mov (.t 217), none⟩,
 ⟨some 218, .ext (.t 212) 0, none⟩,
 ⟨some 219, .ext (.t 212) 1, none⟩,
 ⟨some 20, .mov (.t 218), none⟩,
 ⟨some 21, .mov (.t 219), none⟩] []) <|
 .keep [10, 20] [[46]]) <|
 .seq (.seq (.reg [⟨some 220, .mov (.t 10), none⟩,
 ⟨some 221, .mov (.t 20), none⟩,
 ⟨some 4, .mov (.t 220), none⟩,
 ⟨some 5, .mov (.t 221), none⟩] []) <|
 .keep [4, 5] [[46]]) <|
 .ret, [.t 4, .t 5]⟩

def poly_Derive_1 : CF := ⟨2, .seq (.seq (.reg [⟨some 3, .new [.v (.bool false), .z true, .v (.bool false), .z true], none⟩] []) <|
 .keep [0, 1, 3] [[3]]) <|
 .seq (.seq (.reg [⟨some 4, .load none (.t 1), none⟩,
 ⟨some 5, .mov (.t 0), none⟩,
 ⟨some 6, .bin .add (.t 5) (.c (.v (.int .i64 1))), none⟩,
 ⟨some 7, .ixa 4 (.t 4) (.t 6), none⟩,
 ⟨some 8, .load (some 4) (.t 7), none⟩,
 ⟨some 9, .mov (.t 0), none⟩,
 ⟨some 10, .bin .add (.t 9) (.c (.v (.int .i64 1))), none⟩,
 ⟨some 11, .call n_rat_Of [(.t 10), (.c (.v (.int .i64 1)))] false, none⟩,
 ⟨some 12, .call n_rat_Mul [(.t 8), (.t 11)] false, none⟩,
 ⟨none, .store 4 (.t 3) (.t 12), none⟩] []) <|
 .keep [3] [[3]]) <|
 .ret, [.cell 3 (some 4)]⟩

def poly_Scale : CF := ⟨2, .seq (.seq (.reg [⟨some 2, .box (.t 0), none⟩,
 ⟨some 3, .box (.t 1), none⟩,
 ⟨some 4, .mov (.c (.z true)), none⟩] []) <|
 .keep [2, 3] [[2], [3]]) <|
 .seq (.seq (.reg [⟨some 5, .load none (.t 2), none⟩,
 ⟨some 6, .len (.t 5), none⟩,
 ⟨some 7, .mkfn n_poly_Scale_1 [(.t 2), (.t 3)] true, none⟩,
 ⟨some 8, .call n_poly_made [(.t 6), (.t 7)] false, none⟩,
 ⟨some 4, .mov (.t 8), none⟩] []) <|
 .keep [4] []) <|
 .ret, [.t 4]⟩

def integer_scaled_l0 : C :=
 .seq (.seq (.seq (.reg [⟨some 17, .bin .lss (.t 16) (.t 15), none⟩] []) <|
 .keep [0, 1, 5, 6, 14, 15, 16, 17] [[13]]) <|
 .seq (.cond (.t 17) (.skip) <|
 .seq (.keep [0, 5, 6] [[13]]) <|
 .exit 0) <|
 .seq (.seq (.blk 1 <|
 .seq (.seq (.reg [⟨some 18, .mov (.t 16), none⟩,
 ⟨some 19, .ixa 1 (.t 14) (.t 16), none⟩,
 ⟨some 20, .load none (.t 19), none⟩,
 ⟨some 7, .mov (.t 18), none⟩,
 ⟨some 8, .mov (.t 20), none⟩] []) <|
 .keep [0, 1, 5, 6, 7, 8, 14, 15, 16] [[13]]) <|
 .seq (.seq (.reg [⟨some 21, .mov (.t 8), none⟩,
 ⟨some 22, .mov (.t 1), none⟩,
 ⟨some 23, .bin .mul (.t 21) (.t 22), none⟩,
 ⟨some 24, .mov (.t 6), none⟩,
 ⟨some 25, .bin .add (.t 23) (.t 24), none⟩,
 ⟨some 9, .mov (.t 25), none⟩] []) <|
 .keep [0, 1, 5, 7, 9, 14, 15, 16] [[13]]) <|
 .seq (.reg [⟨some 26, .mov (.t 5), none⟩,
 ⟨some 27, .mov (.t 7), none⟩,
 ⟨some 28, .mov (.t 9), none⟩,
 ⟨some 29, .bin .rem (.t 28) (.c (.v (.int .i64 1000000000))), none⟩,
 ⟨some 30, .mov (.t 9), none⟩,
 ⟨some 31, .bin .quo (.t 30) (.c (.v (.int .i64 1000000000))), none⟩,
 ⟨some 32, .ixa 1 (.t 26) (.t 27), none⟩,
 ⟨none, .store 1 (.t 32) (.t 29), none⟩,
 ⟨some 6, .mov (.t 31), none⟩] []) <|
 .keep [0, 1, 5, 6, 14, 15, 16] [[13]]) <|
 .keep [0, 1, 5, 6, 14, 15, 16] [[13]]) <|
 .seq (.reg [⟨some 33, .bin .add (.t 16) (.c (.v (.int .i64 1))), none⟩,
 ⟨some 16, .mov (.t 33), none⟩] []) <|
 .keep [0, 1, 5, 6, 14, 15, 16] [[13]]) <|
 .keep [0, 1, 5, 6, 14, 15, 16] [[13]]
def integer_scaled : CF := ⟨2, .seq (.seq (.reg [⟨some 4, .mov (.c (.z true)), none⟩] []) <|
 .keep [0, 1] []) <|
 .seq (.seq (.reg [⟨some 10, .mov (.t 0), none⟩,
 ⟨some 11, .len (.t 10), none⟩,
 ⟨some 12, .bin .add (.t 11) (.c (.v (.int .i64 1))), none⟩,
 ⟨some 13, .mksl 1 8 [.v (.int .i64 0)] (.t 12) (.t 12), none⟩,
 ⟨some 5, .mov (.t 13), none⟩] []) <|
 .keep [0, 1, 5] [[13]]) <|
 .seq (.seq (.reg [⟨some 6, .mov (.c (.v (.int .i64 0))), none⟩] []) <|
 .keep [0, 1, 5, 6] [[13]]) <|
 .seq (.seq (.seq (.reg [⟨some 14, .mov (.t 0), none⟩,
 ⟨some 15, .len (.t 14), none⟩,
 ⟨some 16, .mov (.c (.v (.int .i64 0))), none⟩] []) <|
 .keep [0, 1, 5, 6, 14, 15, 16] [[13]]) <|
 .seq (.blk 0 <|
 .seq (.keep [0, 1, 5, 6, 14, 15, 16] [[13]]) <|
 .loop integer_scaled_l0) <|
 .keep [0, 5, 6] [[13]]) <|
 .seq (.seq (.reg [⟨some 34, .mov (.t 5), none⟩,
 ⟨some 35, .mov (.t 0), none⟩,
 ⟨some 36, .len (.t 35), none⟩,
 ⟨some 37, .mov (.t 6), none⟩,
 ⟨some 38, .ixa 1 (.t 34) (.t 36), none⟩,
 ⟨none, .store 1 (.t 38) (.t 37), none⟩] []) <|
 .keep [5] [[13]]) <|
 .seq (.seq (.reg [⟨some 39, .mov (.t 5), none⟩,
 ⟨some 4, .mov (.t 39), none⟩] []) <|
 .keep [4] [[13]]) <|
 .ret, [.t 4]⟩

def poly_Scale_1 : CF := ⟨3, .seq (.seq (.reg [⟨some 4, .new [.v (.bool false), .z true, .v (.bool false), .z true], none⟩] []) <|
 .keep [0, 1, 2, 4] [[4]]) <|
 .seq (.seq (.reg [⟨some 5, .load none (.t 1), none⟩,
 ⟨some 6, .mov (.t 0), none⟩,
 ⟨some 7, .ixa 4 (.t 5) (.t 6), none⟩,
 ⟨some 8, .load (some 4) (.t 7), none⟩,
 ⟨some 9, .load (some 4) (.t 2), none⟩,
 ⟨some 10, .call n_rat_Mul [(.t 8), (.t 9)] false, none⟩,
 ⟨none, .store 4 (.t 4) (.t 10), none⟩] []) <|
 .keep [4] [[4]]) <|
 .ret, [.cell 4 (some 4)]⟩

end Go.AM

set_option maxRecDepth 100000
namespace Go.AM
open Go Go.Proofs

def ft : Nat → Option CF
  | 3 => some gantrylaw13_GapFinds
  | 4 => some gantrylaw13_GapAlong
  | 5 => some gantrylaw13_GapStays
  | 6 => some gantrylaw13_GapKeeps
  | 7 => some gantrylaw13_GapTouches
  | 8 => some gantryref12_Shape
  | 9 => some gantryref12_Sides
  | 10 => some gantryref12_Vec
  | 11 => some gantryref01_At
  | 12 => some gantryref13_Touch
  | 13 => some gantryref13_Times
  | 14 => some gantryref05_Of
  | 15 => some gap_Free
  | 16 => some gantryref13_Free
  | 17 => some gap_Contact
  | 18 => some gantryref13_Contact
  | 19 => some gantryref13_Plus
  | 20 => some gap_Best
  | 21 => some gantryref13_Best
  | 22 => some gap_Meet
  | 23 => some gantryref13_Meet
  | 24 => some gantrylaw13_lives
  | 25 => some gap_Along
  | 26 => some gantryref05_Same
  | 27 => some gap_Gap
  | 28 => some gantryref13_Gap
  | 29 => some gantryref06_Same
  | 30 => some gantryref13_Along
  | 31 => some rat_Add
  | 32 => some gantryref13_Rate
  | 33 => some rat_Same
  | 34 => some poly_Eval
  | 35 => some rat_Of
  | 36 => some gantryref06_Small
  | 37 => some gantryref06_Trim
  | 38 => some gantryref06_Mul
  | 39 => some gantryref06_Sub
  | 40 => some gantryref01_Around
  | 41 => some gantryref06_Scale
  | 42 => some gap_Stays
  | 43 => some gantryref13_Stays
  | 44 => some sturm_Stays
  | 45 => some convex_Sides
  | 46 => some convex_Sum
  | 47 => some rat_Mul
  | 48 => some rat_Sign
  | 49 => some convex_Has
  | 50 => some gantryref12_Move
  | 51 => some gantryref12_Norm
  | 52 => some gantryref12_Next
  | 53 => some gantryref12_Turn
  | 54 => some gantryref12_Most
  | 55 => some gantryref12_Sum
  | 56 => some gantryref13_Minus
  | 57 => some gantryref05_Mul
  | 58 => some gantryref05_Make
  | 59 => some gantryref04_Of
  | 60 => some slices_IndexFunc_api_Edge_api_Edge
  | 61 => some gap_Free_1
  | 62 => some gap_Contact_1
  | 63 => some gap_rate
  | 64 => some slices_ContainsFunc_api_Edge_api_Edge
  | 65 => some gap_greatest_api_Edge
  | 66 => some gap_Contact_2
  | 67 => some gantryref05_Sign
  | 68 => some gantryref05_Compare
  | 69 => some gantryref05_Add
  | 70 => some gap_Best_1
  | 71 => some gap_Meet_1
  | 72 => some gantrylaw13_vec
  | 73 => some poly_Trim
  | 74 => some gantryref04_Same
  | 75 => some rat_Sub
  | 76 => some gantryref05_Div
  | 77 => some gantryref05_Sub
  | 78 => some gantryref12_Dot
  | 79 => some integer_Add
  | 80 => some rat_Den
  | 81 => some rat_Make
  | 82 => some integer_Mul
  | 83 => some rat_Same_1
  | 84 => some slices_Equal_int_int
  | 85 => some slices_Backward_api_Poly_api_Rat
  | 86 => some integer_Of
  | 87 => some gantryref06_Add
  | 88 => some rat_Div
  | 89 => some rat_Neg
  | 90 => some rat_Compare
  | 91 => some gantryref07_Stays
  | 92 => some sturm_Stays_1
  | 93 => some sturm_odd
  | 94 => some sturm_Count
  | 95 => some sturm_middle
  | 96 => some convex_Sides_1
  | 97 => some convex_Sides_1_1
  | 98 => some convex_Most
  | 99 => some convex_turned
  | 100 => some convex_Norm
  | 101 => some convex_next
  | 102 => some slices_MinFunc_api_Point_api_Point
  | 103 => some convex_Sum_1
  | 104 => some cmp_Or_int
  | 105 => some cmp_Compare_int
  | 106 => some convex_cross
  | 107 => some convex_far
  | 108 => some rat_lowest
  | 109 => some integer_Sign
  | 110 => some gantryref04_Root
  | 111 => some gantryref04_Small
  | 112 => some gantryref12_divisor
  | 113 => some gantryref12_size
  | 114 => some gantryref12_Left
  | 115 => some gantryref04_Mul
  | 116 => some gantryref05_Den
  | 117 => some gantryref04_Gcd
  | 118 => some gantryref04_Div
  | 119 => some gantryref04_Neg
  | 120 => some gantryref05_one
  | 121 => some gantryref04_normal
  | 122 => some gantryref04_Sign
  | 123 => some gantryref04_Compare
  | 124 => some gantryref04_Add
  | 125 => some slices_Clone_api_Poly_api_Rat
  | 126 => some gantryref05_Neg
  | 127 => some integer_of
  | 128 => some integer_plus
  | 129 => some integer_compare
  | 130 => some integer_minus
  | 131 => some rat_one
  | 132 => some integer_Gcd
  | 133 => some rat_unit
  | 134 => some integer_Div
  | 135 => some integer_unsigned
  | 136 => some slices_Backward_api_Poly_api_Rat_1
  | 137 => some gantryref06_At
  | 138 => some integer_Neg
  | 139 => some integer_Compare
  | 140 => some gantryref06_Eval
  | 141 => some gantryref06_Derive
  | 142 => some gantryref07_Chain
  | 143 => some gantryref06_Gcd
  | 144 => some gantryref07_within
  | 145 => some gantryref07_counted
  | 146 => some gantryref07_halved
  | 147 => some poly_Free
  | 148 => some poly_Div
  | 149 => some poly_Gcd
  | 150 => some poly_Mul
  | 151 => some sturm_counted
  | 152 => some sturm_Chain
  | 153 => some convex_dot
  | 154 => some slices_MaxFunc_api_Point_api_Point
  | 155 => some convex_Most_1
  | 156 => some integer_Root
  | 157 => some integer_Small
  | 158 => some convex_gcd
  | 159 => some cmp_isNaN_int
  | 160 => some gantryref04_tiny
  | 161 => some gantryref04_divided
  | 162 => some gantryref04_minus
  | 163 => some gantryref04_compared
  | 164 => some gantryref04_plus
  | 165 => some integer_two
  | 166 => some integer_divide
  | 167 => some gantryref06_Free
  | 168 => some gantryref06_Div
  | 169 => some gantryref06_Monic
  | 170 => some gantryref07_Middle
  | 171 => some gantryref07_Changes
  | 172 => some poly_Derive
  | 173 => some poly_monic
  | 174 => some poly_made
  | 175 => some poly_Mul_1
  | 176 => some sturm_Changes
  | 177 => some sturm_next
  | 178 => some gantryref04_digit
  | 179 => some gantryref04_times
  | 180 => some integer_short
  | 181 => some integer_long
  | 182 => some poly_Derive_1
  | 183 => some poly_Scale
  | 184 => some integer_scaled
  | 185 => some poly_Scale_1
  | _ => none
theorem gantrylaw13_GapFinds_c : compF Tryz.prog Tryz.f3 = some gantrylaw13_GapFinds.er := by kernel_rfl
theorem gantrylaw13_GapAlong_c : compF Tryz.prog Tryz.f4 = some gantrylaw13_GapAlong.er := by kernel_rfl
theorem gantrylaw13_GapStays_c : compF Tryz.prog Tryz.f5 = some gantrylaw13_GapStays.er := by kernel_rfl
theorem gantrylaw13_GapKeeps_c : compF Tryz.prog Tryz.f6 = some gantrylaw13_GapKeeps.er := by kernel_rfl
theorem gantrylaw13_GapTouches_c : compF Tryz.prog Tryz.f7 = some gantrylaw13_GapTouches.er := by kernel_rfl
theorem gantryref12_Shape_c : compF Tryz.prog Tryz.f8 = some gantryref12_Shape.er := by kernel_rfl
theorem gantryref12_Sides_c : compF Tryz.prog Tryz.f9 = some gantryref12_Sides.er := by kernel_rfl
theorem gantryref12_Vec_c : compF Tryz.prog Tryz.f10 = some gantryref12_Vec.er := by kernel_rfl
theorem gantryref01_At_c : compF Tryz.prog Tryz.f11 = some gantryref01_At.er := by kernel_rfl
theorem gantryref13_Touch_c : compF Tryz.prog Tryz.f12 = some gantryref13_Touch.er := by kernel_rfl
theorem gantryref13_Times_c : compF Tryz.prog Tryz.f13 = some gantryref13_Times.er := by kernel_rfl
theorem gantryref05_Of_c : compF Tryz.prog Tryz.f14 = some gantryref05_Of.er := by kernel_rfl
theorem gap_Free_c : compF Tryz.prog Tryz.f15 = some gap_Free.er := by kernel_rfl
theorem gantryref13_Free_c : compF Tryz.prog Tryz.f16 = some gantryref13_Free.er := by kernel_rfl
theorem gap_Contact_c : compF Tryz.prog Tryz.f17 = some gap_Contact.er := by kernel_rfl
theorem gantryref13_Contact_c : compF Tryz.prog Tryz.f18 = some gantryref13_Contact.er := by kernel_rfl
theorem gantryref13_Plus_c : compF Tryz.prog Tryz.f19 = some gantryref13_Plus.er := by kernel_rfl
theorem gap_Best_c : compF Tryz.prog Tryz.f20 = some gap_Best.er := by kernel_rfl
theorem gantryref13_Best_c : compF Tryz.prog Tryz.f21 = some gantryref13_Best.er := by kernel_rfl
theorem gap_Meet_c : compF Tryz.prog Tryz.f22 = some gap_Meet.er := by kernel_rfl
theorem gantryref13_Meet_c : compF Tryz.prog Tryz.f23 = some gantryref13_Meet.er := by kernel_rfl
theorem gantrylaw13_lives_c : compF Tryz.prog Tryz.f24 = some gantrylaw13_lives.er := by kernel_rfl
theorem gap_Along_c : compF Tryz.prog Tryz.f25 = some gap_Along.er := by kernel_rfl
theorem gantryref05_Same_c : compF Tryz.prog Tryz.f26 = some gantryref05_Same.er := by kernel_rfl
theorem gap_Gap_c : compF Tryz.prog Tryz.f27 = some gap_Gap.er := by kernel_rfl
theorem gantryref13_Gap_c : compF Tryz.prog Tryz.f28 = some gantryref13_Gap.er := by kernel_rfl
theorem gantryref06_Same_c : compF Tryz.prog Tryz.f29 = some gantryref06_Same.er := by kernel_rfl
theorem gantryref13_Along_c : compF Tryz.prog Tryz.f30 = some gantryref13_Along.er := by kernel_rfl
theorem rat_Add_c : compF Tryz.prog Tryz.f31 = some rat_Add.er := by kernel_rfl
theorem gantryref13_Rate_c : compF Tryz.prog Tryz.f32 = some gantryref13_Rate.er := by kernel_rfl
theorem rat_Same_c : compF Tryz.prog Tryz.f33 = some rat_Same.er := by kernel_rfl
theorem poly_Eval_c : compF Tryz.prog Tryz.f34 = some poly_Eval.er := by kernel_rfl
theorem rat_Of_c : compF Tryz.prog Tryz.f35 = some rat_Of.er := by kernel_rfl
theorem gantryref06_Small_c : compF Tryz.prog Tryz.f36 = some gantryref06_Small.er := by kernel_rfl
theorem gantryref06_Trim_c : compF Tryz.prog Tryz.f37 = some gantryref06_Trim.er := by kernel_rfl
theorem gantryref06_Mul_c : compF Tryz.prog Tryz.f38 = some gantryref06_Mul.er := by kernel_rfl
theorem gantryref06_Sub_c : compF Tryz.prog Tryz.f39 = some gantryref06_Sub.er := by kernel_rfl
theorem gantryref01_Around_c : compF Tryz.prog Tryz.f40 = some gantryref01_Around.er := by kernel_rfl
theorem gantryref06_Scale_c : compF Tryz.prog Tryz.f41 = some gantryref06_Scale.er := by kernel_rfl
theorem gap_Stays_c : compF Tryz.prog Tryz.f42 = some gap_Stays.er := by kernel_rfl
theorem gantryref13_Stays_c : compF Tryz.prog Tryz.f43 = some gantryref13_Stays.er := by kernel_rfl
theorem sturm_Stays_c : compF Tryz.prog Tryz.f44 = some sturm_Stays.er := by kernel_rfl
theorem convex_Sides_c : compF Tryz.prog Tryz.f45 = some convex_Sides.er := by kernel_rfl
theorem convex_Sum_c : compF Tryz.prog Tryz.f46 = some convex_Sum.er := by kernel_rfl
theorem rat_Mul_c : compF Tryz.prog Tryz.f47 = some rat_Mul.er := by kernel_rfl
theorem rat_Sign_c : compF Tryz.prog Tryz.f48 = some rat_Sign.er := by kernel_rfl
theorem convex_Has_c : compF Tryz.prog Tryz.f49 = some convex_Has.er := by kernel_rfl
theorem gantryref12_Move_c : compF Tryz.prog Tryz.f50 = some gantryref12_Move.er := by kernel_rfl
theorem gantryref12_Norm_c : compF Tryz.prog Tryz.f51 = some gantryref12_Norm.er := by kernel_rfl
theorem gantryref12_Next_c : compF Tryz.prog Tryz.f52 = some gantryref12_Next.er := by kernel_rfl
theorem gantryref12_Turn_c : compF Tryz.prog Tryz.f53 = some gantryref12_Turn.er := by kernel_rfl
theorem gantryref12_Most_c : compF Tryz.prog Tryz.f54 = some gantryref12_Most.er := by kernel_rfl
theorem gantryref12_Sum_c : compF Tryz.prog Tryz.f55 = some gantryref12_Sum.er := by kernel_rfl
theorem gantryref13_Minus_c : compF Tryz.prog Tryz.f56 = some gantryref13_Minus.er := by kernel_rfl
theorem gantryref05_Mul_c : compF Tryz.prog Tryz.f57 = some gantryref05_Mul.er := by kernel_rfl
theorem gantryref05_Make_c : compF Tryz.prog Tryz.f58 = some gantryref05_Make.er := by kernel_rfl
theorem gantryref04_Of_c : compF Tryz.prog Tryz.f59 = some gantryref04_Of.er := by kernel_rfl
theorem slices_IndexFunc_api_Edge_api_Edge_c : compF Tryz.prog Tryz.f60 = some slices_IndexFunc_api_Edge_api_Edge.er := by kernel_rfl
theorem gap_Free_1_c : compF Tryz.prog Tryz.f61 = some gap_Free_1.er := by kernel_rfl
theorem gap_Contact_1_c : compF Tryz.prog Tryz.f62 = some gap_Contact_1.er := by kernel_rfl
theorem gap_rate_c : compF Tryz.prog Tryz.f63 = some gap_rate.er := by kernel_rfl
theorem slices_ContainsFunc_api_Edge_api_Edge_c : compF Tryz.prog Tryz.f64 = some slices_ContainsFunc_api_Edge_api_Edge.er := by kernel_rfl
theorem gap_greatest_api_Edge_c : compF Tryz.prog Tryz.f65 = some gap_greatest_api_Edge.er := by kernel_rfl
theorem gap_Contact_2_c : compF Tryz.prog Tryz.f66 = some gap_Contact_2.er := by kernel_rfl
theorem gantryref05_Sign_c : compF Tryz.prog Tryz.f67 = some gantryref05_Sign.er := by kernel_rfl
theorem gantryref05_Compare_c : compF Tryz.prog Tryz.f68 = some gantryref05_Compare.er := by kernel_rfl
theorem gantryref05_Add_c : compF Tryz.prog Tryz.f69 = some gantryref05_Add.er := by kernel_rfl
theorem gap_Best_1_c : compF Tryz.prog Tryz.f70 = some gap_Best_1.er := by kernel_rfl
theorem gap_Meet_1_c : compF Tryz.prog Tryz.f71 = some gap_Meet_1.er := by kernel_rfl
theorem gantrylaw13_vec_c : compF Tryz.prog Tryz.f72 = some gantrylaw13_vec.er := by kernel_rfl
theorem poly_Trim_c : compF Tryz.prog Tryz.f73 = some poly_Trim.er := by kernel_rfl
theorem gantryref04_Same_c : compF Tryz.prog Tryz.f74 = some gantryref04_Same.er := by kernel_rfl
theorem rat_Sub_c : compF Tryz.prog Tryz.f75 = some rat_Sub.er := by kernel_rfl
theorem gantryref05_Div_c : compF Tryz.prog Tryz.f76 = some gantryref05_Div.er := by kernel_rfl
theorem gantryref05_Sub_c : compF Tryz.prog Tryz.f77 = some gantryref05_Sub.er := by kernel_rfl
theorem gantryref12_Dot_c : compF Tryz.prog Tryz.f78 = some gantryref12_Dot.er := by kernel_rfl
theorem integer_Add_c : compF Tryz.prog Tryz.f79 = some integer_Add.er := by kernel_rfl
theorem rat_Den_c : compF Tryz.prog Tryz.f80 = some rat_Den.er := by kernel_rfl
theorem rat_Make_c : compF Tryz.prog Tryz.f81 = some rat_Make.er := by kernel_rfl
theorem integer_Mul_c : compF Tryz.prog Tryz.f82 = some integer_Mul.er := by kernel_rfl
theorem rat_Same_1_c : compF Tryz.prog Tryz.f83 = some rat_Same_1.er := by kernel_rfl
theorem slices_Equal_int_int_c : compF Tryz.prog Tryz.f84 = some slices_Equal_int_int.er := by kernel_rfl
theorem slices_Backward_api_Poly_api_Rat_c : compF Tryz.prog Tryz.f85 = some slices_Backward_api_Poly_api_Rat.er := by kernel_rfl
theorem integer_Of_c : compF Tryz.prog Tryz.f86 = some integer_Of.er := by kernel_rfl
theorem gantryref06_Add_c : compF Tryz.prog Tryz.f87 = some gantryref06_Add.er := by kernel_rfl
theorem rat_Div_c : compF Tryz.prog Tryz.f88 = some rat_Div.er := by kernel_rfl
theorem rat_Neg_c : compF Tryz.prog Tryz.f89 = some rat_Neg.er := by kernel_rfl
theorem rat_Compare_c : compF Tryz.prog Tryz.f90 = some rat_Compare.er := by kernel_rfl
theorem gantryref07_Stays_c : compF Tryz.prog Tryz.f91 = some gantryref07_Stays.er := by kernel_rfl
theorem sturm_Stays_1_c : compF Tryz.prog Tryz.f92 = some sturm_Stays_1.er := by kernel_rfl
theorem sturm_odd_c : compF Tryz.prog Tryz.f93 = some sturm_odd.er := by kernel_rfl
theorem sturm_Count_c : compF Tryz.prog Tryz.f94 = some sturm_Count.er := by kernel_rfl
theorem sturm_middle_c : compF Tryz.prog Tryz.f95 = some sturm_middle.er := by kernel_rfl
theorem convex_Sides_1_c : compF Tryz.prog Tryz.f96 = some convex_Sides_1.er := by kernel_rfl
theorem convex_Sides_1_1_c : compF Tryz.prog Tryz.f97 = some convex_Sides_1_1.er := by kernel_rfl
theorem convex_Most_c : compF Tryz.prog Tryz.f98 = some convex_Most.er := by kernel_rfl
theorem convex_turned_c : compF Tryz.prog Tryz.f99 = some convex_turned.er := by kernel_rfl
theorem convex_Norm_c : compF Tryz.prog Tryz.f100 = some convex_Norm.er := by kernel_rfl
theorem convex_next_c : compF Tryz.prog Tryz.f101 = some convex_next.er := by kernel_rfl
theorem slices_MinFunc_api_Point_api_Point_c : compF Tryz.prog Tryz.f102 = some slices_MinFunc_api_Point_api_Point.er := by kernel_rfl
theorem convex_Sum_1_c : compF Tryz.prog Tryz.f103 = some convex_Sum_1.er := by kernel_rfl
theorem cmp_Or_int_c : compF Tryz.prog Tryz.f104 = some cmp_Or_int.er := by kernel_rfl
theorem cmp_Compare_int_c : compF Tryz.prog Tryz.f105 = some cmp_Compare_int.er := by kernel_rfl
theorem convex_cross_c : compF Tryz.prog Tryz.f106 = some convex_cross.er := by kernel_rfl
theorem convex_far_c : compF Tryz.prog Tryz.f107 = some convex_far.er := by kernel_rfl
theorem rat_lowest_c : compF Tryz.prog Tryz.f108 = some rat_lowest.er := by kernel_rfl
theorem integer_Sign_c : compF Tryz.prog Tryz.f109 = some integer_Sign.er := by kernel_rfl
theorem gantryref04_Root_c : compF Tryz.prog Tryz.f110 = some gantryref04_Root.er := by kernel_rfl
theorem gantryref04_Small_c : compF Tryz.prog Tryz.f111 = some gantryref04_Small.er := by kernel_rfl
theorem gantryref12_divisor_c : compF Tryz.prog Tryz.f112 = some gantryref12_divisor.er := by kernel_rfl
theorem gantryref12_size_c : compF Tryz.prog Tryz.f113 = some gantryref12_size.er := by kernel_rfl
theorem gantryref12_Left_c : compF Tryz.prog Tryz.f114 = some gantryref12_Left.er := by kernel_rfl
theorem gantryref04_Mul_c : compF Tryz.prog Tryz.f115 = some gantryref04_Mul.er := by kernel_rfl
theorem gantryref05_Den_c : compF Tryz.prog Tryz.f116 = some gantryref05_Den.er := by kernel_rfl
theorem gantryref04_Gcd_c : compF Tryz.prog Tryz.f117 = some gantryref04_Gcd.er := by kernel_rfl
theorem gantryref04_Div_c : compF Tryz.prog Tryz.f118 = some gantryref04_Div.er := by kernel_rfl
theorem gantryref04_Neg_c : compF Tryz.prog Tryz.f119 = some gantryref04_Neg.er := by kernel_rfl
theorem gantryref05_one_c : compF Tryz.prog Tryz.f120 = some gantryref05_one.er := by kernel_rfl
theorem gantryref04_normal_c : compF Tryz.prog Tryz.f121 = some gantryref04_normal.er := by kernel_rfl
theorem gantryref04_Sign_c : compF Tryz.prog Tryz.f122 = some gantryref04_Sign.er := by kernel_rfl
theorem gantryref04_Compare_c : compF Tryz.prog Tryz.f123 = some gantryref04_Compare.er := by kernel_rfl
theorem gantryref04_Add_c : compF Tryz.prog Tryz.f124 = some gantryref04_Add.er := by kernel_rfl
theorem slices_Clone_api_Poly_api_Rat_c : compF Tryz.prog Tryz.f125 = some slices_Clone_api_Poly_api_Rat.er := by kernel_rfl
theorem gantryref05_Neg_c : compF Tryz.prog Tryz.f126 = some gantryref05_Neg.er := by kernel_rfl
theorem integer_of_c : compF Tryz.prog Tryz.f127 = some integer_of.er := by kernel_rfl
theorem integer_plus_c : compF Tryz.prog Tryz.f128 = some integer_plus.er := by kernel_rfl
theorem integer_compare_c : compF Tryz.prog Tryz.f129 = some integer_compare.er := by kernel_rfl
theorem integer_minus_c : compF Tryz.prog Tryz.f130 = some integer_minus.er := by kernel_rfl
theorem rat_one_c : compF Tryz.prog Tryz.f131 = some rat_one.er := by kernel_rfl
theorem integer_Gcd_c : compF Tryz.prog Tryz.f132 = some integer_Gcd.er := by kernel_rfl
theorem rat_unit_c : compF Tryz.prog Tryz.f133 = some rat_unit.er := by kernel_rfl
theorem integer_Div_c : compF Tryz.prog Tryz.f134 = some integer_Div.er := by kernel_rfl
theorem integer_unsigned_c : compF Tryz.prog Tryz.f135 = some integer_unsigned.er := by kernel_rfl
theorem slices_Backward_api_Poly_api_Rat_1_c : compF Tryz.prog Tryz.f136 = some slices_Backward_api_Poly_api_Rat_1.er := by kernel_rfl
theorem gantryref06_At_c : compF Tryz.prog Tryz.f137 = some gantryref06_At.er := by kernel_rfl
theorem integer_Neg_c : compF Tryz.prog Tryz.f138 = some integer_Neg.er := by kernel_rfl
theorem integer_Compare_c : compF Tryz.prog Tryz.f139 = some integer_Compare.er := by kernel_rfl
theorem gantryref06_Eval_c : compF Tryz.prog Tryz.f140 = some gantryref06_Eval.er := by kernel_rfl
theorem gantryref06_Derive_c : compF Tryz.prog Tryz.f141 = some gantryref06_Derive.er := by kernel_rfl
theorem gantryref07_Chain_c : compF Tryz.prog Tryz.f142 = some gantryref07_Chain.er := by kernel_rfl
theorem gantryref06_Gcd_c : compF Tryz.prog Tryz.f143 = some gantryref06_Gcd.er := by kernel_rfl
theorem gantryref07_within_c : compF Tryz.prog Tryz.f144 = some gantryref07_within.er := by kernel_rfl
theorem gantryref07_counted_c : compF Tryz.prog Tryz.f145 = some gantryref07_counted.er := by kernel_rfl
theorem gantryref07_halved_c : compF Tryz.prog Tryz.f146 = some gantryref07_halved.er := by kernel_rfl
theorem poly_Free_c : compF Tryz.prog Tryz.f147 = some poly_Free.er := by kernel_rfl
theorem poly_Div_c : compF Tryz.prog Tryz.f148 = some poly_Div.er := by kernel_rfl
theorem poly_Gcd_c : compF Tryz.prog Tryz.f149 = some poly_Gcd.er := by kernel_rfl
theorem poly_Mul_c : compF Tryz.prog Tryz.f150 = some poly_Mul.er := by kernel_rfl
theorem sturm_counted_c : compF Tryz.prog Tryz.f151 = some sturm_counted.er := by kernel_rfl
theorem sturm_Chain_c : compF Tryz.prog Tryz.f152 = some sturm_Chain.er := by kernel_rfl
theorem convex_dot_c : compF Tryz.prog Tryz.f153 = some convex_dot.er := by kernel_rfl
theorem slices_MaxFunc_api_Point_api_Point_c : compF Tryz.prog Tryz.f154 = some slices_MaxFunc_api_Point_api_Point.er := by kernel_rfl
theorem convex_Most_1_c : compF Tryz.prog Tryz.f155 = some convex_Most_1.er := by kernel_rfl
theorem integer_Root_c : compF Tryz.prog Tryz.f156 = some integer_Root.er := by kernel_rfl
theorem integer_Small_c : compF Tryz.prog Tryz.f157 = some integer_Small.er := by kernel_rfl
theorem convex_gcd_c : compF Tryz.prog Tryz.f158 = some convex_gcd.er := by kernel_rfl
theorem cmp_isNaN_int_c : compF Tryz.prog Tryz.f159 = some cmp_isNaN_int.er := by kernel_rfl
theorem gantryref04_tiny_c : compF Tryz.prog Tryz.f160 = some gantryref04_tiny.er := by kernel_rfl
theorem gantryref04_divided_c : compF Tryz.prog Tryz.f161 = some gantryref04_divided.er := by kernel_rfl
theorem gantryref04_minus_c : compF Tryz.prog Tryz.f162 = some gantryref04_minus.er := by kernel_rfl
theorem gantryref04_compared_c : compF Tryz.prog Tryz.f163 = some gantryref04_compared.er := by kernel_rfl
theorem gantryref04_plus_c : compF Tryz.prog Tryz.f164 = some gantryref04_plus.er := by kernel_rfl
theorem integer_two_c : compF Tryz.prog Tryz.f165 = some integer_two.er := by kernel_rfl
theorem integer_divide_c : compF Tryz.prog Tryz.f166 = some integer_divide.er := by kernel_rfl
theorem gantryref06_Free_c : compF Tryz.prog Tryz.f167 = some gantryref06_Free.er := by kernel_rfl
theorem gantryref06_Div_c : compF Tryz.prog Tryz.f168 = some gantryref06_Div.er := by kernel_rfl
theorem gantryref06_Monic_c : compF Tryz.prog Tryz.f169 = some gantryref06_Monic.er := by kernel_rfl
theorem gantryref07_Middle_c : compF Tryz.prog Tryz.f170 = some gantryref07_Middle.er := by kernel_rfl
theorem gantryref07_Changes_c : compF Tryz.prog Tryz.f171 = some gantryref07_Changes.er := by kernel_rfl
theorem poly_Derive_c : compF Tryz.prog Tryz.f172 = some poly_Derive.er := by kernel_rfl
theorem poly_monic_c : compF Tryz.prog Tryz.f173 = some poly_monic.er := by kernel_rfl
theorem poly_made_c : compF Tryz.prog Tryz.f174 = some poly_made.er := by kernel_rfl
theorem poly_Mul_1_c : compF Tryz.prog Tryz.f175 = some poly_Mul_1.er := by kernel_rfl
theorem sturm_Changes_c : compF Tryz.prog Tryz.f176 = some sturm_Changes.er := by kernel_rfl
theorem sturm_next_c : compF Tryz.prog Tryz.f177 = some sturm_next.er := by kernel_rfl
theorem gantryref04_digit_c : compF Tryz.prog Tryz.f178 = some gantryref04_digit.er := by kernel_rfl
theorem gantryref04_times_c : compF Tryz.prog Tryz.f179 = some gantryref04_times.er := by kernel_rfl
theorem integer_short_c : compF Tryz.prog Tryz.f180 = some integer_short.er := by kernel_rfl
theorem integer_long_c : compF Tryz.prog Tryz.f181 = some integer_long.er := by kernel_rfl
theorem poly_Derive_1_c : compF Tryz.prog Tryz.f182 = some poly_Derive_1.er := by kernel_rfl
theorem poly_Scale_c : compF Tryz.prog Tryz.f183 = some poly_Scale.er := by kernel_rfl
theorem integer_scaled_c : compF Tryz.prog Tryz.f184 = some integer_scaled.er := by kernel_rfl
theorem poly_Scale_1_c : compF Tryz.prog Tryz.f185 = some poly_Scale_1.er := by kernel_rfl
theorem ft_ok : ∀ f cf, ft f = some cf → ∃ fn, Tryz.prog.funcs[f]? = some fn ∧ compF Tryz.prog fn = some cf.er := by
  intro f cf h
  unfold ft at h
  split at h
  · cases h; exact ⟨_, Tryz.func3, gantrylaw13_GapFinds_c⟩
  · cases h; exact ⟨_, Tryz.func4, gantrylaw13_GapAlong_c⟩
  · cases h; exact ⟨_, Tryz.func5, gantrylaw13_GapStays_c⟩
  · cases h; exact ⟨_, Tryz.func6, gantrylaw13_GapKeeps_c⟩
  · cases h; exact ⟨_, Tryz.func7, gantrylaw13_GapTouches_c⟩
  · cases h; exact ⟨_, Tryz.func8, gantryref12_Shape_c⟩
  · cases h; exact ⟨_, Tryz.func9, gantryref12_Sides_c⟩
  · cases h; exact ⟨_, Tryz.func10, gantryref12_Vec_c⟩
  · cases h; exact ⟨_, Tryz.func11, gantryref01_At_c⟩
  · cases h; exact ⟨_, Tryz.func12, gantryref13_Touch_c⟩
  · cases h; exact ⟨_, Tryz.func13, gantryref13_Times_c⟩
  · cases h; exact ⟨_, Tryz.func14, gantryref05_Of_c⟩
  · cases h; exact ⟨_, Tryz.func15, gap_Free_c⟩
  · cases h; exact ⟨_, Tryz.func16, gantryref13_Free_c⟩
  · cases h; exact ⟨_, Tryz.func17, gap_Contact_c⟩
  · cases h; exact ⟨_, Tryz.func18, gantryref13_Contact_c⟩
  · cases h; exact ⟨_, Tryz.func19, gantryref13_Plus_c⟩
  · cases h; exact ⟨_, Tryz.func20, gap_Best_c⟩
  · cases h; exact ⟨_, Tryz.func21, gantryref13_Best_c⟩
  · cases h; exact ⟨_, Tryz.func22, gap_Meet_c⟩
  · cases h; exact ⟨_, Tryz.func23, gantryref13_Meet_c⟩
  · cases h; exact ⟨_, Tryz.func24, gantrylaw13_lives_c⟩
  · cases h; exact ⟨_, Tryz.func25, gap_Along_c⟩
  · cases h; exact ⟨_, Tryz.func26, gantryref05_Same_c⟩
  · cases h; exact ⟨_, Tryz.func27, gap_Gap_c⟩
  · cases h; exact ⟨_, Tryz.func28, gantryref13_Gap_c⟩
  · cases h; exact ⟨_, Tryz.func29, gantryref06_Same_c⟩
  · cases h; exact ⟨_, Tryz.func30, gantryref13_Along_c⟩
  · cases h; exact ⟨_, Tryz.func31, rat_Add_c⟩
  · cases h; exact ⟨_, Tryz.func32, gantryref13_Rate_c⟩
  · cases h; exact ⟨_, Tryz.func33, rat_Same_c⟩
  · cases h; exact ⟨_, Tryz.func34, poly_Eval_c⟩
  · cases h; exact ⟨_, Tryz.func35, rat_Of_c⟩
  · cases h; exact ⟨_, Tryz.func36, gantryref06_Small_c⟩
  · cases h; exact ⟨_, Tryz.func37, gantryref06_Trim_c⟩
  · cases h; exact ⟨_, Tryz.func38, gantryref06_Mul_c⟩
  · cases h; exact ⟨_, Tryz.func39, gantryref06_Sub_c⟩
  · cases h; exact ⟨_, Tryz.func40, gantryref01_Around_c⟩
  · cases h; exact ⟨_, Tryz.func41, gantryref06_Scale_c⟩
  · cases h; exact ⟨_, Tryz.func42, gap_Stays_c⟩
  · cases h; exact ⟨_, Tryz.func43, gantryref13_Stays_c⟩
  · cases h; exact ⟨_, Tryz.func44, sturm_Stays_c⟩
  · cases h; exact ⟨_, Tryz.func45, convex_Sides_c⟩
  · cases h; exact ⟨_, Tryz.func46, convex_Sum_c⟩
  · cases h; exact ⟨_, Tryz.func47, rat_Mul_c⟩
  · cases h; exact ⟨_, Tryz.func48, rat_Sign_c⟩
  · cases h; exact ⟨_, Tryz.func49, convex_Has_c⟩
  · cases h; exact ⟨_, Tryz.func50, gantryref12_Move_c⟩
  · cases h; exact ⟨_, Tryz.func51, gantryref12_Norm_c⟩
  · cases h; exact ⟨_, Tryz.func52, gantryref12_Next_c⟩
  · cases h; exact ⟨_, Tryz.func53, gantryref12_Turn_c⟩
  · cases h; exact ⟨_, Tryz.func54, gantryref12_Most_c⟩
  · cases h; exact ⟨_, Tryz.func55, gantryref12_Sum_c⟩
  · cases h; exact ⟨_, Tryz.func56, gantryref13_Minus_c⟩
  · cases h; exact ⟨_, Tryz.func57, gantryref05_Mul_c⟩
  · cases h; exact ⟨_, Tryz.func58, gantryref05_Make_c⟩
  · cases h; exact ⟨_, Tryz.func59, gantryref04_Of_c⟩
  · cases h; exact ⟨_, Tryz.func60, slices_IndexFunc_api_Edge_api_Edge_c⟩
  · cases h; exact ⟨_, Tryz.func61, gap_Free_1_c⟩
  · cases h; exact ⟨_, Tryz.func62, gap_Contact_1_c⟩
  · cases h; exact ⟨_, Tryz.func63, gap_rate_c⟩
  · cases h; exact ⟨_, Tryz.func64, slices_ContainsFunc_api_Edge_api_Edge_c⟩
  · cases h; exact ⟨_, Tryz.func65, gap_greatest_api_Edge_c⟩
  · cases h; exact ⟨_, Tryz.func66, gap_Contact_2_c⟩
  · cases h; exact ⟨_, Tryz.func67, gantryref05_Sign_c⟩
  · cases h; exact ⟨_, Tryz.func68, gantryref05_Compare_c⟩
  · cases h; exact ⟨_, Tryz.func69, gantryref05_Add_c⟩
  · cases h; exact ⟨_, Tryz.func70, gap_Best_1_c⟩
  · cases h; exact ⟨_, Tryz.func71, gap_Meet_1_c⟩
  · cases h; exact ⟨_, Tryz.func72, gantrylaw13_vec_c⟩
  · cases h; exact ⟨_, Tryz.func73, poly_Trim_c⟩
  · cases h; exact ⟨_, Tryz.func74, gantryref04_Same_c⟩
  · cases h; exact ⟨_, Tryz.func75, rat_Sub_c⟩
  · cases h; exact ⟨_, Tryz.func76, gantryref05_Div_c⟩
  · cases h; exact ⟨_, Tryz.func77, gantryref05_Sub_c⟩
  · cases h; exact ⟨_, Tryz.func78, gantryref12_Dot_c⟩
  · cases h; exact ⟨_, Tryz.func79, integer_Add_c⟩
  · cases h; exact ⟨_, Tryz.func80, rat_Den_c⟩
  · cases h; exact ⟨_, Tryz.func81, rat_Make_c⟩
  · cases h; exact ⟨_, Tryz.func82, integer_Mul_c⟩
  · cases h; exact ⟨_, Tryz.func83, rat_Same_1_c⟩
  · cases h; exact ⟨_, Tryz.func84, slices_Equal_int_int_c⟩
  · cases h; exact ⟨_, Tryz.func85, slices_Backward_api_Poly_api_Rat_c⟩
  · cases h; exact ⟨_, Tryz.func86, integer_Of_c⟩
  · cases h; exact ⟨_, Tryz.func87, gantryref06_Add_c⟩
  · cases h; exact ⟨_, Tryz.func88, rat_Div_c⟩
  · cases h; exact ⟨_, Tryz.func89, rat_Neg_c⟩
  · cases h; exact ⟨_, Tryz.func90, rat_Compare_c⟩
  · cases h; exact ⟨_, Tryz.func91, gantryref07_Stays_c⟩
  · cases h; exact ⟨_, Tryz.func92, sturm_Stays_1_c⟩
  · cases h; exact ⟨_, Tryz.func93, sturm_odd_c⟩
  · cases h; exact ⟨_, Tryz.func94, sturm_Count_c⟩
  · cases h; exact ⟨_, Tryz.func95, sturm_middle_c⟩
  · cases h; exact ⟨_, Tryz.func96, convex_Sides_1_c⟩
  · cases h; exact ⟨_, Tryz.func97, convex_Sides_1_1_c⟩
  · cases h; exact ⟨_, Tryz.func98, convex_Most_c⟩
  · cases h; exact ⟨_, Tryz.func99, convex_turned_c⟩
  · cases h; exact ⟨_, Tryz.func100, convex_Norm_c⟩
  · cases h; exact ⟨_, Tryz.func101, convex_next_c⟩
  · cases h; exact ⟨_, Tryz.func102, slices_MinFunc_api_Point_api_Point_c⟩
  · cases h; exact ⟨_, Tryz.func103, convex_Sum_1_c⟩
  · cases h; exact ⟨_, Tryz.func104, cmp_Or_int_c⟩
  · cases h; exact ⟨_, Tryz.func105, cmp_Compare_int_c⟩
  · cases h; exact ⟨_, Tryz.func106, convex_cross_c⟩
  · cases h; exact ⟨_, Tryz.func107, convex_far_c⟩
  · cases h; exact ⟨_, Tryz.func108, rat_lowest_c⟩
  · cases h; exact ⟨_, Tryz.func109, integer_Sign_c⟩
  · cases h; exact ⟨_, Tryz.func110, gantryref04_Root_c⟩
  · cases h; exact ⟨_, Tryz.func111, gantryref04_Small_c⟩
  · cases h; exact ⟨_, Tryz.func112, gantryref12_divisor_c⟩
  · cases h; exact ⟨_, Tryz.func113, gantryref12_size_c⟩
  · cases h; exact ⟨_, Tryz.func114, gantryref12_Left_c⟩
  · cases h; exact ⟨_, Tryz.func115, gantryref04_Mul_c⟩
  · cases h; exact ⟨_, Tryz.func116, gantryref05_Den_c⟩
  · cases h; exact ⟨_, Tryz.func117, gantryref04_Gcd_c⟩
  · cases h; exact ⟨_, Tryz.func118, gantryref04_Div_c⟩
  · cases h; exact ⟨_, Tryz.func119, gantryref04_Neg_c⟩
  · cases h; exact ⟨_, Tryz.func120, gantryref05_one_c⟩
  · cases h; exact ⟨_, Tryz.func121, gantryref04_normal_c⟩
  · cases h; exact ⟨_, Tryz.func122, gantryref04_Sign_c⟩
  · cases h; exact ⟨_, Tryz.func123, gantryref04_Compare_c⟩
  · cases h; exact ⟨_, Tryz.func124, gantryref04_Add_c⟩
  · cases h; exact ⟨_, Tryz.func125, slices_Clone_api_Poly_api_Rat_c⟩
  · cases h; exact ⟨_, Tryz.func126, gantryref05_Neg_c⟩
  · cases h; exact ⟨_, Tryz.func127, integer_of_c⟩
  · cases h; exact ⟨_, Tryz.func128, integer_plus_c⟩
  · cases h; exact ⟨_, Tryz.func129, integer_compare_c⟩
  · cases h; exact ⟨_, Tryz.func130, integer_minus_c⟩
  · cases h; exact ⟨_, Tryz.func131, rat_one_c⟩
  · cases h; exact ⟨_, Tryz.func132, integer_Gcd_c⟩
  · cases h; exact ⟨_, Tryz.func133, rat_unit_c⟩
  · cases h; exact ⟨_, Tryz.func134, integer_Div_c⟩
  · cases h; exact ⟨_, Tryz.func135, integer_unsigned_c⟩
  · cases h; exact ⟨_, Tryz.func136, slices_Backward_api_Poly_api_Rat_1_c⟩
  · cases h; exact ⟨_, Tryz.func137, gantryref06_At_c⟩
  · cases h; exact ⟨_, Tryz.func138, integer_Neg_c⟩
  · cases h; exact ⟨_, Tryz.func139, integer_Compare_c⟩
  · cases h; exact ⟨_, Tryz.func140, gantryref06_Eval_c⟩
  · cases h; exact ⟨_, Tryz.func141, gantryref06_Derive_c⟩
  · cases h; exact ⟨_, Tryz.func142, gantryref07_Chain_c⟩
  · cases h; exact ⟨_, Tryz.func143, gantryref06_Gcd_c⟩
  · cases h; exact ⟨_, Tryz.func144, gantryref07_within_c⟩
  · cases h; exact ⟨_, Tryz.func145, gantryref07_counted_c⟩
  · cases h; exact ⟨_, Tryz.func146, gantryref07_halved_c⟩
  · cases h; exact ⟨_, Tryz.func147, poly_Free_c⟩
  · cases h; exact ⟨_, Tryz.func148, poly_Div_c⟩
  · cases h; exact ⟨_, Tryz.func149, poly_Gcd_c⟩
  · cases h; exact ⟨_, Tryz.func150, poly_Mul_c⟩
  · cases h; exact ⟨_, Tryz.func151, sturm_counted_c⟩
  · cases h; exact ⟨_, Tryz.func152, sturm_Chain_c⟩
  · cases h; exact ⟨_, Tryz.func153, convex_dot_c⟩
  · cases h; exact ⟨_, Tryz.func154, slices_MaxFunc_api_Point_api_Point_c⟩
  · cases h; exact ⟨_, Tryz.func155, convex_Most_1_c⟩
  · cases h; exact ⟨_, Tryz.func156, integer_Root_c⟩
  · cases h; exact ⟨_, Tryz.func157, integer_Small_c⟩
  · cases h; exact ⟨_, Tryz.func158, convex_gcd_c⟩
  · cases h; exact ⟨_, Tryz.func159, cmp_isNaN_int_c⟩
  · cases h; exact ⟨_, Tryz.func160, gantryref04_tiny_c⟩
  · cases h; exact ⟨_, Tryz.func161, gantryref04_divided_c⟩
  · cases h; exact ⟨_, Tryz.func162, gantryref04_minus_c⟩
  · cases h; exact ⟨_, Tryz.func163, gantryref04_compared_c⟩
  · cases h; exact ⟨_, Tryz.func164, gantryref04_plus_c⟩
  · cases h; exact ⟨_, Tryz.func165, integer_two_c⟩
  · cases h; exact ⟨_, Tryz.func166, integer_divide_c⟩
  · cases h; exact ⟨_, Tryz.func167, gantryref06_Free_c⟩
  · cases h; exact ⟨_, Tryz.func168, gantryref06_Div_c⟩
  · cases h; exact ⟨_, Tryz.func169, gantryref06_Monic_c⟩
  · cases h; exact ⟨_, Tryz.func170, gantryref07_Middle_c⟩
  · cases h; exact ⟨_, Tryz.func171, gantryref07_Changes_c⟩
  · cases h; exact ⟨_, Tryz.func172, poly_Derive_c⟩
  · cases h; exact ⟨_, Tryz.func173, poly_monic_c⟩
  · cases h; exact ⟨_, Tryz.func174, poly_made_c⟩
  · cases h; exact ⟨_, Tryz.func175, poly_Mul_1_c⟩
  · cases h; exact ⟨_, Tryz.func176, sturm_Changes_c⟩
  · cases h; exact ⟨_, Tryz.func177, sturm_next_c⟩
  · cases h; exact ⟨_, Tryz.func178, gantryref04_digit_c⟩
  · cases h; exact ⟨_, Tryz.func179, gantryref04_times_c⟩
  · cases h; exact ⟨_, Tryz.func180, integer_short_c⟩
  · cases h; exact ⟨_, Tryz.func181, integer_long_c⟩
  · cases h; exact ⟨_, Tryz.func182, poly_Derive_1_c⟩
  · cases h; exact ⟨_, Tryz.func183, poly_Scale_c⟩
  · cases h; exact ⟨_, Tryz.func184, integer_scaled_c⟩
  · cases h; exact ⟨_, Tryz.func185, poly_Scale_1_c⟩
  · cases h
end Go.AM

/- The seat's functions, and that their small texts are theirs. -/
namespace Go.AM
open Go Go.Proofs
/-- What the seat's iterators yield. -/
class Its where
  it : Nat → List D → Option (List (List D))
  orc : Nat → List D → Option R := fun _ _ => none
abbrev noIts : Its := { it := fun _ _ => none }
def G [Its] : Env := ⟨ft, Its.orc, Its.it⟩
theorem env_okO [Its] (h : ∀ f ds xs, Its.it f ds = some xs → ItOk Tryz.prog f ds xs) (ho : ∀ f ds r, ft f = none → Its.orc f ds = some r → CallOk Tryz.prog f ds r) : EnvOk Tryz.prog G := ⟨by kernel_rfl, ft_ok, ho, h⟩
theorem env_ok [Its] (h : ∀ f ds xs, Its.it f ds = some xs → ItOk Tryz.prog f ds xs) (h0 : ∀ f ds, (Its.orc f ds : Option R) = none := by intros; rfl) : EnvOk Tryz.prog G := env_okO h fun f ds r _ h => by rw [h0] at h; cases h
theorem env_ok0 : EnvOk Tryz.prog (@G noIts) := @env_ok noIts (fun _ _ _ h => by cases h) (fun _ _ => rfl)
end Go.AM

/- How the evaluator is run by simp: its equations, and lemmas on data. -/
namespace Go.AM
open Go Go.RowKit


theorem upd_get (f : Fr) (i j : Nat) (x : A) : upd f i x j = if j = i then some x else f j := rfl
theorem hupd_get (f : Hp) (i j : Key) (x : Obj) : hupd f i x j = if j = i then some x else f j := rfl
theorem updO_some (f : Fr) (i : Nat) (x : A) : updO f i (some x) = upd f i x := rfl
theorem hupdO_some (f : Hp) (i : Key) (x : Obj) : hupdO f i (some x) = hupd f i x := rfl
theorem updO_get (f : Fr) (i j : Nat) (x : Option A) : updO f i x j = if j = i then x else f j := rfl
theorem hupdO_get (f : Hp) (i j : Key) (x : Option Obj) : hupdO f i x j = if j = i then x else f j := rfl
theorem fr0_get (i : Nat) : fr0 i = none := rfl
theorem hp0_get (i : Key) : hp0 i = none := rfl

/-- The wrap of a number, behind a wall: nobody unfolds it. -/
theorem w64_ex : ∃ f : Int → Int, ∀ n, IntKind.i64.wrap n = f n := ⟨_, fun _ => rfl⟩
noncomputable def w64 : Int → Int := Classical.choose w64_ex
theorem wrap_i64 (n : Int) : IntKind.i64.wrap n = w64 n := Classical.choose_spec w64_ex n
theorem w64_id {n : Int} (h0 : -9223372036854775808 ≤ n) (h1 : n < 9223372036854775808) : w64 n = n := by
  rw [← wrap_i64]
  unfold IntKind.wrap
  simp only [IntKind.signed, IntKind.bits, Bool.true_and, decide_eq_true_eq, ge_iff_le]
  by_cases h : (2 : Int) ^ (64 - 1) ≤ n % 2 ^ 64
  · rw [if_pos h]; omega
  · rw [if_neg h]; omega

theorem bind_ite {α β : Type} (c : Prop) [Decidable c] (x y : Option α) (f : α → Option β) : (if c then x else y).bind f = if c then x.bind f else y.bind f := by split <;> rfl
theorem map_ite {α β : Type} (c : Prop) [Decidable c] (x y : Option α) (f : α → β) : (if c then x else y).map f = if c then x.map f else y.map f := by split <;> rfl
/-! ### Rows of numbers -/
def dg (l : List Int) : D := if l = [] then .z true else .row l.length (l.map iv)
theorem dg_nil : dg [] = .z true := rfl
theorem dg_cons (x : Int) (l : List Int) : dg (x :: l) = .row (l.length + 1) (iv x :: l.map iv) := rfl
theorem dg_ne {l : List Int} (h : l ≠ []) : dg l = .row l.length (l.map iv) := if_neg h

theorem lenA_dg (l : List Int) : lenA (.d (dg l)) = some l.length := by
  cases l with
  | nil => rfl
  | cons x l => rfl
theorem ixa_dg (h : Hp) (l : List Int) {j : Int} (h0 : 0 ≤ j) (h1 : j < l.length) : ixaA h 1 j (.d (dg l)) = some (.d (.rp ((l.drop j.toNat).map iv))) := by
  have hl : l ≠ [] := by rintro rfl; simp at h1; omega
  rw [dg_ne hl]
  simp only [ixaA, guardO]
  rw [if_pos ⟨h0, h1⟩, Nat.mul_one, List.map_drop]
theorem load_rp_ints (h : Hp) (l : List Int) {j : Nat} (h1 : j < l.length) : loadA h none (.d (.rp ((l.drop j).map iv))) = some (.d (.v (.int .i64 (l.getD j 0)))) := by
  simp only [loadA, ldrow]
  rw [List.head?_map, List.head?_drop]
  simp [h1, iv]
theorem src_dg (st : St) (l : List Int) : src st (.d (dg l)) = some (l.length, l.map iv) := by
  cases l with
  | nil => rfl
  | cons x l => rfl
/-! ### The helpers at each kind of value -/
theorem lenA_z (b : Bool) : lenA (.d (.z b)) = some 0 := rfl
theorem lenA_row (n : Nat) (cs : List D) : lenA (.d (.row n cs)) = some n := rfl
theorem lenA_own (k : Key) (n : Nat) : lenA (.own k n) = some n := rfl
theorem loadA_ptr (h : Hp) (sz : Option Nat) (k : Key) (off : Nat) : loadA h sz (.ptr k off) = (h k).bind fun o => ldcells sz off o.cs := rfl
theorem loadA_ep (h : Hp) (sz : Option Nat) (k : Key) (n off : Nat) : loadA h sz (.ep k n off) = (h k).bind fun o => guardO (o.n = n) (ldcells sz off o.cs) := rfl
theorem loadA_rc (h : Hp) (f : Nat) : loadA h none (.d (.rc f)) = some (.d (.fn f [.rc f])) := rfl
theorem fadA_ptr (i : Nat) (k : Key) (o : Nat) : fadA i (.ptr k o) = some (.ptr k (o + i)) := rfl
theorem fadA_ep (i : Nat) (k : Key) (n o : Nat) : fadA i (.ep k n o) = some (.ep k n (o + i)) := rfl
theorem fadA_rp (i : Nat) (cs : List D) : fadA i (.d (.rp cs)) = some (.d (.rp (cs.drop i))) := rfl
theorem ixaA_own (h : Hp) (es : Nat) (j : Int) (q : Key) (n : Nat) : ixaA h es j (.own q n) = (h q).bind fun o => guardO (o.n = n ∧ 0 ≤ j ∧ j < n) (some (.ep q n (j.toNat * es))) := rfl
theorem storeA_ptr (h : Hp) (v : A) (k : Key) (off : Nat) : storeA h v (.ptr k off) = (h k).bind fun o => guardO (o.fz = false) ((stcells off (cellsOf v) o.cs).map fun cs => hupd h k { o with cs }) := rfl
theorem storeA_ep (h : Hp) (v : A) (k : Key) (n off : Nat) : storeA h v (.ep k n off) = (h k).bind fun o => guardO (o.fz = false ∧ o.n = n) ((allD (cellsOf v)).bind fun _ => (stcells off (cellsOf v) o.cs).map fun cs => hupd h k { o with cs }) := rfl
theorem strA_s (s : ByteArray) : strA (.d (.v (.string s))) = some s := rfl
theorem valA_v (x : Value) : valA (.d (.v x)) = some x := rfl
theorem aggA_g (cs : List D) : aggA (.d (.agg cs)) = some cs := rfl
theorem extA_t (i : Nat) (xs : List D) : extA i (.d (.tup xs)) = (xs[i]?).map .d := rfl
theorem fnA_f (f : Nat) (c : List D) : fnA (.d (.fn f c)) = some (f, c) := rfl
theorem int_i (k : IntKind) (n : Int) : A.int? (.d (.v (.int k n))) = some n := rfl
theorem bool_b (b : Bool) : A.bool? (.d (.v (.bool b))) = some b := rfl
theorem argD_d (st : St) (x : D) : argD st (.d x) = some (x, true) := rfl
theorem argD_own (st : St) (k : Key) (n : Nat) : argD st (.own k n) = (st.hp k).bind fun o => guardO (o.n = n) ((allD o.cs).map fun cs => (.row n cs, o.fz)) := rfl
theorem toD_d (st : St) (x : D) : toD st (.d x) = some x := rfl
theorem toD_own (st : St) (k : Key) (n : Nat) : toD st (.own k n) = (st.hp k).bind fun o => guardO (o.n = n) ((allD o.cs).map fun cs => .row n cs) := rfl
theorem retA_d (k : Key) (h : Hp) (ad fz : Bool) (x : D) : retA k h ad fz (.d x) = guardO (fz = true ∨ x.flat = true) (some (.d x, h)) := rfl
theorem retA_own (k : Key) (h : Hp) (ad fz : Bool) (es n : Nat) (cs : List D) : retA k h ad fz (.own es n cs) = guardO (fz = true) (mkA k h (!ad) es n cs) := rfl
theorem mkA_t (k : Key) (h : Hp) (es n : Nat) (cs : List D) : mkA k h true es n cs = some (.d (.row n cs), h) := rfl
theorem mkA_f (k : Key) (h : Hp) (es n : Nat) (cs : List D) : mkA k h false es n cs = guardO ((h k).isNone = true) (some (.own k n, hupd h k ⟨es, n, cs.map .d, false⟩)) := rfl
theorem appA_z (k : Key) (h : Hp) (fz : Bool) (es by_ m : Nat) (ys : List D) (b : Bool) : appA k h fz es by_ m ys (.d (.z b)) =
    guardO (m * by_ ≤ bound ∧ ys.length = m * es) (if m = 0 then some (.d (.z b), h) else mkA k h fz es m ys) := rfl
theorem appA_own (k : Key) (h : Hp) (fz : Bool) (es by_ m : Nat) (ys : List D) (q : Key) (n : Nat) : appA k h fz es by_ m ys (.own q n) =
    (h q).bind fun o => guardO (o.n = n ∧ o.fz = false ∧ o.es = es ∧ o.cs.length = n * es ∧ (n + m) * by_ ≤ bound ∧ ys.length = m * es ∧ ys.all D.one = true)
      (if fz then (allD o.cs).map fun cs => (.d (.row (n + m) (cs ++ ys)), hupd h q ⟨es, n + m, o.cs ++ ys.map .d, true⟩)
       else some (.own q (n + m), hupd h q ⟨es, n + m, o.cs ++ ys.map .d, false⟩)) := rfl
theorem ex_n_x (i : Nat) : (Ex.n = Ex.x i) = False := by simp
theorem ex_x_n (i : Nat) : (Ex.x i = Ex.n) = False := by simp
theorem ex_x_x (i j : Nat) : (Ex.x i = Ex.x j) = (i = j) := by simp
theorem ex_r_n : (Ex.r = Ex.n) = False := by simp
theorem ex_r_x (i : Nat) : (Ex.r = Ex.x i) = False := by simp
theorem ex_n_n : (Ex.n = Ex.n) = True := by simp

theorem bind_congr_l {α β : Type} {x y : Option α} {f : α → Option β} (h : x = y) : x.bind f = y.bind f := by rw [h]
theorem map_congr_l {α β : Type} {x y : Option α} {f : α → β} (h : x = y) : x.map f = y.map f := by rw [h]

attribute [go_sem] X_seq X_reg X_cond X_blk X_keep X_frz X_exit X_ret X_skip exs exO act wantedO putO E.ev allE argsD upd_get hupd_get fr0_get hp0_get
  Option.bind_some Option.map_some Option.bind_none Option.map_none Option.getD_some Option.getD_none Option.isNone_none Option.isNone_some guardO binV binI shOp undefA iA
  endOf ending resL resV argF keepSt keepF keepH keepRefs keepRefsH refsO refsOO updO_some hupdO_some updO_get hupdO_get refs refsL List.all_nil List.all_cons wrap_i64 bind_ite map_ite
  lenA_z lenA_row lenA_own loadA_ptr loadA_ep loadA_rc fadA_ptr fadA_ep fadA_rp ixaA_own storeA_ptr storeA_ep strA_s valA_v aggA_g extA_t fnA_f int_i bool_b argD_d argD_own toD_d toD_own
  retA_d retA_own mkA_t mkA_f appA_z appA_own lenA_dg ex_n_x ex_x_n ex_x_x ex_r_n ex_r_x ex_n_n
theorem key1 (a b : Nat) : (([a] : Key) = [b]) = (a = b) := by simp
theorem tt_true : (true = true) = True := by simp
theorem ft_false : (false = true) = False := by simp
theorem lenD1 (a : D) : ([a] : List D).length = 1 := rfl
theorem lenD2 (a b : D) : ([a, b] : List D).length = 2 := rfl
theorem lenD3 (a b c : D) : ([a, b, c] : List D).length = 3 := rfl
theorem lenD4 (a b c d : D) : ([a, b, c, d] : List D).length = 4 := rfl
attribute [go_sem] lenD1 lenD2 lenD3 lenD4 key1 Key.isIn List.any_cons List.any_nil tt_true ft_false decide_true decide_false Bool.and_true Bool.true_and Bool.and_self Bool.or_true Bool.true_or Bool.or_false Bool.false_or and_true true_and and_self
theorem ge_t {a b : Int} (h : a ≥ b) : decide (a ≥ b) = true := decide_eq_true h
theorem ge_f {a b : Int} (h : ¬ a ≥ b) : decide (a ≥ b) = false := decide_eq_false h
theorem gt_t {a b : Int} (h : a > b) : decide (a > b) = true := decide_eq_true h
theorem gt_f {a b : Int} (h : ¬ a > b) : decide (a > b) = false := decide_eq_false h
theorem lt_t {a b : Int} (h : a < b) : decide (a < b) = true := decide_eq_true h
theorem lt_f {a b : Int} (h : ¬ a < b) : decide (a < b) = false := decide_eq_false h
theorem le_t {a b : Int} (h : a ≤ b) : decide (a ≤ b) = true := decide_eq_true h
theorem le_f {a b : Int} (h : ¬ a ≤ b) : decide (a ≤ b) = false := decide_eq_false h
theorem beq_t {a b : Int} (h : a = b) : (a == b) = true := by simp [h]
theorem beq_f {a b : Int} (h : a ≠ b) : (a == b) = false := by simp [h]
theorem bne_t {a b : Int} (h : a ≠ b) : (a != b) = true := by simp [h]
theorem bne_f {a b : Int} (h : a = b) : (a != b) = false := by simp [h]
theorem ofNat_cast (n : Nat) : Int.ofNat n = (n : Int) := rfl
theorem one_int (k : IntKind) (n : Int) : A.one (.d (.v (.int k n))) = true := rfl
theorem one_bool (b : Bool) : A.one (.d (.v (.bool b))) = true := rfl
theorem one_str (b : ByteArray) : A.one (.d (.v (.string b))) = true := rfl
theorem one_z (b : Bool) : A.one (.d (.z b)) = true := rfl
theorem one_row (n : Nat) (cs : List D) : A.one (.d (.row n cs)) = true := rfl
theorem one_own (k : Key) (n : Nat) : A.one (.own k n) = true := rfl
theorem one_ptr (k : Key) (n : Nat) : A.one (.ptr k n) = true := rfl
theorem one_dg' (l : List Int) : A.one (.d (dg l)) = true := by cases l <;> rfl
theorem one_agg (cs : List D) : A.one (.d (.agg cs)) = false := rfl
theorem cells_agg (cs : List D) : cellsOf (.d (.agg cs)) = cs.map .d := rfl
theorem cells_int (k : IntKind) (n : Int) : cellsOf (.d (.v (.int k n))) = [.d (.v (.int k n))] := rfl
theorem cells_bool (b : Bool) : cellsOf (.d (.v (.bool b))) = [.d (.v (.bool b))] := rfl
theorem cells_str (b : ByteArray) : cellsOf (.d (.v (.string b))) = [.d (.v (.string b))] := rfl
theorem cells_z (b : Bool) : cellsOf (.d (.z b)) = [.d (.z b)] := rfl
theorem cells_row (n : Nat) (cs : List D) : cellsOf (.d (.row n cs)) = [.d (.row n cs)] := rfl
theorem cells_dg (l : List Int) : cellsOf (.d (dg l)) = [.d (dg l)] := by cases l <;> rfl
theorem cells_own (k : Key) (n : Nat) : cellsOf (.own k n) = [.own k n] := rfl
theorem cells_ptr (k : Key) (n : Nat) : cellsOf (.ptr k n) = [.ptr k n] := rfl
theorem dc_agg (cs : List D) : dcells (.d (.agg cs)) = some cs := rfl
theorem dc_int (k : IntKind) (n : Int) : dcells (.d (.v (.int k n))) = some [.v (.int k n)] := rfl
theorem dc_bool (b : Bool) : dcells (.d (.v (.bool b))) = some [.v (.bool b)] := rfl
theorem dc_str (b : ByteArray) : dcells (.d (.v (.string b))) = some [.v (.string b)] := rfl
theorem dc_z (b : Bool) : dcells (.d (.z b)) = some [.z b] := rfl
theorem dc_row (n : Nat) (cs : List D) : dcells (.d (.row n cs)) = some [.row n cs] := rfl
theorem dc_dg (l : List Int) : dcells (.d (dg l)) = some [dg l] := by cases l <;> rfl
theorem dc_fn (f : Nat) (cs : List D) : dcells (.d (.fn f cs)) = some [.fn f cs] := rfl
theorem rep_1 (z : D) : rep 1 [z] = [z] := rfl
theorem rep_2 (z : D) : rep 2 [z] = [z, z] := rfl
theorem rep_3 (z : D) : rep 3 [z] = [z, z, z] := rfl
theorem wrap_u64 (n : Int) : IntKind.u64.wrap n = n % 18446744073709551616 := by
  unfold IntKind.wrap
  simp [IntKind.signed, IntKind.bits]
theorem base_ne : ((1000000000 : Int) = 0) = False := by simp
theorem nc0 : ((0 : Nat) : Int) = 0 := rfl
theorem toNat0 : Int.toNat 0 = 0 := rfl
theorem ob_ft : (some false = some true) = False := by simp
theorem ob_tf : (some true = some false) = False := by simp
theorem ob_tt : (some true = some true) = True := by simp
theorem ob_ff : (some false = some false) = True := by simp
theorem tf_false : (true = false) = False := by simp
theorem ff_true : (false = false) = True := by simp
attribute [go_sem] rep_1 rep_2 rep_3 wrap_u64 base_ne fillD Nat.reduceMul Nat.reduceSub List.getElem?_cons_zero List.getElem?_cons_succ List.getElem?_nil true_or or_true or_self false_or or_false and_false false_and nc0 toNat0 Nat.sub_zero Nat.mul_one Nat.zero_mul ofNat_cast List.map_cons List.map_nil List.length_cons List.length_nil Nat.reduceAdd Nat.reduceLeDiff List.take_succ_cons List.take_zero List.drop_succ_cons List.drop_zero List.drop_nil List.take_nil List.nil_append List.cons_append List.append_nil Int.toNat_natCast ob_ft ob_tf ob_tt ob_ff tf_false ff_true Bool.not_true Bool.not_false Bool.false_and Bool.and_false unV eqD slcA bnds optI cut srcS bytesD partsD partsB fillB D.flat ldrow allD one_int one_bool one_str one_z one_row one_own one_ptr one_dg' one_agg cells_agg cells_int cells_bool cells_str cells_z cells_row cells_dg cells_own cells_ptr dc_agg dc_int dc_bool dc_str dc_z dc_row dc_dg dc_fn
attribute [congr] bind_congr_l map_congr_l
end Go.AM

/- Numbers in digits: plain mathematics, no program in sight. -/
namespace Go.AM


def digs : Nat → List Int
  | 0 => []
  | n + 1 => (((n + 1) % 1000000000 : Nat) : Int) :: digs ((n + 1) / 1000000000)
  decreasing_by omega
def val : List Int → Int
  | [] => 0
  | d :: r => d + 1000000000 * val r
def Dig (l : List Int) : Prop := ∀ d ∈ l, 0 ≤ d ∧ d < 1000000000

theorem digs_zero : digs 0 = [] := by rw [digs]
theorem digs_pos {n : Nat} (h : 0 < n) : digs n = ((n % 1000000000 : Nat) : Int) :: digs (n / 1000000000) := by
  cases n with
  | zero => omega
  | succ n => rw [digs]
theorem Dig.nil : Dig [] := by intro d h; cases h
theorem Dig.cons {d : Int} {l : List Int} : Dig (d :: l) ↔ (0 ≤ d ∧ d < 1000000000) ∧ Dig l := by
  constructor
  · intro h; exact ⟨h d (by simp), fun e he => h e (by simp [he])⟩
  · rintro ⟨h1, h2⟩ e he
    rcases List.mem_cons.1 he with rfl | he
    · exact h1
    · exact h2 e he
theorem Dig.append {l m : List Int} : Dig (l ++ m) ↔ Dig l ∧ Dig m := by
  constructor
  · intro h; exact ⟨fun e he => h e (by simp [he]), fun e he => h e (by simp [he])⟩
  · rintro ⟨h1, h2⟩ e he
    rcases List.mem_append.1 he with he | he
    · exact h1 e he
    · exact h2 e he
theorem Dig.take {l : List Int} (h : Dig l) (n : Nat) : Dig (l.take n) := fun e he => h e (List.mem_of_mem_take he)
theorem Dig.drop {l : List Int} (h : Dig l) (n : Nat) : Dig (l.drop n) := fun e he => h e (List.mem_of_mem_drop he)
theorem Dig.getD {l : List Int} (h : Dig l) (i : Nat) : 0 ≤ l.getD i 0 ∧ l.getD i 0 < 1000000000 := by
  rw [List.getD_eq_getElem?_getD]
  cases hq : l[i]? with
  | none => simp
  | some x => exact h x (List.mem_of_getElem? hq)
theorem Dig.set {l : List Int} (h : Dig l) {i : Nat} {d : Int} (hd : 0 ≤ d ∧ d < 1000000000) : Dig (l.set i d) := by
  intro e he
  rcases List.mem_or_eq_of_mem_set he with he | rfl
  · exact h e he
  · exact hd
theorem Dig.replicate (n : Nat) : Dig (List.replicate n 0) := by
  intro e he
  rw [(List.mem_replicate.1 he).2]; omega

theorem digs_dig : ∀ n : Nat, Dig (digs n) := by
  intro n
  induction n using Nat.strongRecOn with
  | _ n ih =>
    rcases Nat.eq_zero_or_pos n with rfl | h
    · rw [digs_zero]; exact .nil
    · rw [digs_pos h, Dig.cons]
      exact ⟨by omega, ih _ (by omega)⟩
theorem val_digs : ∀ n : Nat, val (digs n) = n := by
  intro n
  induction n using Nat.strongRecOn with
  | _ n ih =>
    rcases Nat.eq_zero_or_pos n with rfl | h
    · rw [digs_zero]; rfl
    · rw [digs_pos h, val, ih _ (by omega)]
      omega
theorem val_nonneg : ∀ {l : List Int}, Dig l → 0 ≤ val l
  | [], _ => Int.le_refl _
  | d :: r, h => by
    obtain ⟨h1, h2⟩ := Dig.cons.1 h
    have := val_nonneg h2
    simp only [val]
    omega
theorem digs_ne {n : Nat} : digs n = [] ↔ n = 0 := by
  constructor
  · intro h
    rcases Nat.eq_zero_or_pos n with h' | h'
    · exact h'
    · rw [digs_pos h'] at h; cases h
  · rintro rfl; exact digs_zero
theorem digs_length_pos {n : Nat} : 0 < (digs n).length ↔ 0 < n := by
  rw [List.length_pos_iff, ne_eq, digs_ne]; omega

/-- Without zeros at the end. -/
def Top (l : List Int) : Prop := ∀ h : l ≠ [], l.getLast h ≠ 0
theorem digs_top : ∀ n : Nat, Top (digs n) := by
  intro n
  induction n using Nat.strongRecOn with
  | _ n ih =>
    intro h
    rcases Nat.eq_zero_or_pos n with rfl | hp
    · exact absurd digs_zero h
    · have e := digs_pos hp
      by_cases h0 : n / 1000000000 = 0
      · have : digs n = [((n % 1000000000 : Nat) : Int)] := by rw [e, h0, digs_zero]
        simp only [this, List.getLast_singleton]
        omega
      · have hne : digs (n / 1000000000) ≠ [] := by rw [ne_eq, digs_ne]; exact h0
        have : (digs n).getLast h = (digs (n / 1000000000)).getLast hne := by
          simp only [e]
          exact List.getLast_cons hne
        rw [this]
        exact ih _ (by omega) hne
/-- Digits without zeros at the end are those of their value. -/
theorem digs_val : ∀ {l : List Int}, Dig l → Top l → digs (val l).toNat = l
  | [], _, _ => digs_zero
  | d :: r, h, ht => by
    obtain ⟨h1, h2⟩ := Dig.cons.1 h
    have hv := val_nonneg h2
    have htr : Top r := by
      intro hne
      have := ht (by simp)
      rw [List.getLast_cons hne] at this
      exact this
    have ih := digs_val h2 htr
    have hpos : 0 < (val (d :: r)).toNat := by
      simp only [val]
      by_cases hr : r = []
      · subst hr
        have := ht (by simp)
        simp at this
        simp only [val]
        omega
      · have : val r ≠ 0 := by
          intro h0
          rw [h0] at ih
          exact hr (ih.symm.trans digs_zero)
        omega
    rw [digs_pos hpos]
    have e1 : ((val (d :: r)).toNat % 1000000000 : Nat) = d.toNat := by simp only [val]; omega
    have e2 : (val (d :: r)).toNat / 1000000000 = (val r).toNat := by simp only [val]; omega
    rw [e1, e2, ih]
    congr 1
    omega
theorem val_append : ∀ (l m : List Int), val (l ++ m) = val l + (1000000000 : Int) ^ l.length * val m
  | [], m => by simp [val]
  | d :: r, m => by
    rw [List.cons_append, val, val_append r m, val, List.length_cons]
    grind
theorem val_replicate : ∀ n : Nat, val (List.replicate n 0) = 0
  | 0 => rfl
  | n + 1 => by rw [List.replicate_succ, val, val_replicate n]; rfl
theorem val_lt : ∀ {l : List Int}, Dig l → val l < (1000000000 : Int) ^ l.length
  | [], _ => by simp [val]
  | d :: r, h => by
    obtain ⟨h1, h2⟩ := Dig.cons.1 h
    have := val_lt h2
    rw [val, List.length_cons, Int.pow_succ]
    grind
theorem val_set : ∀ (l : List Int) (i : Nat) (d : Int), i < l.length → val (l.set i d) = val l + (1000000000 : Int) ^ i * (d - l.getD i 0)
  | [], i, d, h => by simp at h
  | e :: r, 0, d, h => by simp [val]; omega
  | e :: r, i + 1, d, h => by
    rw [List.set_cons_succ, val, val, val_set r i d (by simpa using h)]
    simp only [List.getD_cons_succ]
    grind
theorem pow_mono {n m : Nat} (h : n ≤ m) : (1000000000 : Int) ^ n ≤ (1000000000 : Int) ^ m := by
  obtain ⟨k, rfl⟩ := Nat.exists_eq_add_of_le h
  rw [Int.pow_add]
  have h1 : (0 : Int) < (1000000000 : Int) ^ k := Int.pow_pos (by omega)
  have h2 : (0 : Int) ≤ (1000000000 : Int) ^ n := Int.pow_nonneg (by omega)
  have h3 : (1000000000 : Int) ^ n * 1 ≤ (1000000000 : Int) ^ n * (1000000000 : Int) ^ k := Int.mul_le_mul_of_nonneg_left (by omega) h2
  omega
end Go.AM

/- Integers as the program holds them. -/
namespace Go.AM
open Go Go.RowKit

def sgn (neg : Bool) (x : Int) : Int := if neg then -x else x
def encI (x : Int) : D := .agg [bv (decide (x < 0)), dg (digs x.natAbs)]
/-- A row of these numbers. -/
def rowI (l : List Int) : D := .row l.length (l.map iv)
def I64 (n : Int) : Prop := -9223372036854775808 ≤ n ∧ n < 9223372036854775808

theorem ixa_rowI (h : Hp) (l : List Int) {j : Int} (h0 : 0 ≤ j) (h1 : j < l.length) : ixaA h 1 j (.d (rowI l)) = some (.d (.rp ((l.drop j.toNat).map iv))) := by
  simp only [ixaA, guardO, rowI]
  rw [if_pos ⟨h0, h1⟩, Nat.mul_one, List.map_drop]
/-- Reads these numbers, nil or not. -/
def Rw (d : D) (l : List Int) : Prop := d = dg l ∨ d = rowI l
theorem Rw.dg (l : List Int) : Rw (dg l) l := .inl rfl
theorem Rw.row (l : List Int) : Rw (rowI l) l := .inr rfl
theorem Rw.len {d : D} {l : List Int} (h : Rw d l) : lenA (.d d) = some l.length := by
  rcases h with rfl | rfl
  · exact lenA_dg l
  · rfl
theorem Rw.ixa {d : D} {l : List Int} (hr : Rw d l) {j : Int} (h0 : 0 ≤ j) (h1 : j < l.length) (h : Hp) : ixaA h 1 j (.d d) = some (.d (.rp ((l.drop j.toNat).map iv))) := by
  rcases hr with rfl | rfl
  · exact ixa_dg h l h0 h1
  · exact ixa_rowI h l h0 h1
theorem Rw.ixn {d : D} {l : List Int} (hr : Rw d l) {j : Nat} (h1 : j < l.length) (h : Hp) : ixaA h 1 (j : Int) (.d d) = some (.d (.rp ((l.drop j).map iv))) := by
  have := hr.ixa (j := (j : Int)) (by omega) (by omega) h
  simpa using this
theorem Rw.src {d : D} {l : List Int} (hr : Rw d l) (st : St) : src st (.d d) = some (l.length, l.map iv) := by
  rcases hr with rfl | rfl
  · exact src_dg st l
  · rfl
theorem Rw.ne {d : D} {l : List Int} (hr : Rw d l) (h : l ≠ []) : d = rowI l := by
  rcases hr with rfl | rfl
  · exact dg_ne h
  · rfl
theorem ldv (h : Hp) (l : List Int) {j : Nat} (h1 : j < l.length) : loadA h none (.d (.rp ((l.drop j).map iv))) = some (.d (.v (.int .i64 (l.getD j 0)))) := load_rp_ints h l h1

/-- The length without zeros at the end of the first n. -/
def cutn (l : List Int) : Nat → Nat
  | 0 => 0
  | n + 1 => if l.getD n 0 = 0 then cutn l n else n + 1
theorem cutn_le (l : List Int) : ∀ n, cutn l n ≤ n
  | 0 => Nat.le_refl _
  | n + 1 => by
    rw [cutn]
    split
    · exact Nat.le_succ_of_le (cutn_le l n)
    · exact Nat.le_refl _
theorem val_take_succ (l : List Int) (n : Nat) (h : n < l.length) : val (l.take (n + 1)) = val (l.take n) + (1000000000 : Int) ^ n * l.getD n 0 := by
  have : l.take (n + 1) = l.take n ++ [l.getD n 0] := by
    rw [List.take_add_one]
    simp [List.getD, h]
  rw [this, val_append, List.length_take, Nat.min_eq_left (Nat.le_of_lt h)]
  simp [val]
theorem val_cutn (l : List Int) : ∀ n, n ≤ l.length → val (l.take (cutn l n)) = val (l.take n)
  | 0, _ => rfl
  | n + 1, h => by
    rw [cutn]
    split
    · rename_i h0
      rw [val_cutn l n (by omega), val_take_succ l n (by omega), h0]; omega
    · rfl
theorem top_cutn (l : List Int) : ∀ n, n ≤ l.length → Top (l.take (cutn l n))
  | 0, _ => by intro h; simp [cutn] at h
  | n + 1, h => by
    rw [cutn]
    split
    · exact top_cutn l n (by omega)
    · rename_i h0
      intro hne
      have : l.take (n + 1) = l.take n ++ [l.getD n 0] := by
        rw [List.take_add_one]
        simp [List.getD, (by omega : n < l.length)]
      simp only [this]
      rw [List.getLast_append_of_ne_nil _ (by simp)]
      simpa using h0
theorem digs_cutn {l : List Int} (hd : Dig l) : digs (val l).toNat = l.take (cutn l l.length) := by
  have h1 := val_cutn l l.length (Nat.le_refl _)
  rw [List.take_length] at h1
  rw [← h1]
  exact digs_val (hd.take _) (top_cutn l _ (Nat.le_refl _))
theorem cutn_zero {l : List Int} (hd : Dig l) : cutn l l.length = 0 ↔ val l = 0 := by
  have hc := cutn_le l l.length
  have h1 := digs_cutn hd
  have hv := val_nonneg hd
  constructor
  · intro h
    rw [h, List.take_zero, digs_ne] at h1
    omega
  · intro h
    rw [h] at h1
    have h2 : l.take (cutn l l.length) = [] := by rw [← h1]; exact digs_zero
    have := congrArg List.length h2
    simp at this
    rcases this with h' | h'
    · exact h'
    · subst h'; simp at hc; exact hc
theorem natAbs_sgn (neg : Bool) (x : Int) : (sgn neg x).natAbs = x.natAbs := by cases neg <;> simp [sgn]
theorem encI_sgn {neg : Bool} {l : List Int} (hd : Dig l) : encI (sgn neg (val l)) = if cutn l l.length = 0 then .agg [bv false, .z true] else .agg [bv neg, .row (cutn l l.length) ((l.map iv).take (cutn l l.length))] := by
  have hv := val_nonneg hd
  have hc := cutn_le l l.length
  by_cases h0 : cutn l l.length = 0
  · rw [if_pos h0, (cutn_zero hd).1 h0]
    have e : encI 0 = .agg [bv false, .z true] := by
      have : digs (0 : Int).natAbs = [] := digs_zero
      rw [encI, this]; rfl
    cases neg <;> exact e
  · rw [if_neg h0]
    have hne : val l ≠ 0 := fun h => h0 ((cutn_zero hd).2 h)
    have e1 : decide (sgn neg (val l) < 0) = neg := by
      cases neg
      · simp only [sgn, Bool.false_eq_true, if_false, decide_eq_false_iff_not]; omega
      · simp only [sgn, if_true, decide_eq_true_eq]; omega
    have e2 : (sgn neg (val l)).natAbs = (val l).toNat := by rw [natAbs_sgn]; omega
    have hne2 : l.take (cutn l l.length) ≠ [] := by
      intro h
      have := congrArg List.length h
      simp at this
      rcases this with h' | h'
      · exact h0 h'
      · subst h'; exact h0 rfl
    rw [encI, e1, e2, digs_cutn hd, dg_ne hne2, List.map_take]
    congr 3
    simp; omega

theorem val_take_set {l : List Int} {i : Nat} (d : Int) (h : i < l.length) : val ((l.set i d).take (i + 1)) = val (l.take i) + (1000000000 : Int) ^ i * d := by
  rw [val_take_succ _ _ (by simpa using h)]
  have e1 : (l.set i d).take i = l.take i := by
    apply List.ext_getElem?
    intro j
    simp only [List.getElem?_take, List.getElem?_set]
    split
    · rw [if_neg (by omega)]
    · rfl
  have e2 : (l.set i d).getD i 0 = d := by simp [List.getD, h]
  rw [e1, e2]
theorem getD_set_ne {l : List Int} {i j : Nat} (d : Int) (h : i ≠ j) : (l.set i d).getD j 0 = l.getD j 0 := by
  simp [List.getD, List.getElem?_set, h]
theorem val_take_getD (l : List Int) (n : Nat) : val (l.take (n + 1)) = val (l.take n) + (1000000000 : Int) ^ n * l.getD n 0 := by
  by_cases h : n < l.length
  · exact val_take_succ l n h
  · have e1 : l.take (n + 1) = l := List.take_of_length_le (by omega)
    have e2 : l.take n = l := List.take_of_length_le (by omega)
    have e3 : l.getD n 0 = 0 := by rw [List.getD_eq_getElem?_getD, List.getElem?_eq_none (by omega)]; rfl
    rw [e1, e2, e3]; omega

/-! ### Arrays of numbers that are written -/
def cellsI (l : List Int) : List A := l.map fun x => A.d (.v (.int .i64 x))
theorem cellsI_length (l : List Int) : (cellsI l).length = l.length := by simp [cellsI]
theorem stcells_I {l : List Int} {off : Nat} {v : Int} (h : off < l.length) : stcells off [A.d (.v (.int .i64 v))] (cellsI l) = some (cellsI (l.set off v)) := by
  rw [stcells, guardO, if_pos (by rw [cellsI_length]; simp; omega)]
  congr 1
  apply List.ext_getElem?
  intro j
  rw [seg_get _ _ _ (by rw [cellsI_length]; simp; omega)]
  simp only [List.length_cons, List.length_nil, cellsI, List.getElem?_map, List.getElem?_set]
  by_cases h1 : j < off
  · rw [if_pos h1, if_neg (by omega)]
  · rw [if_neg h1]
    by_cases h2 : j < off + (0 + 1)
    · obtain rfl : j = off := by omega
      simp [h]
    · rw [if_neg h2, if_neg (by omega)]
theorem ldcells_I {l : List Int} {off : Nat} (h : off < l.length) : ldcells none off (cellsI l) = some (A.d (.v (.int .i64 (l.getD off 0)))) := by
  simp [ldcells, cellsI, List.getD, h]
theorem refsL_I (ks : List Key) (l : List Int) : refsL ks (cellsI l) = true := by
  induction l with
  | nil => rfl
  | cons x r ih => simpa [cellsI, refsL, refs] using ih
theorem allD_I (l : List Int) : allD (cellsI l) = some (l.map iv) := by
  induction l with
  | nil => rfl
  | cons x r ih =>
    simp only [cellsI, List.map_cons, allD] at ih ⊢
    rw [ih]; rfl
theorem rep_I (n : Nat) : List.map A.d (rep n [.v (.int .i64 0)]) = cellsI (List.replicate n 0) := by
  induction n with
  | zero => rfl
  | succ n ih =>
    simp only [rep, List.replicate_succ, List.flatten_cons, List.map_append, List.map_cons, List.map_nil, cellsI, List.cons_append, List.nil_append] at ih ⊢
    rw [ih]
theorem mapd_I (l : List Int) : List.map A.d (l.map iv) = cellsI l := by simp [cellsI, iv]
theorem cpy_I {h : Hp} {k : Key} {a out : List Int} {n : Nat} (hk : h k = some ⟨1, n, cellsI out, false⟩) (hn : n = a.length) (ho : out.length = n) : cpyA h 1 a.length (a.map iv) (.own k n) = some (n, hupd h k ⟨1, n, cellsI a, false⟩) := by
  subst hn
  have h1 : ∀ l : List Int, (l.map iv).all D.one = true := by
    intro l; simp [iv, D.one, A.one]
  simp only [cpyA, hk, Option.bind_some, guardO, cellsI_length, ho, Nat.mul_one, List.length_map, h1, and_self, if_true, Nat.min_self]
  congr 3
  rw [List.take_of_length_le (by simp), List.drop_eq_nil_of_le (by rw [cellsI_length, ho]; exact Nat.le_refl _), List.append_nil, mapd_I]
theorem val_take_le {l : List Int} (h : Dig l) (n : Nat) : val (l.take n) ≤ val l := by
  have e : l.take n ++ l.drop n = l := List.take_append_drop n l
  have h1 : val l = val (l.take n) + (1000000000 : Int) ^ (l.take n).length * val (l.drop n) := by rw [← val_append, e]
  have h2 := val_nonneg (h.drop n)
  have h3 : (0 : Int) ≤ (1000000000 : Int) ^ (l.take n).length * val (l.drop n) := Int.mul_nonneg (Int.pow_nonneg (by omega)) h2
  omega
theorem dig_getD_drop {l : List Int} {i j : Nat} (h : Dig (l.drop i)) (hij : i ≤ j) : 0 ≤ l.getD j 0 ∧ l.getD j 0 < 1000000000 := by
  have := h.getD (j - i)
  rw [List.getD_eq_getElem?_getD, List.getElem?_drop, show i + (j - i) = j by omega, ← List.getD_eq_getElem?_getD] at this
  exact this
theorem take_set_ge (l : List Int) {i j : Nat} (d : Int) (h : i ≤ j) : (l.set j d).take i = l.take i := by
  apply List.ext_getElem?
  intro q
  simp only [List.getElem?_take, List.getElem?_set]
  split
  · rw [if_neg (by omega)]
  · rfl
theorem drop_set_lt (l : List Int) {i j : Nat} (d : Int) (h : j < i) : (l.set j d).drop i = l.drop i := by
  apply List.ext_getElem?
  intro q
  simp only [List.getElem?_drop, List.getElem?_set]
  rw [if_neg (by omega)]
theorem take_succ_set {l : List Int} {i : Nat} (d : Int) (h : i < l.length) : (l.set i d).take (i + 1) = l.take i ++ [d] := by
  rw [List.take_add_one, take_set_ge l d (Nat.le_refl _)]
  simp [h]

/-! ### Sizes -/
def nd (x : Int) : Nat := (digs x.natAbs).length
theorem digs_length_le : ∀ (k n : Nat), n < 1000000000 ^ k → (digs n).length ≤ k
  | 0, n, h => by
    have : n = 0 := by simpa using h
    subst this; rw [digs_zero]; exact Nat.le_refl _
  | k + 1, n, h => by
    rcases Nat.eq_zero_or_pos n with rfl | hp
    · rw [digs_zero]; simp
    · rw [digs_pos hp, List.length_cons]
      have : n / 1000000000 < 1000000000 ^ k := by
        rw [Nat.pow_succ] at h
        exact Nat.div_lt_of_lt_mul (by rw [Nat.mul_comm]; exact h)
      exact Nat.succ_le_succ (digs_length_le k _ this)
theorem lt_pow_nd (x : Int) : x.natAbs < 1000000000 ^ nd x := by
  have h1 := val_lt (digs_dig x.natAbs)
  rw [val_digs] at h1
  have h2 : ((1000000000 ^ (digs x.natAbs).length : Nat) : Int) = (1000000000 : Int) ^ (digs x.natAbs).length := by simp
  rw [← h2] at h1
  exact Int.ofNat_lt.1 h1
theorem nd_le {x : Int} {k : Nat} (h : x.natAbs < 1000000000 ^ k) : nd x ≤ k := digs_length_le k _ h
theorem npow_mono {n m : Nat} (h : n ≤ m) : 1000000000 ^ n ≤ 1000000000 ^ m := Nat.pow_le_pow_right (by omega) h
theorem nd_add {x y : Int} {k : Nat} (hx : nd x ≤ k) (hy : nd y ≤ k) : nd (x + y) ≤ k + 1 := by
  apply nd_le
  have h1 := Nat.lt_of_lt_of_le (lt_pow_nd x) (npow_mono hx)
  have h2 := Nat.lt_of_lt_of_le (lt_pow_nd y) (npow_mono hy)
  rw [Nat.pow_succ]
  omega
theorem nd_neg (x : Int) : nd (-x) = nd x := by simp [nd]
theorem nd_mul {x y : Int} : nd (x * y) ≤ nd x + nd y := by
  apply nd_le
  rw [Int.natAbs_mul, Nat.pow_add]
  exact Nat.mul_lt_mul'' (lt_pow_nd x) (lt_pow_nd y)
theorem nd_mono {x y : Int} (h : x.natAbs ≤ y.natAbs) : nd x ≤ nd y := nd_le (Nat.lt_of_le_of_lt h (lt_pow_nd y))
theorem nd_i64 {x : Int} (h : -9223372036854775808 ≤ x ∧ x < 9223372036854775808) : nd x ≤ 3 := by
  apply nd_le
  have : (1000000000 : Nat) ^ 3 = 1000000000000000000000000000 := by decide
  omega
theorem nd_zero : nd 0 = 0 := by
  have : digs (0 : Int).natAbs = [] := digs_zero
  rw [nd, this]; rfl
theorem val_dabs (x : Int) : val (digs x.natAbs) = x.natAbs := val_digs _
end Go.AM

/- integer.of -/
namespace Go.AM
open Go Go.RowKit
variable [Its]

section
variable (neg : Bool) (d : D) (l : List Int)
def of_st (n : Int) : St := ⟨upd (upd (upd (upd fr0 5 (.d (iv n))) 4 (.ptr [4] 0)) 1 (.d d)) 0 (.d (bv neg)), hupd hp0 [4] ⟨0, 0, [.d (bv false), .d (.z true)], false⟩, []⟩

theorem of_go (hr : Rw d l) (n : Nat) (h : n < l.length) (hl : l.length < 4611686018427387904) (h0 : l.getD n 0 = 0) : X G integer_of_l0 (of_st neg d ((n + 1 : Nat) : Int)) = some (.n, of_st neg d n) := by
  have e1 : decide (((n + 1 : Nat) : Int) > 0) = true := gt_t (by omega)
  have e2 : w64 (((n + 1 : Nat) : Int) - 1) = n := by rw [w64_id (by omega) (by omega)]; omega
  have e3 := hr.ixn (j := n) (by omega)
  have e4 := fun hp => ldv hp l (j := n) (by omega)
  simp -implicitDefEqProofs (maxSteps := 10000000) only [integer_of_l0, of_st, go_sem, iv, bv, e1, e2, e3, e4, h0, Int.toNat_natCast, beq_self_eq_true, reduceCtorEq, ↓reduceIte, Nat.reduceEqDiff]
theorem of_stop (hr : Rw d l) (n : Nat) (h : n < l.length) (hl : l.length < 4611686018427387904) (h0 : l.getD n 0 ≠ 0) : X G integer_of_l0 (of_st neg d ((n + 1 : Nat) : Int)) = some (.x 0, of_st neg d ((n + 1 : Nat) : Int)) := by
  have e1 : decide (((n + 1 : Nat) : Int) > 0) = true := gt_t (by omega)
  have e2 : w64 (((n + 1 : Nat) : Int) - 1) = n := by rw [w64_id (by omega) (by omega)]; omega
  have e3 := hr.ixn (j := n) (by omega)
  have e4 := fun hp => ldv hp l (j := n) (by omega)
  simp -implicitDefEqProofs (maxSteps := 10000000) only [integer_of_l0, of_st, go_sem, iv, bv, e1, e2, e3, e4, beq_f h0, Int.toNat_natCast, reduceCtorEq, ↓reduceIte, Nat.reduceEqDiff]
theorem of_zero : X G integer_of_l0 (of_st neg d ((0 : Nat) : Int)) = some (.x 0, of_st neg d ((0 : Nat) : Int)) := by
  have e1 : decide ((0 : Int) > 0) = false := rfl
  simp -implicitDefEqProofs (maxSteps := 10000000) only [integer_of_l0, of_st, go_sem, iv, bv, e1, reduceCtorEq, ↓reduceIte, Nat.reduceEqDiff]

theorem of_loop (hr : Rw d l) (hl : l.length < 4611686018427387904) : ∀ n : Nat, n ≤ l.length → X G (.loop integer_of_l0) (of_st neg d (n : Int)) = some (.x 0, of_st neg d (cutn l n : Nat))
  | 0, _ => by
    rw [X_loop, of_zero]
    rfl
  | n + 1, h => by
    rw [X_loop, cutn]
    by_cases h0 : l.getD n 0 = 0
    · rw [of_go neg d l hr n (by omega) hl h0, if_pos h0]
      exact of_loop hr hl n (by omega)
    · rw [of_stop neg d l hr n (by omega) hl h0, if_neg h0]
      rfl
end

theorem of_spec (neg : Bool) {d : D} {l : List Int} (hr : Rw d l) (hl : l.length < 4611686018427387904) (hd : Dig l) : callX G n_integer_of [bv neg, d] = some (.d (encI (sgn neg (val l)))) := by
  rw [callX_eq (cf := integer_of) rfl, encI_sgn hd]
  have hc := cutn_le l l.length
  have el := of_loop neg d l hr hl l.length (Nat.le_refl _)
  simp only [of_st, iv, bv] at el
  generalize hn : cutn l l.length = n at *
  by_cases h0 : n = 0
  · subst h0
    have e0 : ((0 : Int) == 0) = true := rfl
    simp only [nc0] at el
    simp -implicitDefEqProofs (maxSteps := 10000000) only [integer_of, go_sem, stcells, ldcells, iv, bv, hr.len, el, e0, reduceCtorEq, ↓reduceIte, Nat.reduceEqDiff, List.length_cons, List.length_nil]
  · obtain rfl := hr.ne (by rintro rfl; simp [cutn] at hn; exact h0 hn.symm)
    have e0 : (((n : Nat) : Int) == 0) = false := beq_f (by omega)
    have e1 : (0 : Int) ≤ 0 ∧ (0 : Int) ≤ (n : Int) ∧ (n : Int) ≤ (l.length : Int) := by omega
    have e2 : (n : Int) ≤ (n : Int) ∧ (n : Int) ≤ (l.length : Int) := by omega
    simp only [rowI] at el
    have e3 : (some n = some 0) = False := by simp [h0]
    simp -implicitDefEqProofs (maxSteps := 10000000) only [integer_of, go_sem, stcells, ldcells, iv, bv, rowI, el, e0, e1, e2, e3, h0, reduceCtorEq, ↓reduceIte, Nat.reduceEqDiff, List.length_cons, List.length_nil]
end Go.AM

/- integer.unsigned, Of -/
namespace Go.AM
open Go Go.RowKit
variable [Its]

theorem encI_sgn_dg (neg : Bool) {u : Int} (h : 0 < u) : encI (sgn neg u) = .agg [bv neg, dg (digs u.toNat)] := by
  have _its : Its := inferInstance
  have e1 : decide (sgn neg u < 0) = neg := by
    cases neg
    · simp only [sgn, Bool.false_eq_true, if_false, decide_eq_false_iff_not]; omega
    · simp only [sgn, if_true, decide_eq_true_eq]; omega
  rw [encI, e1, natAbs_sgn, show u.natAbs = u.toNat by omega]
theorem encI_sgn0 (neg : Bool) : encI (sgn neg 0) = .agg [bv false, .z true] := by
  have _its : Its := inferInstance
  have e : encI 0 = .agg [bv false, .z true] := by
    have : digs (0 : Int).natAbs = [] := digs_zero
    rw [encI, this]; rfl
  cases neg <;> exact e

theorem unsigned_spec (neg : Bool) {u : Int} (h : 0 ≤ u ∧ u < 18446744073709551616) : callX G n_integer_unsigned [bv neg, .v (.int .u64 u)] = some (.d (encI (sgn neg u))) := by
  rw [callX_eq (cf := integer_unsigned) rfl]
  have q1 : ∀ x : Int, 0 ≤ x → x.tmod 1000000000 = x % 1000000000 := fun x hx => Int.tmod_eq_emod_of_nonneg hx
  have q2 : ∀ x : Int, 0 ≤ x → x.tdiv 1000000000 = x / 1000000000 := fun x hx => Int.tdiv_eq_ediv_of_nonneg hx
  by_cases h0 : u = 0
  · subst h0
    rw [encI_sgn0]
    have e1 : ((0 : Int) == 0) = true := rfl
    simp -implicitDefEqProofs (maxSteps := 10000000) only [integer_unsigned, go_sem, stcells, ldcells, iv, bv, e1, reduceCtorEq, ↓reduceIte, Nat.reduceEqDiff]
  · have e1 : (u == 0) = false := beq_f h0
    rw [encI_sgn_dg neg (by omega)]
    have d1 := digs_pos (n := u.toNat) (by omega)
    by_cases h1 : u < 1000000000
    · have e2 : decide (u < 1000000000) = true := lt_t h1
      have e3 : w64 u = u := w64_id (by omega) (by omega)
      have d2 : digs u.toNat = [u] := by
        rw [d1, show u.toNat / 1000000000 = 0 by omega, digs_zero, show ((u.toNat % 1000000000 : Nat) : Int) = u by omega]
      rw [d2, dg_cons]
      simp -implicitDefEqProofs (maxSteps := 10000000) only [integer_unsigned, go_sem, stcells, ldcells, iv, bv, e1, e2, e3, reduceCtorEq, ↓reduceIte, Nat.reduceEqDiff]
    · have e2 : decide (u < 1000000000) = false := lt_f h1
      have t1 := q1 u (by omega)
      have t2 := q2 u (by omega)
      have e3 : w64 (u % 1000000000) = u % 1000000000 := w64_id (by omega) (by omega)
      have m1 : u / 1000000000 % 18446744073709551616 = u / 1000000000 := by omega
      have e4 : w64 (u / 1000000000) = u / 1000000000 := w64_id (by omega) (by omega)
      have d1' := digs_pos (n := u.toNat / 1000000000) (by omega)
      by_cases h2 : u < 1000000000000000000
      · have e5 : decide (u < 1000000000000000000) = true := lt_t h2
        have d2 : digs u.toNat = [u % 1000000000, u / 1000000000] := by
          rw [d1, d1', show u.toNat / 1000000000 / 1000000000 = 0 by omega, digs_zero, show ((u.toNat % 1000000000 : Nat) : Int) = u % 1000000000 by omega, show ((u.toNat / 1000000000 % 1000000000 : Nat) : Int) = u / 1000000000 by omega]
        rw [d2, dg_cons]
        simp -implicitDefEqProofs (maxSteps := 10000000) only [integer_unsigned, go_sem, stcells, ldcells, iv, bv, e1, e2, t1, t2, m1, e3, e4, e5, reduceCtorEq, ↓reduceIte, Nat.reduceEqDiff]
      · have e5 : decide (u < 1000000000000000000) = false := lt_f h2
        have t3 := q1 (u / 1000000000) (by omega)
        have t4 := q2 (u / 1000000000) (by omega)
        have e6 : w64 (u / 1000000000 % 1000000000) = u / 1000000000 % 1000000000 := w64_id (by omega) (by omega)
        have m2 : u / 1000000000 / 1000000000 % 18446744073709551616 = u / 1000000000 / 1000000000 := by omega
        have e7 : w64 (u / 1000000000 / 1000000000) = u / 1000000000 / 1000000000 := w64_id (by omega) (by omega)
        have d1'' := digs_pos (n := u.toNat / 1000000000 / 1000000000) (by omega)
        have d2 : digs u.toNat = [u % 1000000000, u / 1000000000 % 1000000000, u / 1000000000 / 1000000000] := by
          rw [d1, d1', d1'', show u.toNat / 1000000000 / 1000000000 / 1000000000 = 0 by omega, digs_zero, show ((u.toNat % 1000000000 : Nat) : Int) = u % 1000000000 by omega, show ((u.toNat / 1000000000 % 1000000000 : Nat) : Int) = u / 1000000000 % 1000000000 by omega,
            show ((u.toNat / 1000000000 / 1000000000 % 1000000000 : Nat) : Int) = u / 1000000000 / 1000000000 by omega]
        rw [d2, dg_cons]
        simp -implicitDefEqProofs (maxSteps := 10000000) only [integer_unsigned, go_sem, stcells, ldcells, iv, bv, e1, e2, t1, t2, t3, t4, m1, m2, e3, e4, e5, e6, e7, reduceCtorEq, ↓reduceIte, Nat.reduceEqDiff]

theorem Of_spec {n : Int} (h : I64 n) : callX G n_integer_Of [iv n] = some (.d (encI n)) := by
  obtain ⟨h1, h2⟩ := h
  rw [callX_eq (cf := integer_Of) rfl]
  by_cases hn : n < 0
  · have e1 : decide (n < 0) = true := lt_t hn
    have e2 : (0 - n % 18446744073709551616) % 18446744073709551616 = -n := by omega
    have e3 := unsigned_spec true (u := -n) (by omega)
    have e4 : sgn true (-n) = n := by simp [sgn]
    rw [e4] at e3
    simp only [bv] at e3
    simp -implicitDefEqProofs (maxSteps := 10000000) only [integer_Of, encI, go_sem, stcells, ldcells, iv, bv, e1, e2, reduceCtorEq, ↓reduceIte, Nat.reduceEqDiff]
    simp only [e1, e3, encI, go_sem, stcells, ldcells, iv, bv, reduceCtorEq, ↓reduceIte, Nat.reduceEqDiff]
  · have e1 : decide (n < 0) = false := lt_f hn
    have e2 : n % 18446744073709551616 = n := by omega
    have e3 := unsigned_spec false (u := n) (by omega)
    have e4 : sgn false n = n := rfl
    rw [e4] at e3
    simp only [bv] at e3
    simp -implicitDefEqProofs (maxSteps := 10000000) only [integer_Of, encI, go_sem, stcells, ldcells, iv, bv, e1, e2, reduceCtorEq, ↓reduceIte, Nat.reduceEqDiff]
    simp only [e1, e3, encI, go_sem, stcells, ldcells, iv, bv, reduceCtorEq, ↓reduceIte, Nat.reduceEqDiff]
end Go.AM

/- integer.Mul -/
namespace Go.AM
open Go Go.RowKit
variable [Its]

theorem mul_bound {d e : Int} (hd : 0 ≤ d ∧ d < 1000000000) (he : 0 ≤ e ∧ e < 1000000000) : 0 ≤ d * e ∧ d * e ≤ 999999998000000001 := by
  have _its : Its := inferInstance
  refine ⟨Int.mul_nonneg hd.1 he.1, ?_⟩
  have h1 : d * e ≤ 999999999 * e := Int.mul_le_mul_of_nonneg_right (by omega) he.1
  omega

theorem mul_arith {o pr c : Int} (m : 0 ≤ pr ∧ pr ≤ 999999998000000001) (ho : 0 ≤ o ∧ o < 1000000000) (hc : 0 ≤ c ∧ c < 1000000000) :
    w64 pr = pr ∧ w64 (o + pr) = o + pr ∧ w64 (o + pr + c) = o + pr + c ∧ (o + pr + c).tdiv 1000000000 = (o + pr + c) / 1000000000 ∧ w64 ((o + pr + c) / 1000000000) = (o + pr + c) / 1000000000 ∧
    w64 ((o + pr + c) / 1000000000 * 1000000000) = (o + pr + c) / 1000000000 * 1000000000 ∧ w64 (o + pr + c - (o + pr + c) / 1000000000 * 1000000000) = (o + pr + c) % 1000000000 := by
  have _its : Its := inferInstance
  refine ⟨w64_id (by omega) (by omega), w64_id (by omega) (by omega), w64_id (by omega) (by omega), Int.tdiv_eq_ediv_of_nonneg (by omega), w64_id (by omega) (by omega), w64_id (by omega) (by omega), ?_⟩
  rw [w64_id (by omega) (by omega)]; omega

section
variable (p q : Bool) (dx dy da db : D) (a b : List Int)
def mulH (out : List Int) : Hp := hupd (hupd (hupd (hupd hp0 [46] ⟨1, a.length + b.length, cellsI out, false⟩) [4] ⟨0, 0, [.d (.v (.bool false)), .d (.z true)], false⟩) [3] ⟨0, 0, [.d (.v (.bool q)), .d dy], false⟩) [2] ⟨0, 0, [.d (.v (.bool p)), .d dx], false⟩
def mul_in (out : List Int) (i : Nat) (d c k : Int) : St :=
  ⟨upd (upd (upd (upd (upd (upd (upd (upd (upd (upd (upd (upd (upd (upd fr0 56 (.d (.v (.int .i64 k)))) 55 (.d (.v (.int .i64 b.length)))) 54 (.d db)) 49 (.d (.v (.int .i64 i)))) 48 (.d (.v (.int .i64 a.length)))) 47 (.d da))
    10 (.d (.v (.int .i64 c)))) 9 (.d (.v (.int .i64 d)))) 8 (.d (.v (.int .i64 i)))) 7 (.own [46] (a.length + b.length))) 6 (.d db)) 4 (.ptr [4] 0)) 3 (.ptr [3] 0)) 2 (.ptr [2] 0), mulH p q dx dy a b out, []⟩
def mul_mid (out : List Int) (i : Nat) (c : Int) : St :=
  ⟨upd (upd (upd (upd (upd (upd (upd (upd (upd (upd fr0 49 (.d (.v (.int .i64 i)))) 48 (.d (.v (.int .i64 a.length)))) 47 (.d da))
    10 (.d (.v (.int .i64 c)))) 8 (.d (.v (.int .i64 i)))) 7 (.own [46] (a.length + b.length))) 6 (.d db)) 4 (.ptr [4] 0)) 3 (.ptr [3] 0)) 2 (.ptr [2] 0), mulH p q dx dy a b out, []⟩

theorem mul_in_stop (out : List Int) (i : Nat) (d c : Int) : X G integer_Mul_l0 (mul_in p q dx dy da db a b out i d c b.length) = some (.x 2, mul_mid p q dx dy da db a b out i c) := by
  have e1 : decide ((b.length : Int) < (b.length : Int)) = false := lt_f (by omega)
  simp -implicitDefEqProofs (maxSteps := 10000000) only [integer_Mul_l0, mul_in, mul_mid, mulH, go_sem, iv, bv, e1, refsL_I, reduceCtorEq, ↓reduceIte, Nat.reduceEqDiff]

theorem mul_in_go (hrb : Rw db b) (hb : Dig b) (out : List Int) (i k : Nat) (d c : Int) (hd : 0 ≤ d ∧ d < 1000000000) (hc : 0 ≤ c ∧ c < 1000000000) (ho : Dig out) (hi : i < a.length) (hk : k < b.length) (hl : a.length + b.length < 4611686018427387904) (hlen : out.length = a.length + b.length) :
    X G integer_Mul_l0 (mul_in p q dx dy da db a b out i d c k) = some (.n, mul_in p q dx dy da db a b (out.set (i + k) ((out.getD (i + k) 0 + d * b.getD k 0 + c) % 1000000000)) i d ((out.getD (i + k) 0 + d * b.getD k 0 + c) / 1000000000) ((k + 1 : Nat) : Int)) := by
  have e1 : decide ((k : Int) < (b.length : Int)) = true := lt_t (by omega)
  have e2 := hrb.ixn hk
  have e3 := fun hp => ldv hp b hk
  have e4 : w64 ((i : Int) + (k : Int)) = ((i + k : Nat) : Int) := by rw [w64_id (by omega) (by omega)]; omega
  have g1 : (0 : Int) ≤ ((i + k : Nat) : Int) ∧ ((i + k : Nat) : Int) < ((a.length + b.length : Nat) : Int) := by omega
  have g3 := ldcells_I (l := out) (off := i + k) (by omega)
  have g2 := fun v => stcells_I (l := out) (off := i + k) (v := v) (by omega)
  have e9 : w64 ((k : Int) + 1) = ((k + 1 : Nat) : Int) := by rw [w64_id (by omega) (by omega)]; omega
  obtain ⟨e5, e6, e7, q1, e8, e10, e11⟩ := mul_arith (mul_bound hd (hb.getD k)) (ho.getD (i + k)) hc
  simp -implicitDefEqProofs (maxSteps := 10000000) only [integer_Mul_l0, mul_in, mulH, go_sem, iv, bv, e1, e2, e3, e4, e5, e6, e7, q1, e8, e9, e10, e11, g1, g2, g3, refsL_I, cellsI_length, allD_I, reduceCtorEq, ↓reduceIte, Nat.reduceEqDiff]

/-- The inner loop: the row grows by d * b at the place i. -/
theorem mul_in_loop (hrb : Rw db b) (hb : Dig b) (i : Nat) (d : Int) (hd : 0 ≤ d ∧ d < 1000000000) (hi : i < a.length) (hl : a.length + b.length < 4611686018427387904) : ∀ (r k : Nat) (out : List Int) (c : Int), k + r = b.length → (0 ≤ c ∧ c < 1000000000) → Dig out → out.length = a.length + b.length →
    ∃ out' c', X G (.loop integer_Mul_l0) (mul_in p q dx dy da db a b out i d c k) = some (.x 2, mul_mid p q dx dy da db a b out' i c') ∧ (0 ≤ c' ∧ c' < 1000000000) ∧ Dig out' ∧ out'.length = a.length + b.length ∧ (∀ j, i + b.length ≤ j → out'.getD j 0 = out.getD j 0) ∧
      val out' + (1000000000 : Int) ^ (i + b.length) * c' = val out + (1000000000 : Int) ^ (i + k) * c + (1000000000 : Int) ^ i * d * (val b - val (b.take k))
  | 0, k, out, c, hk, hc, ho, hlen => by
    obtain rfl : k = b.length := by omega
    refine ⟨out, c, ?_, hc, ho, hlen, fun _ _ => rfl, ?_⟩
    · rw [X_loop, mul_in_stop]; rfl
    · rw [List.take_length, Int.sub_self, Int.mul_zero, Int.add_zero]
  | r + 1, k, out, c, hk, hc, ho, hlen => by
    have hx := mul_in_go p q dx dy da db a b hrb hb out i k d c hd hc ho hi (by omega) hl hlen
    have hik : i + k < out.length := by omega
    have hvt := val_take_getD b k
    obtain ⟨m1, m2⟩ := mul_bound hd (hb.getD k)
    have hok := ho.getD (i + k)
    generalize hv : out.getD (i + k) 0 + d * b.getD k 0 + c = v at hx
    have hv1 : 0 ≤ v ∧ v < 1000000000000000000 := by
      generalize d * b.getD k 0 = pr at *
      omega
    obtain ⟨out', c', g1, g2, g3, g4, g5, g6⟩ := mul_in_loop hrb hb i d hd hi hl r (k + 1) (out.set (i + k) (v % 1000000000)) (v / 1000000000) (by omega) (by omega) (ho.set (by omega)) (by simpa using hlen)
    refine ⟨out', c', ?_, g2, g3, g4, fun j hj => ?_, ?_⟩
    · rw [X_loop, hx]; exact g1
    · rw [g5 j hj, getD_set_ne _ (by omega)]
    · rw [g6, val_set _ _ _ hik, hvt, show i + (k + 1) = (i + k) + 1 by omega, Int.pow_succ, Int.pow_add]
      have hdm : v % 1000000000 + 1000000000 * (v / 1000000000) = v := by omega
      have hv2 := hv.symm
      generalize v % 1000000000 = vm at *
      generalize v / 1000000000 = vd at *
      grind

def mul_out (out : List Int) (i : Int) : St :=
  ⟨upd (upd (upd (upd (upd (upd (upd (upd fr0 49 (.d (.v (.int .i64 i)))) 48 (.d (.v (.int .i64 a.length)))) 47 (.d da))
    7 (.own [46] (a.length + b.length))) 6 (.d db)) 4 (.ptr [4] 0)) 3 (.ptr [3] 0)) 2 (.ptr [2] 0), mulH p q dx dy a b out, []⟩
def mul_fin (out : List Int) : St :=
  ⟨upd (upd (upd (upd fr0 7 (.own [46] (a.length + b.length))) 4 (.ptr [4] 0)) 3 (.ptr [3] 0)) 2 (.ptr [2] 0), mulH p q dx dy a b out, []⟩

theorem mul_out_stop (out : List Int) : X G integer_Mul_l1 (mul_out p q dx dy da db a b out a.length) = some (.x 0, mul_fin p q dx dy a b out) := by
  have e1 : decide ((a.length : Int) < (a.length : Int)) = false := lt_f (by omega)
  simp -implicitDefEqProofs (maxSteps := 10000000) only [integer_Mul_l1, mul_out, mul_fin, mulH, go_sem, iv, bv, e1, refsL_I, reduceCtorEq, ↓reduceIte, Nat.reduceEqDiff]

theorem mul_out_go (hra : Rw da a) (hrb : Rw db b) (ha : Dig a) (hb : Dig b) (out : List Int) (i : Nat) (ho : Dig out) (hi : i < a.length) (hl : a.length + b.length < 4611686018427387904) (hlen : out.length = a.length + b.length) :
    ∃ out', X G integer_Mul_l1 (mul_out p q dx dy da db a b out i) = some (.n, mul_out p q dx dy da db a b out' ((i + 1 : Nat) : Int)) ∧ Dig out' ∧ out'.length = a.length + b.length ∧
      (∀ j, i + b.length < j → out'.getD j 0 = out.getD j 0) ∧ (out.getD (i + b.length) 0 = 0 → val out' = val out + (1000000000 : Int) ^ i * a.getD i 0 * val b) := by
  have e1 : decide ((i : Int) < (a.length : Int)) = true := lt_t (by omega)
  have e2 := hra.ixn hi
  have e3 := fun hp => ldv hp a hi
  have e4 : w64 ((i : Int) + (b.length : Int)) = ((i + b.length : Nat) : Int) := by rw [w64_id (by omega) (by omega)]; omega
  have e9 : w64 ((i : Int) + 1) = ((i + 1 : Nat) : Int) := by rw [w64_id (by omega) (by omega)]; omega
  have g7 : (0 : Int) ≤ ((i + b.length : Nat) : Int) ∧ ((i + b.length : Nat) : Int) < ((a.length + b.length : Nat) : Int) := by omega
  have hib0 : i + b.length < a.length + b.length := by omega
  have hne : ∀ j, i + b.length < j → i + b.length ≠ j ∧ i + b.length ≤ j := fun j hj => by omega
  obtain ⟨o2, c, g1, g2, g3, g4, g5, g6⟩ := mul_in_loop p q dx dy da db a b hrb hb i (a.getD i 0) (ha.getD i) hi hl b.length 0 out 0 (by omega) (by omega) ho hlen
  have hib : i + b.length < o2.length := by rw [g4]; exact hib0
  have g8 := fun v => stcells_I (l := o2) (off := i + b.length) (v := v) hib
  simp only [mul_in, mul_mid, mulH, nc0] at g1
  refine ⟨o2.set (i + b.length) c, ?_, g3.set g2, by simpa using g4, fun j hj => ?_, fun h0 => ?_⟩
  · simp -implicitDefEqProofs (maxSteps := 10000000) only [integer_Mul_l1, mul_out, mulH, go_sem, iv, bv, e1, e2, e3, e4, e9, g1, g7, g8, hrb.len, refsL_I, cellsI_length, allD_I, reduceCtorEq, ↓reduceIte, Nat.reduceEqDiff]
  · rw [getD_set_ne _ (hne j hj).1, g5 j (hne j hj).2]
  · rw [val_set _ _ _ hib, g5 _ (Nat.le_refl _), h0]
    simp only [List.take_zero, val, Int.sub_zero, Int.mul_zero, Int.add_zero] at g6 ⊢
    exact g6

theorem mul_out_loop (hra : Rw da a) (hrb : Rw db b) (ha : Dig a) (hb : Dig b) (hl : a.length + b.length < 4611686018427387904) : ∀ (r i : Nat) (out : List Int), i + r = a.length → Dig out → out.length = a.length + b.length → (∀ j, i + b.length ≤ j → out.getD j 0 = 0) → val out = val (a.take i) * val b →
    ∃ out', X G (.loop integer_Mul_l1) (mul_out p q dx dy da db a b out i) = some (.x 0, mul_fin p q dx dy a b out') ∧ Dig out' ∧ out'.length = a.length + b.length ∧ val out' = val a * val b
  | 0, i, out, hi, ho, hlen, hz, hv => by
    obtain rfl : i = a.length := by clear hv; omega
    refine ⟨out, ?_, ho, hlen, ?_⟩
    · rw [X_loop, mul_out_stop]; rfl
    · rw [hv, List.take_length]
  | r + 1, i, out, hi, ho, hlen, hz, hv => by
    have hi' : i < a.length := by clear hv; omega
    have hn : i + 1 + r = a.length := by clear hv; omega
    have hj : ∀ j, i + 1 + b.length ≤ j → i + b.length < j ∧ i + b.length ≤ j := by clear hv; intro j hj; omega
    obtain ⟨out', g1, g2, g3, g4, g5⟩ := mul_out_go p q dx dy da db a b hra hrb ha hb out i ho hi' hl hlen
    have hv' := g5 (hz _ (Nat.le_refl _))
    obtain ⟨o2, k1, k2⟩ := mul_out_loop hra hrb ha hb hl r (i + 1) out' hn g2 g3 (fun j h => by rw [g4 j (hj j h).1]; exact hz j (hj j h).2) (by rw [hv', hv, val_take_getD a]; grind)
    refine ⟨o2, ?_, k2⟩
    rw [X_loop, g1]
    exact k1
end
end Go.AM

/- integer.Mul as a function -/
namespace Go.AM
open Go Go.RowKit
variable [Its]

theorem sgn_mul {x y : Int} (h : x ≠ 0) (h2 : y ≠ 0) : sgn (!(decide (x < 0) == decide (y < 0))) ((x.natAbs : Int) * (y.natAbs : Int)) = x * y := by
  have _its : Its := inferInstance
  by_cases hx : x < 0 <;> by_cases hy : y < 0
  · have e1 : (x.natAbs : Int) = -x := by omega
    have e2 : (y.natAbs : Int) = -y := by omega
    simp [sgn, hx, hy, e1, e2]
    try grind
  · have e1 : (x.natAbs : Int) = -x := by omega
    have e2 : (y.natAbs : Int) = y := by omega
    simp [sgn, hx, hy, e1, e2]
    try grind
  · have e1 : (x.natAbs : Int) = x := by omega
    have e2 : (y.natAbs : Int) = -y := by omega
    simp [sgn, hx, hy, e1, e2]
    try grind
  · have e1 : (x.natAbs : Int) = x := by omega
    have e2 : (y.natAbs : Int) = y := by omega
    simp [sgn, hx, hy, e1, e2]
    try grind

theorem sgn_mul' (x y : Int) : sgn (!(decide (x < 0) == decide (y < 0))) ((x.natAbs : Int) * (y.natAbs : Int)) = x * y := by
  by_cases h : x = 0
  · subst h
    have : ((0 : Int).natAbs : Int) = 0 := rfl
    rw [this, Int.zero_mul, Int.zero_mul]
    unfold sgn; split <;> rfl
  · by_cases h2 : y = 0
    · subst h2
      have : ((0 : Int).natAbs : Int) = 0 := rfl
      rw [this, Int.mul_zero, Int.mul_zero]
      unfold sgn; split <;> rfl
    · exact sgn_mul h h2

theorem one_digit {n : Nat} (h : (digs n).length = 1) : (digs n).getD 0 0 = n ∧ n < 1000000000 := by
  have _its : Its := inferInstance
  have hv := val_digs n
  have hd := digs_dig n
  match hl : digs n, h with
  | [d], _ =>
    rw [hl] at hv hd
    have := hd d (by simp)
    simp only [val] at hv
    simp only [List.getD_cons_zero]
    omega

theorem Mul_one {x y : Int} (hx : (digs x.natAbs).length = 1) (hy : (digs y.natAbs).length = 1) : callX G n_integer_Mul [encI x, encI y] = some (.d (encI (x * y))) := by
  rw [callX_eq (cf := integer_Mul) rfl]
  obtain ⟨a1, a2⟩ := one_digit hx
  obtain ⟨b1, b2⟩ := one_digit hy
  have e0 := lenA_dg (digs x.natAbs)
  have e1 := lenA_dg (digs y.natAbs)
  rw [hx] at e0
  rw [hy] at e1
  have e2 := (Rw.dg (digs x.natAbs)).ixn (j := 0) (by omega)
  have e3 := fun hp => ldv hp (digs x.natAbs) (j := 0) (by omega)
  have e4 := (Rw.dg (digs y.natAbs)).ixn (j := 0) (by omega)
  have e5 := fun hp => ldv hp (digs y.natAbs) (j := 0) (by omega)
  simp only [nc0, a1, b1, List.drop_zero] at e2 e3 e4 e5
  have e6 : (((1 : Nat) : Int) == 1) = true := rfl
  have e7 : ((x.natAbs : Nat) : Int) % 18446744073709551616 = (x.natAbs : Int) := by omega
  have e8 : ((y.natAbs : Nat) : Int) % 18446744073709551616 = (y.natAbs : Int) := by omega
  have e9 : ((x.natAbs : Nat) : Int) * ((y.natAbs : Nat) : Int) % 18446744073709551616 = (x.natAbs : Int) * (y.natAbs : Int) ∧ 0 ≤ (x.natAbs : Int) * (y.natAbs : Int) ∧ (x.natAbs : Int) * (y.natAbs : Int) < 18446744073709551616 := by
    obtain ⟨m1, m2⟩ := mul_bound (d := (x.natAbs : Int)) (e := (y.natAbs : Int)) (by omega) (by omega)
    generalize (x.natAbs : Int) * (y.natAbs : Int) = pr at *
    clear e0 e1 e2 e3 e4 e5
    omega
  have g := unsigned_spec (!(decide (x < 0) == decide (y < 0))) e9.2
  rw [sgn_mul'] at g
  simp only [bv] at g
  simp -implicitDefEqProofs (maxSteps := 10000000) only [integer_Mul, encI, go_sem, stcells, ldcells, iv, bv, e0, e1, e2, e3, e4, e5, e6, e7, e8, e9.1, g, reduceCtorEq, ↓reduceIte, Nat.reduceEqDiff]

theorem Mul_spec {x y : Int} (hx : nd x ≤ 1000000000000) (hy : nd y ≤ 1000000000000) : callX G n_integer_Mul [encI x, encI y] = some (.d (encI (x * y))) := by
  by_cases h1 : (digs x.natAbs).length = 1 ∧ (digs y.natAbs).length = 1
  · exact Mul_one h1.1 h1.2
  rw [callX_eq (cf := integer_Mul) rfl]
  have hx' : (digs x.natAbs).length ≤ 1000000000000 := hx
  have hy' : (digs y.natAbs).length ≤ 1000000000000 := hy
  have e0 := lenA_dg (digs x.natAbs)
  have e1 := lenA_dg (digs y.natAbs)
  have vx := val_dabs x
  have vy := val_dabs y
  have dx := digs_dig x.natAbs
  have dy := digs_dig y.natAbs
  have hw : w64 (((digs x.natAbs).length : Int) + ((digs y.natAbs).length : Int)) = (((digs x.natAbs).length + (digs y.natAbs).length : Nat) : Int) := by rw [w64_id (by omega) (by omega)]; omega
  have hm : (0 : Int) ≤ (((digs x.natAbs).length + (digs y.natAbs).length : Nat) : Int) ∧ (((digs x.natAbs).length + (digs y.natAbs).length : Nat) : Int) * ((8 : Nat) : Int) ≤ ((bound : Nat) : Int) := by simp only [bound]; omega
  have hlt : (digs x.natAbs).length + (digs y.natAbs).length < 4611686018427387904 := by omega
  obtain ⟨out, g1, g2, g3, g4⟩ := mul_out_loop (decide (x < 0)) (decide (y < 0)) (dg (digs x.natAbs)) (dg (digs y.natAbs)) (dg (digs x.natAbs)) (dg (digs y.natAbs)) (digs x.natAbs) (digs y.natAbs) (Rw.dg _) (Rw.dg _) dx dy hlt
    (digs x.natAbs).length 0 (List.replicate ((digs x.natAbs).length + (digs y.natAbs).length) 0) (by omega) (Dig.replicate _) (by simp) (fun j _ => by simp only [List.getD_eq_getElem?_getD, List.getElem?_replicate]; split <;> rfl) (by rw [val_replicate]; simp [val])
  have hol : out.length < 4611686018427387904 := by rw [g3]; exact hlt
  have g5 := of_spec (!(decide (x < 0) == decide (y < 0))) (Rw.row out) hol g2
  rw [g4, vx, vy, sgn_mul'] at g5
  simp only [rowI, bv, g3] at g5
  simp only [mul_out, mul_fin, mulH, nc0] at g1
  by_cases h2 : (digs x.natAbs).length = 1
  · have k1 : (((digs x.natAbs).length : Int) == 1) = true := beq_t (by omega)
    have k2 : (((digs y.natAbs).length : Int) == 1) = false := beq_f (by omega)
    simp -implicitDefEqProofs (maxSteps := 10000000) only [integer_Mul, encI, go_sem, stcells, ldcells, frzSt, iv, bv, e0, e1, k1, k2, hw, hm, rep_I, refsL_I, allD_I, g1, g5, reduceCtorEq, ↓reduceIte, Nat.reduceEqDiff]
  · have k1 : (((digs x.natAbs).length : Int) == 1) = false := beq_f (by omega)
    simp -implicitDefEqProofs (maxSteps := 10000000) only [integer_Mul, encI, go_sem, stcells, ldcells, frzSt, iv, bv, e0, e1, k1, hw, hm, rep_I, refsL_I, allD_I, g1, g5, reduceCtorEq, ↓reduceIte, Nat.reduceEqDiff]
end Go.AM

/- integer.two -/
namespace Go.AM
open Go Go.RowKit

theorem val_one {l : List Int} (h : l.length = 1) : val l = l.getD 0 0 := by
  match l, h with
  | [x], _ => simp [val]
theorem val_two {l : List Int} (h : l.length = 2) : val l = l.getD 1 0 * 1000000000 + l.getD 0 0 := by
  match l, h with
  | [x, y], _ => simp [val]; omega
variable [Its]

theorem two_spec {d : D} {l : List Int} (h : Rw d l) (hd : Dig l) (hl : l.length < 4611686018427387904) :
    callX G n_integer_two [d] = some (.d (.tup [iv (if l.length ≤ 2 then val l else 0), bv (decide (l.length ≤ 2))])) := by
  rw [callX_eq (cf := integer_two) rfl]
  have b0 := hd.getD 0
  have b1 := hd.getD 1
  have hh := h.len
  by_cases h0 : l.length = 0
  · have e1 : val l = 0 := by rw [List.length_eq_zero_iff.1 h0]; rfl
    have e2 : (((0 : Nat) : Int) == 0) = true := rfl
    have e3 : (0 : Nat) ≤ 2 := by omega
    simp -implicitDefEqProofs (maxSteps := 10000000) only [integer_two, go_sem, iv, bv, hh, h0, e1, e2, e3, toDs, beq_self_eq_true, reduceCtorEq, ↓reduceIte, Nat.reduceEqDiff]
  · by_cases h1 : l.length = 1
    · have e1 := h.ixn (j := 0) (by omega)
      have e2 := fun hp => ldv hp l (j := 0) (by omega)
      simp only [nc0, List.drop_zero] at e1 e2
      have e3 : (((1 : Nat) : Int) == 0) = false := rfl
      have e4 : (((1 : Nat) : Int) == 1) = true := rfl
      have e5 : (1 : Nat) ≤ 2 := by omega
      simp -implicitDefEqProofs (maxSteps := 10000000) only [integer_two, go_sem, iv, bv, hh, h1, e1, e2, e3, e4, e5, val_one h1, toDs, reduceCtorEq, ↓reduceIte, Nat.reduceEqDiff]
    · by_cases h2 : l.length = 2
      · have e1 := h.ixn (j := 0) (by omega)
        have e2 := fun hp => ldv hp l (j := 0) (by omega)
        have f1 := h.ixn (j := 1) (by omega)
        have f2 := fun hp => ldv hp l (j := 1) (by omega)
        simp only [nc0, List.drop_zero] at e1 e2
        have e3 : (((2 : Nat) : Int) == 0) = false := rfl
        have e4 : (((2 : Nat) : Int) == 1) = false := rfl
        have e5 : (((2 : Nat) : Int) == 2) = true := rfl
        have e8 : (2 : Nat) ≤ 2 := by omega
        have e9 : ((1 : Nat) : Int) = 1 := rfl
        rw [e9] at f1
        have e6 : w64 (l.getD 1 0 * 1000000000) = l.getD 1 0 * 1000000000 := w64_id (by omega) (by omega)
        have e7 : w64 (l.getD 1 0 * 1000000000 + l.getD 0 0) = l.getD 1 0 * 1000000000 + l.getD 0 0 := w64_id (by omega) (by omega)
        simp -implicitDefEqProofs (maxSteps := 10000000) only [integer_two, go_sem, iv, bv, hh, h2, e1, e2, e3, e4, e5, e6, e7, e8, f1, f2, val_two h2, toDs, reduceCtorEq, ↓reduceIte, Nat.reduceEqDiff]
      · have e3 : ((l.length : Int) == 0) = false := beq_f (by omega)
        have e4 : ((l.length : Int) == 1) = false := beq_f (by omega)
        have e5 : ((l.length : Int) == 2) = false := beq_f (by omega)
        have e6 : ¬ l.length ≤ 2 := by omega
        simp -implicitDefEqProofs (maxSteps := 10000000) only [integer_two, go_sem, iv, bv, hh, e3, e4, e5, e6, toDs, reduceCtorEq, ↓reduceIte, Nat.reduceEqDiff]
end Go.AM

/- States as lists; quotients; values from the top. -/
namespace Go.AM
open Go Go.RowKit

def frL : List (Nat × A) → Fr
  | [] => fr0
  | (i, x) :: r => upd (frL r) i x
def hpL : List (Key × Obj) → Hp
  | [] => hp0
  | (k, o) :: r => hupd (hpL r) k o
def mkS (f : List (Nat × A)) (h : List (Key × Obj)) : St := ⟨frL f, hpL h, []⟩
def ai (x : Int) : A := .d (.v (.int .i64 x))
def ab (b : Bool) : A := .d (.v (.bool b))
def arrI (n : Nat) (l : List Int) : Obj := ⟨1, n, cellsI l, false⟩
attribute [go_sem] mkS frL hpL ai ab arrI

theorem quo_pos {a b : Int} (ha : 0 ≤ a) : a.tdiv b = a / b := Int.tdiv_eq_ediv_of_nonneg ha
theorem rem_pos {a b : Int} (ha : 0 ≤ a) : a.tmod b = a % b := Int.tmod_eq_emod_of_nonneg ha
theorem eqz_f {b : Int} (h : b ≠ 0) : (b = 0) = False := eq_false h

theorem val_drop_getD (l : List Int) (k : Nat) : val (l.drop k) = l.getD k 0 + 1000000000 * val (l.drop (k + 1)) := by
  by_cases h : k < l.length
  · rw [List.drop_eq_getElem_cons h, val]
    simp [List.getD, h]
  · rw [List.drop_eq_nil_of_le (by omega), List.drop_eq_nil_of_le (by omega)]
    have : l.getD k 0 = 0 := by rw [List.getD_eq_getElem?_getD, List.getElem?_eq_none (by omega)]; rfl
    rw [this]; simp [val]
theorem val_drop_set {l : List Int} {k : Nat} (d : Int) (h : k < l.length) : val ((l.set k d).drop k) = d + 1000000000 * val (l.drop (k + 1)) := by
  rw [val_drop_getD, drop_set_lt l d (Nat.lt_succ_self k)]
  simp [List.getD, h]
theorem getD_set_self {l : List Int} {k : Nat} (d : Int) (h : k < l.length) : (l.set k d).getD k 0 = d := by simp [List.getD, h]
theorem pow_pos' (n : Nat) : (0 : Int) < (1000000000 : Int) ^ n := Int.pow_pos (by omega)
theorem bnd (n : Nat) (h : n * 8 ≤ 140737488351232) : (0 : Int) ≤ ((n : Nat) : Int) ∧ ((n : Nat) : Int) * ((8 : Nat) : Int) ≤ ((bound : Nat) : Int) := by simp only [bound]; omega
end Go.AM

/- integer.short -/
namespace Go.AM
open Go Go.RowKit

theorem short_arith {r a b : Int} (hb : 0 < b ∧ b < 1000000000) (hr : 0 ≤ r ∧ r < b) (ha : 0 ≤ a ∧ a < 1000000000) :
    0 ≤ r * 1000000000 + a ∧ r * 1000000000 + a < 1000000000000000000 ∧ 0 ≤ (r * 1000000000 + a) / b ∧ (r * 1000000000 + a) / b < 1000000000 ∧ 0 ≤ (r * 1000000000 + a) % b ∧ (r * 1000000000 + a) % b < b ∧ (r * 1000000000 + a) / b * b + (r * 1000000000 + a) % b = r * 1000000000 + a := by
  refine ⟨by omega, by omega, Int.ediv_nonneg (by omega) (by omega), ?_, Int.emod_nonneg _ (by omega), Int.emod_lt_of_pos _ (by omega), Int.ediv_mul_add_emod _ _⟩
  apply Int.ediv_lt_of_lt_mul (by omega)
  omega
variable [Its]

section
variable (da : D) (a : List Int) (b : Int)
def short_st (q : List Int) (r i : Int) : St := mkS [(0, .d da), (1, ai b), (6, .own [12] a.length), (7, ai r), (8, ai i)] [([12], arrI a.length q)]
def short_end (q : List Int) (r : Int) : St := mkS [(6, .own [12] a.length), (7, ai r)] [([12], arrI a.length q)]

theorem short_stop (q : List Int) (r : Int) : X G integer_short_l0 (short_st da a b q r (-1)) = some (.x 0, short_end a q r) := by
  have e1 : decide ((-1 : Int) ≥ 0) = false := rfl
  simp -implicitDefEqProofs (maxSteps := 10000000) only [integer_short_l0, short_st, short_end, go_sem, iv, bv, e1, refsL_I, reduceCtorEq, ↓reduceIte, Nat.reduceEqDiff]

theorem short_go (hra : Rw da a) (ha : Dig a) (hb : 0 < b ∧ b < 1000000000) (q : List Int) (r : Int) (hr : 0 ≤ r ∧ r < b) (hq : q.length = a.length) {i : Nat} (hi : i < a.length) (hl : a.length < 4611686018427387904) :
    X G integer_short_l0 (short_st da a b q r (i : Int)) = some (.n, short_st da a b (q.set i ((r * 1000000000 + a.getD i 0) / b)) ((r * 1000000000 + a.getD i 0) % b) ((i : Int) - 1)) := by
  obtain ⟨h1, h2, h3, h4, h5, h6, _⟩ := short_arith hb hr (ha.getD i)
  have a1 := ha.getD i
  have e1 : decide ((i : Int) ≥ 0) = true := ge_t (by omega)
  have e2 := hra.ixn (j := i) (by omega)
  have e3 := fun hp => ldv hp a (j := i) (by omega)
  have e4 : w64 (r * 1000000000) = r * 1000000000 := w64_id (by omega) (by omega)
  have e5 : w64 (r * 1000000000 + a.getD i 0) = r * 1000000000 + a.getD i 0 := w64_id (by omega) (by omega)
  have e6 := eqz_f (b := b) (by omega)
  have e7 := quo_pos (b := b) h1
  have e8 := rem_pos (b := b) h1
  have e9 : w64 ((r * 1000000000 + a.getD i 0) / b) = (r * 1000000000 + a.getD i 0) / b := w64_id (by omega) (by omega)
  have f1 : (0 : Int) ≤ (i : Int) ∧ (i : Int) < ((a.length : Nat) : Int) := by omega
  have f2 := fun v => stcells_I (l := q) (off := i) (v := v) (by omega)
  have f3 : w64 ((i : Int) - 1) = (i : Int) - 1 := w64_id (by omega) (by omega)
  simp -implicitDefEqProofs (maxSteps := 10000000) only [integer_short_l0, short_st, go_sem, iv, bv, e1, e2, e3, e4, e5, e6, e7, e8, e9, f1, f2, f3, allD, refsL_I, cellsI_length, allD_I, reduceCtorEq, ↓reduceIte, Nat.reduceEqDiff]

theorem short_loop (hra : Rw da a) (ha : Dig a) (hb : 0 < b ∧ b < 1000000000) (hl : a.length < 4611686018427387904) : ∀ (k : Nat) (q : List Int) (r : Int), k ≤ a.length → (0 ≤ r ∧ r < b) → q.length = a.length → Dig q → val (a.drop k) = val (q.drop k) * b + r →
    ∃ q' r', X G (.loop integer_short_l0) (short_st da a b q r ((k : Int) - 1)) = some (.x 0, short_end a q' r') ∧ (0 ≤ r' ∧ r' < b) ∧ q'.length = a.length ∧ Dig q' ∧ val a = val q' * b + r'
  | 0, q, r, hk, hr, hq, hd, hv => by
    refine ⟨q, r, ?_, hr, hq, hd, by simpa using hv⟩
    have : ((0 : Nat) : Int) - 1 = -1 := rfl
    rw [this, X_loop, short_stop]; rfl
  | k + 1, q, r, hk, hr, hq, hd, hv => by
    obtain ⟨h1, h2, h3, h4, h5, h6, h7⟩ := short_arith hb hr (ha.getD k)
    have hx := short_go da a b hra ha hb q r hr hq (i := k) (by omega) hl
    obtain ⟨q', r', g1, g2⟩ := short_loop hra ha hb hl k (q.set k ((r * 1000000000 + a.getD k 0) / b)) ((r * 1000000000 + a.getD k 0) % b) (by omega) ⟨h5, h6⟩ (by simpa using hq) (hd.set ⟨h3, h4⟩) (by
      rw [val_drop_getD, hv, val_drop_set _ (by omega)]
      generalize (r * 1000000000 + a.getD k 0) / b = Q at *
      generalize (r * 1000000000 + a.getD k 0) % b = M at *
      clear hx h1 h2 h3 h4 h5 h6
      grind)
    refine ⟨q', r', ?_, g2⟩
    have : ((k + 1 : Nat) : Int) - 1 = (k : Int) := by omega
    rw [this, X_loop, hx]
    exact g1
end

theorem short_spec {da : D} {a : List Int} {b : Int} (hra : Rw da a) (ha : Dig a) (hb : 0 < b ∧ b < 1000000000) (hl : a.length * 8 ≤ 140737488351232) :
    ∃ q r, callX G n_integer_short [da, iv b] = some (.d (.tup [rowI q, iv r])) ∧ (0 ≤ r ∧ r < b) ∧ q.length = a.length ∧ Dig q ∧ val a = val q * b + r := by
  obtain ⟨q, r, h1, h2, h3, h4, h5⟩ := short_loop da a b hra ha hb (by omega) a.length (List.replicate a.length 0) 0 (Nat.le_refl _) (by omega) (by simp) (Dig.replicate _) (by
    rw [List.drop_length, List.drop_eq_nil_of_le (by simp)]; simp [val])
  refine ⟨q, r, ?_, h2, h3, h4, h5⟩
  rw [callX_eq (cf := integer_short) rfl]
  have e1 := bnd a.length hl
  have e2 : w64 ((a.length : Int) - 1) = (a.length : Int) - 1 := w64_id (by omega) (by omega)
  simp only [short_st, short_end, go_sem] at h1
  simp -implicitDefEqProofs (maxSteps := 10000000) only [integer_short, go_sem, iv, bv, h1, e1, e2, hra.len, rep_I, refsL_I, allD_I, cellsI_length, toDs, rowI, h3, reduceCtorEq, ↓reduceIte, Nat.reduceEqDiff]
end Go.AM

