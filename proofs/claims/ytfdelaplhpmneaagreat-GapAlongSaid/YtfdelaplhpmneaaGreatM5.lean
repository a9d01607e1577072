/- Part 5 of the proof: a small machine, its soundness against the model, and what the program's functions compute on it. -/
import Derived.Test.YtfdelaplhpmneaaGreatM4
import Derived.Test.YtfdelaplhpmneaaGreatProg
import Derived.KernelRfl
set_option linter.unusedVariables false
set_option linter.unusedSimpArgs false
set_option maxRecDepth 100000
namespace Go.AM
open Go Go.Proofs


def convex_Sides_l0 : C :=
 .seq (.seq (.seq (.reg [⟨some 17, .bin .lss (.t 16) (.t 15), none⟩] []) <|
 .keep [2, 3, 5, 6, 15, 16, 17] [[2], [3], [5]]) <|
 .seq (.cond (.t 17) (.skip) <|
 .seq (.keep [3, 5, 6] [[3], [5]]) <|
 .exit 0) <|
 .seq (.seq (.blk 1 <|
 .seq (.seq (.reg [⟨some 18, .mov (.t 16), none⟩,
 ⟨some 7, .mov (.t 18), none⟩] []) <|
 .keep [2, 3, 5, 6, 7, 15, 16] [[2], [3], [5]]) <|
 .seq (.seq (.reg [⟨some 20, .load none (.t 2), none⟩,
 ⟨some 21, .mov (.t 7), none⟩,
 ⟨some 22, .ixa 2 (.t 20) (.t 21), none⟩,
 ⟨some 23, .load (some 2) (.t 22), none⟩,
 ⟨some 24, .load none (.t 2), none⟩,
 ⟨some 25, .mov (.t 7), none⟩,
 ⟨some 26, .call n_convex_next [(.t 24), (.t 25)] false, none⟩,
 ⟨some 27, .call n_convex_Norm [(.t 23), (.t 26)] false, none⟩,
 ⟨some 19, .mov (.t 27), none⟩,
 ⟨some 28, .ext (.t 19) 0, none⟩,
 ⟨some 29, .ext (.t 19) 1, none⟩,
 ⟨some 8, .new [.v (.int .i64 0), .v (.int .i64 0), .v (.int .i64 0)], none⟩,
 ⟨none, .store 3 (.t 8) (.t 28), none⟩,
 ⟨some 9, .mov (.t 29), none⟩] []) <|
 .keep [2, 3, 5, 6, 8, 15, 16] [[2], [3], [5], [8]]) <|
 .seq (.reg [⟨some 30, .mov (.t 6), none⟩,
 ⟨some 31, .load (some 3) (.t 8), none⟩,
 ⟨some 32, .calv (.t 30) [(.t 31)], none⟩] []) <|
 .keep [2, 3, 5, 6, 15, 16] [[2], [3], [5]]) <|
 .keep [2, 3, 5, 6, 15, 16] [[2], [3], [5]]) <|
 .seq (.reg [⟨some 33, .bin .add (.t 16) (.c (.v (.int .i64 1))), none⟩,
 ⟨some 16, .mov (.t 33), none⟩] []) <|
 .keep [2, 3, 5, 6, 15, 16] [[2], [3], [5]]) <|
 .keep [2, 3, 5, 6, 15, 16] [[2], [3], [5]]
def convex_Sides_l1 : C :=
 .seq (.seq (.seq (.reg [⟨some 37, .bin .lss (.t 36) (.t 35), none⟩] []) <|
 .keep [3, 5, 6, 35, 36, 37] [[3], [5]]) <|
 .seq (.cond (.t 37) (.skip) <|
 .seq (.keep [5] [[5]]) <|
 .exit 2) <|
 .seq (.seq (.blk 3 <|
 .seq (.seq (.reg [⟨some 38, .mov (.t 36), none⟩,
 ⟨some 10, .mov (.t 38), none⟩] []) <|
 .keep [3, 5, 6, 10, 35, 36] [[3], [5]]) <|
 .seq (.seq (.reg [⟨some 40, .load none (.t 3), none⟩,
 ⟨some 41, .mov (.t 10), none⟩,
 ⟨some 42, .ixa 2 (.t 40) (.t 41), none⟩,
 ⟨some 43, .load (some 2) (.t 42), none⟩,
 ⟨some 44, .load none (.t 3), none⟩,
 ⟨some 45, .mov (.t 10), none⟩,
 ⟨some 46, .call n_convex_next [(.t 44), (.t 45)] false, none⟩,
 ⟨some 47, .call n_convex_Norm [(.t 43), (.t 46)] false, none⟩,
 ⟨some 39, .mov (.t 47), none⟩,
 ⟨some 48, .ext (.t 39) 0, none⟩,
 ⟨some 49, .ext (.t 39) 1, none⟩,
 ⟨some 11, .new [.v (.int .i64 0), .v (.int .i64 0), .v (.int .i64 0)], none⟩,
 ⟨none, .store 3 (.t 11) (.t 48), none⟩,
 ⟨some 12, .mov (.t 49), none⟩] []) <|
 .keep [3, 5, 6, 11, 35, 36] [[3], [5], [11]]) <|
 .seq (.reg [⟨some 50, .mov (.t 6), none⟩,
 ⟨some 51, .load (some 3) (.t 11), none⟩,
 ⟨some 52, .call n_convex_turned [(.t 51)] false, none⟩,
 ⟨some 53, .calv (.t 50) [(.t 52)], none⟩] []) <|
 .keep [3, 5, 6, 35, 36] [[3], [5]]) <|
 .keep [3, 5, 6, 35, 36] [[3], [5]]) <|
 .seq (.reg [⟨some 54, .bin .add (.t 36) (.c (.v (.int .i64 1))), none⟩,
 ⟨some 36, .mov (.t 54), none⟩] []) <|
 .keep [3, 5, 6, 35, 36] [[3], [5]]) <|
 .keep [3, 5, 6, 35, 36] [[3], [5]]
def convex_Sides : CF := ⟨2, .seq (.seq (.reg [⟨some 2, .box (.t 0), none⟩,
 ⟨some 3, .box (.t 1), none⟩,
 ⟨some 4, .mov (.c (.z true)), none⟩] []) <|
 .keep [2, 3] [[2], [3]]) <|
 .seq (.seq (.reg [⟨some 5, .new [.z true], none⟩] []) <|
 .keep [2, 3, 5] [[2], [3], [5]]) <|
 .seq (.seq (.reg [⟨some 13, .mkfn n_convex_Sides_1 [(.t 5), (.t 2), (.t 3)] true, none⟩,
 ⟨some 6, .mov (.t 13), none⟩] []) <|
 .keep [2, 3, 5, 6] [[2], [3], [5]]) <|
 .seq (.seq (.seq (.reg [⟨some 14, .load none (.t 2), none⟩,
 ⟨some 15, .len (.t 14), none⟩,
 ⟨some 16, .mov (.c (.v (.int .i64 0))), none⟩] []) <|
 .keep [2, 3, 5, 6, 15, 16] [[2], [3], [5]]) <|
 .seq (.blk 0 <|
 .seq (.keep [2, 3, 5, 6, 15, 16] [[2], [3], [5]]) <|
 .loop convex_Sides_l0) <|
 .keep [3, 5, 6] [[3], [5]]) <|
 .seq (.seq (.seq (.reg [⟨some 34, .load none (.t 3), none⟩,
 ⟨some 35, .len (.t 34), none⟩,
 ⟨some 36, .mov (.c (.v (.int .i64 0))), none⟩] []) <|
 .keep [3, 5, 6, 35, 36] [[3], [5]]) <|
 .seq (.blk 2 <|
 .seq (.keep [3, 5, 6, 35, 36] [[3], [5]]) <|
 .loop convex_Sides_l1) <|
 .keep [5] [[5]]) <|
 .seq (.seq (.reg [⟨some 55, .load none (.t 5), none⟩,
 ⟨some 4, .mov (.t 55), none⟩] []) <|
 .keep [4] []) <|
 .ret, [.t 4]⟩

def convex_Sum_l0 : C :=
 .seq (.seq (.seq (.reg [⟨some 25, .bin .lss (.t 24) (.t 23), none⟩] []) <|
 .keep [1, 5, 7, 16, 17, 18, 22, 23, 24, 25] [[7], [41]]) <|
 .seq (.cond (.t 25) (.skip) <|
 .seq (.keep [1, 5, 16, 17, 18] [[41]]) <|
 .exit 2) <|
 .seq (.seq (.blk 3 <|
 .seq (.seq (.reg [⟨some 26, .ixa 2 (.t 22) (.t 24), none⟩,
 ⟨some 27, .load (some 2) (.t 26), none⟩,
 ⟨some 9, .new [.v (.int .i64 0), .v (.int .i64 0)], none⟩,
 ⟨none, .store 2 (.t 9) (.t 27), none⟩] []) <|
 .keep [1, 5, 7, 9, 16, 17, 18, 22, 23, 24] [[7], [9], [41]]) <|
 .seq (.reg [⟨some 28, .mov (.t 5), none⟩,
 ⟨some 29, .fad 0 (.t 7), none⟩,
 ⟨some 30, .load none (.t 29), none⟩,
 ⟨some 31, .fad 0 (.t 9), none⟩,
 ⟨some 32, .load none (.t 31), none⟩,
 ⟨some 33, .bin .sub (.t 30) (.t 32), none⟩,
 ⟨some 34, .fad 1 (.t 7), none⟩,
 ⟨some 35, .load none (.t 34), none⟩,
 ⟨some 36, .fad 1 (.t 9), none⟩,
 ⟨some 37, .load none (.t 36), none⟩,
 ⟨some 38, .bin .sub (.t 35) (.t 37), none⟩,
 ⟨some 39, .build [.v (.int .i64 0), .v (.int .i64 0)] [(0, 1, (.t 33)), (1, 1, (.t 38))], none⟩,
 ⟨some 40, .lit 2 1 [.v (.int .i64 0), .v (.int .i64 0)] [(0, (.t 39))] true, none⟩,
 ⟨some 41, .app 2 16 (.t 28) (.t 40) false, none⟩,
 ⟨some 5, .mov (.t 41), none⟩] []) <|
 .keep [1, 5, 7, 16, 17, 18, 22, 23, 24] [[7], [41]]) <|
 .keep [1, 5, 7, 16, 17, 18, 22, 23, 24] [[7], [41]]) <|
 .seq (.reg [⟨some 42, .bin .add (.t 24) (.c (.v (.int .i64 1))), none⟩,
 ⟨some 24, .mov (.t 42), none⟩] []) <|
 .keep [1, 5, 7, 16, 17, 18, 22, 23, 24] [[7], [41]]) <|
 .keep [1, 5, 7, 16, 17, 18, 22, 23, 24] [[7], [41]]
def convex_Sum_l1 : C :=
 .seq (.seq (.seq (.reg [⟨some 19, .bin .lss (.t 18) (.t 17), none⟩] []) <|
 .keep [1, 5, 16, 17, 18, 19] [[41]]) <|
 .seq (.cond (.t 19) (.skip) <|
 .seq (.keep [5] [[41]]) <|
 .exit 0) <|
 .seq (.seq (.blk 1 <|
 .seq (.seq (.reg [⟨some 20, .ixa 2 (.t 16) (.t 18), none⟩,
 ⟨some 21, .load (some 2) (.t 20), none⟩,
 ⟨some 7, .new [.v (.int .i64 0), .v (.int .i64 0)], none⟩,
 ⟨none, .store 2 (.t 7) (.t 21), none⟩] []) <|
 .keep [1, 5, 7, 16, 17, 18] [[7], [41]]) <|
 .seq (.seq (.reg [⟨some 22, .mov (.t 1), none⟩,
 ⟨some 23, .len (.t 22), none⟩,
 ⟨some 24, .mov (.c (.v (.int .i64 0))), none⟩] []) <|
 .keep [1, 5, 7, 16, 17, 18, 22, 23, 24] [[7], [41]]) <|
 .seq (.blk 2 <|
 .seq (.keep [1, 5, 7, 16, 17, 18, 22, 23, 24] [[7], [41]]) <|
 .loop convex_Sum_l0) <|
 .keep [1, 5, 16, 17, 18] [[41]]) <|
 .keep [1, 5, 16, 17, 18] [[41]]) <|
 .seq (.reg [⟨some 43, .bin .add (.t 18) (.c (.v (.int .i64 1))), none⟩,
 ⟨some 18, .mov (.t 43), none⟩] []) <|
 .keep [1, 5, 16, 17, 18] [[41]]) <|
 .keep [1, 5, 16, 17, 18] [[41]]
def convex_Sum_l2 : C :=
 .seq (.seq (.seq (.reg [⟨some 58, .bin .lss (.t 57) (.t 56), none⟩] []) <|
 .keep [5, 10, 11, 12, 13, 55, 56, 57, 58] [[10], [12], [13], [41], [47], [96]]) <|
 .seq (.cond (.t 58) (.skip) <|
 .seq (.keep [5, 10, 11, 13] [[10], [13], [41], [47], [96]]) <|
 .exit 6) <|
 .seq (.seq (.blk 7 <|
 .seq (.seq (.reg [⟨some 59, .ixa 2 (.t 55) (.t 57), none⟩,
 ⟨some 60, .load (some 2) (.t 59), none⟩,
 ⟨some 15, .new [.v (.int .i64 0), .v (.int .i64 0)], none⟩,
 ⟨none, .store 2 (.t 15) (.t 60), none⟩] []) <|
 .keep [5, 10, 11, 12, 13, 15, 55, 56, 57] [[10], [12], [13], [15], [41], [47], [96]]) <|
 .seq (.seq (.reg [⟨some 61, .load (some 2) (.t 13), none⟩,
 ⟨some 62, .load (some 2) (.t 12), none⟩,
 ⟨some 63, .eqs 2 false (.t 61) (.t 62), none⟩,
 ⟨some 64, .mov (.t 63), none⟩,
 ⟨some 65, .load (some 2) (.t 12), (some (64, false))⟩,
 ⟨some 66, .load (some 2) (.t 13), (some (64, false))⟩,
 ⟨some 67, .load (some 2) (.t 15), (some (64, false))⟩,
 ⟨some 68, .call n_convex_cross [(.t 65), (.t 66), (.t 67)] false, (some (64, false))⟩,
 ⟨some 69, .bin .lss (.t 68) (.c (.v (.int .i64 0))), (some (64, false))⟩,
 ⟨some 70, .pick (.t 64) (.c (.v (.bool true))) (.t 69), none⟩,
 ⟨some 71, .mov (.t 70), none⟩,
 ⟨some 72, .load (some 2) (.t 12), (some (71, false))⟩,
 ⟨some 73, .load (some 2) (.t 13), (some (71, false))⟩,
 ⟨some 74, .load (some 2) (.t 15), (some (71, false))⟩,
 ⟨some 75, .call n_convex_cross [(.t 72), (.t 73), (.t 74)] false, (some (71, false))⟩,
 ⟨some 76, .bin .eql (.t 75) (.c (.v (.int .i64 0))), (some (71, false))⟩,
 ⟨some 77, .mov (.t 76), (some (71, false))⟩,
 ⟨some 78, .load (some 2) (.t 12), (some (77, true))⟩,
 ⟨some 79, .load (some 2) (.t 15), (some (77, true))⟩,
 ⟨some 80, .call n_convex_far [(.t 78), (.t 79)] false, (some (77, true))⟩,
 ⟨some 81, .load (some 2) (.t 12), (some (77, true))⟩,
 ⟨some 82, .load (some 2) (.t 13), (some (77, true))⟩,
 ⟨some 83, .call n_convex_far [(.t 81), (.t 82)] false, (some (77, true))⟩,
 ⟨some 84, .bin .gtr (.t 80) (.t 83), (some (77, true))⟩,
 ⟨some 85, .pick (.t 77) (.t 84) (.c (.v (.bool false))), (some (71, false))⟩,
 ⟨some 86, .pick (.t 71) (.c (.v (.bool true))) (.t 85), none⟩] []) <|
 .keep [5, 10, 11, 12, 13, 15, 55, 56, 57, 86] [[10], [12], [13], [15], [41], [47], [96]]) <|
 .cond (.t 86) (.seq (.reg [⟨some 87, .load (some 2) (.t 15), none⟩,
 ⟨none, .store 2 (.t 13) (.t 87), none⟩] []) <|
 .keep [5, 10, 11, 12, 13, 55, 56, 57] [[10], [12], [13], [41], [47], [96]]) <|
 .skip) <|
 .keep [5, 10, 11, 12, 13, 55, 56, 57] [[10], [12], [13], [41], [47], [96]]) <|
 .seq (.reg [⟨some 88, .bin .add (.t 57) (.c (.v (.int .i64 1))), none⟩,
 ⟨some 57, .mov (.t 88), none⟩] []) <|
 .keep [5, 10, 11, 12, 13, 55, 56, 57] [[10], [12], [13], [41], [47], [96]]) <|
 .keep [5, 10, 11, 12, 13, 55, 56, 57] [[10], [12], [13], [41], [47], [96]]
def convex_Sum_l3 : C :=
 .seq (.seq (.blk 5 <|
 .seq (.seq (.reg [⟨some 48, .mov (.t 11), none⟩,
 ⟨some 49, .mov (.t 11), none⟩,
 ⟨some 50, .len (.t 49), none⟩,
 ⟨some 51, .bin .sub (.t 50) (.c (.v (.int .i64 1))), none⟩,
 ⟨some 52, .ixa 2 (.t 48) (.t 51), none⟩,
 ⟨some 53, .load (some 2) (.t 52), none⟩,
 ⟨some 12, .new [.v (.int .i64 0), .v (.int .i64 0)], none⟩,
 ⟨none, .store 2 (.t 12) (.t 53), none⟩] []) <|
 .keep [5, 10, 11, 12] [[10], [12], [41], [47], [96]]) <|
 .seq (.seq (.reg [⟨some 54, .load (some 2) (.t 12), none⟩,
 ⟨some 13, .new [.v (.int .i64 0), .v (.int .i64 0)], none⟩,
 ⟨none, .store 2 (.t 13) (.t 54), none⟩] []) <|
 .keep [5, 10, 11, 12, 13] [[10], [12], [13], [41], [47], [96]]) <|
 .seq (.seq (.seq (.reg [⟨some 55, .mov (.t 5), none⟩,
 ⟨some 56, .len (.t 55), none⟩,
 ⟨some 57, .mov (.c (.v (.int .i64 0))), none⟩] []) <|
 .keep [5, 10, 11, 12, 13, 55, 56, 57] [[10], [12], [13], [41], [47], [96]]) <|
 .seq (.blk 6 <|
 .seq (.keep [5, 10, 11, 12, 13, 55, 56, 57] [[10], [12], [13], [41], [47], [96]]) <|
 .loop convex_Sum_l2) <|
 .keep [5, 10, 11, 13] [[10], [13], [41], [47], [96]]) <|
 .seq (.seq (.seq (.reg [⟨some 89, .load (some 2) (.t 13), none⟩,
 ⟨some 90, .load (some 2) (.t 10), none⟩,
 ⟨some 91, .eqs 2 false (.t 89) (.t 90), none⟩] []) <|
 .keep [5, 10, 11, 13, 91] [[10], [13], [41], [47], [96]]) <|
 .cond (.t 91) (.seq (.seq (.reg [⟨some 92, .mov (.t 11), none⟩,
 ⟨some 4, .mov (.t 92), none⟩] []) <|
 .keep [4] [[47], [96]]) <|
 .ret) <|
 .skip) <|
 .seq (.reg [⟨some 93, .mov (.t 11), none⟩,
 ⟨some 94, .load (some 2) (.t 13), none⟩,
 ⟨some 95, .lit 2 1 [.v (.int .i64 0), .v (.int .i64 0)] [(0, (.t 94))] true, none⟩,
 ⟨some 96, .app 2 16 (.t 93) (.t 95) false, none⟩,
 ⟨some 11, .mov (.t 96), none⟩] []) <|
 .keep [5, 10, 11] [[10], [41], [47], [96]]) <|
 .keep [5, 10, 11] [[10], [41], [47], [96]]) <|
 .keep [5, 10, 11] [[10], [41], [47], [96]]
def convex_Sum : CF := ⟨2, .seq (.seq (.reg [⟨some 4, .mov (.c (.z true)), none⟩] []) <|
 .keep [0, 1] []) <|
 .seq (.seq (.reg [⟨some 5, .mov (.c (.z true)), none⟩] []) <|
 .keep [0, 1, 5] [[41]]) <|
 .seq (.seq (.seq (.reg [⟨some 16, .mov (.t 0), none⟩,
 ⟨some 17, .len (.t 16), none⟩,
 ⟨some 18, .mov (.c (.v (.int .i64 0))), none⟩] []) <|
 .keep [1, 5, 16, 17, 18] [[41]]) <|
 .seq (.blk 0 <|
 .seq (.keep [1, 5, 16, 17, 18] [[41]]) <|
 .loop convex_Sum_l1) <|
 .keep [5] [[41]]) <|
 .seq (.seq (.frz 5) <|
 .seq (.reg [⟨some 44, .mov (.t 5), none⟩,
 ⟨some 45, .call n_slices_MinFunc_api_Point_api_Point [(.t 44), (.f n_convex_Sum_1)] false, none⟩,
 ⟨some 10, .new [.v (.int .i64 0), .v (.int .i64 0)], none⟩,
 ⟨none, .store 2 (.t 10) (.t 45), none⟩] []) <|
 .keep [5, 10] [[10], [41]]) <|
 .seq (.seq (.reg [⟨some 46, .load (some 2) (.t 10), none⟩,
 ⟨some 47, .lit 2 1 [.v (.int .i64 0), .v (.int .i64 0)] [(0, (.t 46))] false, none⟩,
 ⟨some 11, .mov (.t 47), none⟩] []) <|
 .keep [5, 10, 11] [[10], [41], [47], [96]]) <|
 .seq (.blk 4 <|
 .seq (.keep [5, 10, 11] [[10], [41], [47], [96]]) <|
 .loop convex_Sum_l3) <|
 .keep [4] [[47], [96]], [.t 4]⟩

def rat_Mul : CF := ⟨2, .seq (.seq (.reg [⟨some 2, .box (.t 0), none⟩,
 ⟨some 3, .box (.t 1), none⟩,
 ⟨some 4, .new [.v (.bool false), .z true, .v (.bool false), .z true], none⟩] []) <|
 .keep [2, 3, 4] [[2], [3], [4]]) <|
 .seq (.seq (.seq (.reg [⟨some 7, .fad 0 (.t 2), none⟩,
 ⟨some 8, .fad 1 (.t 7), none⟩,
 ⟨some 9, .load none (.t 8), none⟩,
 ⟨some 10, .len (.t 9), none⟩,
 ⟨some 11, .bin .eql (.t 10) (.c (.v (.int .i64 0))), none⟩,
 ⟨some 12, .mov (.t 11), none⟩,
 ⟨some 13, .fad 0 (.t 3), (some (12, false))⟩,
 ⟨some 14, .fad 1 (.t 13), (some (12, false))⟩,
 ⟨some 15, .load none (.t 14), (some (12, false))⟩,
 ⟨some 16, .len (.t 15), (some (12, false))⟩,
 ⟨some 17, .bin .eql (.t 16) (.c (.v (.int .i64 0))), (some (12, false))⟩,
 ⟨some 18, .pick (.t 12) (.c (.v (.bool true))) (.t 17), none⟩] []) <|
 .keep [2, 3, 4, 18] [[2], [3], [4]]) <|
 .cond (.t 18) (.seq (.seq (.reg [⟨some 19, .build [.v (.bool false), .z true, .v (.bool false), .z true] [], none⟩,
 ⟨none, .store 4 (.t 4) (.t 19), none⟩] []) <|
 .keep [4] [[4]]) <|
 .ret) <|
 .skip) <|
 .seq (.seq (.seq (.reg [⟨some 20, .fad 2 (.t 2), none⟩,
 ⟨some 21, .fad 1 (.t 20), none⟩,
 ⟨some 22, .load none (.t 21), none⟩,
 ⟨some 23, .len (.t 22), none⟩,
 ⟨some 24, .bin .eql (.t 23) (.c (.v (.int .i64 0))), none⟩,
 ⟨some 25, .mov (.t 24), none⟩,
 ⟨some 26, .fad 2 (.t 3), (some (25, true))⟩,
 ⟨some 27, .fad 1 (.t 26), (some (25, true))⟩,
 ⟨some 28, .load none (.t 27), (some (25, true))⟩,
 ⟨some 29, .len (.t 28), (some (25, true))⟩,
 ⟨some 30, .bin .eql (.t 29) (.c (.v (.int .i64 0))), (some (25, true))⟩,
 ⟨some 31, .pick (.t 25) (.t 30) (.c (.v (.bool false))), none⟩] []) <|
 .keep [2, 3, 4, 31] [[2], [3], [4]]) <|
 .cond (.t 31) (.seq (.seq (.reg [⟨some 32, .fad 0 (.t 2), none⟩,
 ⟨some 33, .load (some 2) (.t 32), none⟩,
 ⟨some 34, .fad 0 (.t 3), none⟩,
 ⟨some 35, .load (some 2) (.t 34), none⟩,
 ⟨some 36, .call n_integer_Mul [(.t 33), (.t 35)] false, none⟩,
 ⟨some 37, .build [.v (.bool false), .z true, .v (.bool false), .z true] [(0, 2, (.t 36))], none⟩,
 ⟨none, .store 4 (.t 4) (.t 37), none⟩] []) <|
 .keep [4] [[4]]) <|
 .ret) <|
 .skip) <|
 .seq (.seq (.reg [⟨some 38, .fad 0 (.t 2), none⟩,
 ⟨some 39, .load (some 2) (.t 38), none⟩,
 ⟨some 40, .load (some 4) (.t 3), none⟩,
 ⟨some 41, .call n_rat_Den [(.t 40)] false, none⟩,
 ⟨some 42, .call n_rat_Make [(.t 39), (.t 41)] false, none⟩,
 ⟨some 43, .fad 0 (.t 3), none⟩,
 ⟨some 44, .load (some 2) (.t 43), none⟩,
 ⟨some 45, .load (some 4) (.t 2), none⟩,
 ⟨some 46, .call n_rat_Den [(.t 45)] false, none⟩,
 ⟨some 47, .call n_rat_Make [(.t 44), (.t 46)] false, none⟩,
 ⟨some 5, .new [.v (.bool false), .z true, .v (.bool false), .z true], none⟩,
 ⟨some 6, .new [.v (.bool false), .z true, .v (.bool false), .z true], none⟩,
 ⟨none, .store 4 (.t 5) (.t 42), none⟩,
 ⟨none, .store 4 (.t 6) (.t 47), none⟩] []) <|
 .keep [4, 5, 6] [[4], [5], [6]]) <|
 .seq (.seq (.reg [⟨some 48, .fad 0 (.t 5), none⟩,
 ⟨some 49, .load (some 2) (.t 48), none⟩,
 ⟨some 50, .fad 0 (.t 6), none⟩,
 ⟨some 51, .load (some 2) (.t 50), none⟩,
 ⟨some 52, .call n_integer_Mul [(.t 49), (.t 51)] false, none⟩,
 ⟨some 53, .load (some 4) (.t 5), none⟩,
 ⟨some 54, .call n_rat_Den [(.t 53)] false, none⟩,
 ⟨some 55, .load (some 4) (.t 6), none⟩,
 ⟨some 56, .call n_rat_Den [(.t 55)] false, none⟩,
 ⟨some 57, .call n_integer_Mul [(.t 54), (.t 56)] false, none⟩,
 ⟨some 58, .call n_rat_lowest [(.t 52), (.t 57)] false, none⟩,
 ⟨none, .store 4 (.t 4) (.t 58), none⟩] []) <|
 .keep [4] [[4]]) <|
 .ret, [.cell 4 (some 4)]⟩

def rat_Sign : CF := ⟨1, .seq (.seq (.reg [⟨some 1, .box (.t 0), none⟩,
 ⟨some 2, .mov (.c (.v (.int .i64 0))), none⟩] []) <|
 .keep [1] [[1]]) <|
 .seq (.seq (.reg [⟨some 3, .fad 0 (.t 1), none⟩,
 ⟨some 4, .load (some 2) (.t 3), none⟩,
 ⟨some 5, .call n_integer_Sign [(.t 4)] false, none⟩,
 ⟨some 2, .mov (.t 5), none⟩] []) <|
 .keep [2] []) <|
 .ret, [.t 2]⟩

def convex_Has_l0 : C :=
 .seq (.seq (.seq (.reg [⟨some 13, .bin .lss (.t 12) (.t 11), none⟩] []) <|
 .keep [0, 3, 11, 12, 13] [[3]]) <|
 .seq (.cond (.t 13) (.skip) <|
 .seq (.keep [] []) <|
 .exit 0) <|
 .seq (.seq (.blk 1 <|
 .seq (.seq (.reg [⟨some 14, .mov (.t 12), none⟩,
 ⟨some 5, .mov (.t 14), none⟩] []) <|
 .keep [0, 3, 5, 11, 12] [[3]]) <|
 .seq (.seq (.reg [⟨some 15, .mov (.t 0), none⟩,
 ⟨some 16, .mov (.t 5), none⟩,
 ⟨some 17, .ixa 2 (.t 15) (.t 16), none⟩,
 ⟨some 18, .load (some 2) (.t 17), none⟩,
 ⟨some 19, .mov (.t 0), none⟩,
 ⟨some 20, .mov (.t 5), none⟩,
 ⟨some 21, .call n_convex_next [(.t 19), (.t 20)] false, none⟩,
 ⟨some 6, .new [.v (.int .i64 0), .v (.int .i64 0)], none⟩,
 ⟨some 7, .new [.v (.int .i64 0), .v (.int .i64 0)], none⟩,
 ⟨none, .store 2 (.t 6) (.t 18), none⟩,
 ⟨none, .store 2 (.t 7) (.t 21), none⟩] []) <|
 .keep [0, 3, 6, 7, 11, 12] [[3], [6], [7]]) <|
 .seq (.seq (.reg [⟨some 22, .fad 0 (.t 3), none⟩,
 ⟨some 23, .load (some 4) (.t 22), none⟩,
 ⟨some 24, .fad 0 (.t 6), none⟩,
 ⟨some 25, .load none (.t 24), none⟩,
 ⟨some 26, .call n_rat_Of [(.t 25), (.c (.v (.int .i64 1)))] false, none⟩,
 ⟨some 27, .call n_rat_Sub [(.t 23), (.t 26)] false, none⟩,
 ⟨some 28, .fad 4 (.t 3), none⟩,
 ⟨some 29, .load (some 4) (.t 28), none⟩,
 ⟨some 30, .fad 1 (.t 6), none⟩,
 ⟨some 31, .load none (.t 30), none⟩,
 ⟨some 32, .call n_rat_Of [(.t 31), (.c (.v (.int .i64 1)))] false, none⟩,
 ⟨some 33, .call n_rat_Sub [(.t 29), (.t 32)] false, none⟩,
 ⟨some 8, .new [.v (.bool false), .z true, .v (.bool false), .z true], none⟩,
 ⟨some 9, .new [.v (.bool false), .z true, .v (.bool false), .z true], none⟩,
 ⟨none, .store 4 (.t 8) (.t 27), none⟩,
 ⟨none, .store 4 (.t 9) (.t 33), none⟩] []) <|
 .keep [0, 3, 6, 7, 8, 9, 11, 12] [[3], [6], [7], [8], [9]]) <|
 .seq (.seq (.reg [⟨some 34, .fad 0 (.t 7), none⟩,
 ⟨some 35, .load none (.t 34), none⟩,
 ⟨some 36, .fad 0 (.t 6), none⟩,
 ⟨some 37, .load none (.t 36), none⟩,
 ⟨some 38, .bin .sub (.t 35) (.t 37), none⟩,
 ⟨some 39, .call n_rat_Of [(.t 38), (.c (.v (.int .i64 1)))] false, none⟩,
 ⟨some 40, .load (some 4) (.t 9), none⟩,
 ⟨some 41, .call n_rat_Mul [(.t 39), (.t 40)] false, none⟩,
 ⟨some 42, .fad 1 (.t 7), none⟩,
 ⟨some 43, .load none (.t 42), none⟩,
 ⟨some 44, .fad 1 (.t 6), none⟩,
 ⟨some 45, .load none (.t 44), none⟩,
 ⟨some 46, .bin .sub (.t 43) (.t 45), none⟩,
 ⟨some 47, .call n_rat_Of [(.t 46), (.c (.v (.int .i64 1)))] false, none⟩,
 ⟨some 48, .load (some 4) (.t 8), none⟩,
 ⟨some 49, .call n_rat_Mul [(.t 47), (.t 48)] false, none⟩,
 ⟨some 50, .call n_rat_Compare [(.t 41), (.t 49)] false, none⟩,
 ⟨some 51, .bin .lss (.t 50) (.c (.v (.int .i64 0))), none⟩] []) <|
 .keep [0, 3, 11, 12, 51] [[3]]) <|
 .cond (.t 51) (.seq (.seq (.reg [⟨some 4, .mov (.c (.v (.bool false))), none⟩] []) <|
 .keep [4] []) <|
 .ret) <|
 .skip) <|
 .keep [0, 3, 11, 12] [[3]]) <|
 .seq (.reg [⟨some 52, .bin .add (.t 12) (.c (.v (.int .i64 1))), none⟩,
 ⟨some 12, .mov (.t 52), none⟩] []) <|
 .keep [0, 3, 11, 12] [[3]]) <|
 .keep [0, 3, 11, 12] [[3]]
def convex_Has : CF := ⟨2, .seq (.seq (.reg [⟨some 3, .box (.t 1), none⟩,
 ⟨some 4, .mov (.c (.v (.bool false))), none⟩] []) <|
 .keep [0, 3] [[3]]) <|
 .seq (.seq (.seq (.reg [⟨some 10, .mov (.t 0), none⟩,
 ⟨some 11, .len (.t 10), none⟩,
 ⟨some 12, .mov (.c (.v (.int .i64 0))), none⟩] []) <|
 .keep [0, 3, 11, 12] [[3]]) <|
 .seq (.blk 0 <|
 .seq (.keep [0, 3, 11, 12] [[3]]) <|
 .loop convex_Has_l0) <|
 .keep [] []) <|
 .seq (.seq (.reg [⟨some 4, .mov (.c (.v (.bool true))), none⟩] []) <|
 .keep [4] []) <|
 .ret, [.t 4]⟩

def gantryref12_Move_l0 : C :=
 .seq (.seq (.seq (.seq (.reg [⟨some 9, .mov (.t 8), none⟩,
 ⟨some 10, .mov (.t 0), none⟩,
 ⟨some 11, .len (.t 10), none⟩,
 ⟨some 12, .bin .lss (.t 9) (.t 11), none⟩] []) <|
 .keep [0, 1, 2, 7, 8, 12] [[32]]) <|
 .cond (.t 12) (.skip) <|
 .seq (.keep [7] [[32]]) <|
 .exit 0) <|
 .seq (.seq (.blk 1 <|
 .seq (.reg [⟨some 15, .mov (.t 7), none⟩,
 ⟨some 16, .mov (.t 0), none⟩,
 ⟨some 17, .mov (.t 8), none⟩,
 ⟨some 18, .ixa 2 (.t 16) (.t 17), none⟩,
 ⟨some 19, .fad 0 (.t 18), none⟩,
 ⟨some 20, .load none (.t 19), none⟩,
 ⟨some 21, .mov (.t 1), none⟩,
 ⟨some 22, .bin .add (.t 20) (.t 21), none⟩,
 ⟨some 23, .mov (.t 0), none⟩,
 ⟨some 24, .mov (.t 8), none⟩,
 ⟨some 25, .ixa 2 (.t 23) (.t 24), none⟩,
 ⟨some 26, .fad 1 (.t 25), none⟩,
 ⟨some 27, .load none (.t 26), none⟩,
 ⟨some 28, .mov (.t 2), none⟩,
 ⟨some 29, .bin .add (.t 27) (.t 28), none⟩,
 ⟨some 30, .build [.v (.int .i64 0), .v (.int .i64 0)] [(0, 1, (.t 22)), (1, 1, (.t 29))], none⟩,
 ⟨some 31, .lit 2 1 [.v (.int .i64 0), .v (.int .i64 0)] [(0, (.t 30))] true, none⟩,
 ⟨some 32, .app 2 16 (.t 15) (.t 31) false, none⟩,
 ⟨some 7, .mov (.t 32), none⟩] []) <|
 .keep [0, 1, 2, 7, 8] [[32]]) <|
 .keep [0, 1, 2, 7, 8] [[32]]) <|
 .seq (.reg [⟨some 13, .mov (.t 8), none⟩,
 ⟨some 14, .bin .add (.t 13) (.c (.v (.int .i64 1))), none⟩,
 ⟨some 8, .mov (.t 14), none⟩] []) <|
 .keep [0, 1, 2, 7, 8] [[32]]) <|
 .keep [0, 1, 2, 7, 8] [[32]]
def gantryref12_Move : CF := ⟨3, .seq (.seq (.reg [⟨some 6, .mov (.c (.z true)), none⟩] []) <|
 .keep [0, 1, 2] []) <|
 .seq (.seq (.reg [⟨some 7, .mov (.c (.z true)), none⟩] []) <|
 .keep [0, 1, 2, 7] [[32]]) <|
 .seq (.seq (.seq (.reg [⟨some 8, .mov (.c (.v (.int .i64 0))), none⟩] []) <|
 .keep [0, 1, 2, 7, 8] [[32]]) <|
 .seq (.blk 0 <|
 .seq (.keep [0, 1, 2, 7, 8] [[32]]) <|
 .loop gantryref12_Move_l0) <|
 .keep [7] [[32]]) <|
 .seq (.seq (.reg [⟨some 33, .mov (.t 7), none⟩,
 ⟨some 6, .mov (.t 33), none⟩] []) <|
 .keep [6] [[32]]) <|
 .ret, [.t 6]⟩

def gantryref12_Norm : CF := ⟨2, .seq (.seq (.reg [⟨some 2, .box (.t 0), none⟩,
 ⟨some 3, .box (.t 1), none⟩,
 ⟨some 4, .new [.v (.int .i64 0), .v (.int .i64 0), .v (.int .i64 0)], none⟩,
 ⟨some 5, .mov (.c (.v (.bool false))), none⟩] []) <|
 .keep [2, 3, 4] [[2], [3], [4]]) <|
 .seq (.seq (.reg [⟨some 13, .fad 0 (.t 3), none⟩,
 ⟨some 14, .load none (.t 13), none⟩,
 ⟨some 15, .fad 0 (.t 2), none⟩,
 ⟨some 16, .load none (.t 15), none⟩,
 ⟨some 17, .bin .sub (.t 14) (.t 16), none⟩,
 ⟨some 6, .mov (.t 17), none⟩] []) <|
 .keep [2, 3, 4, 6] [[2], [3], [4]]) <|
 .seq (.seq (.reg [⟨some 18, .fad 1 (.t 3), none⟩,
 ⟨some 19, .load none (.t 18), none⟩,
 ⟨some 20, .fad 1 (.t 2), none⟩,
 ⟨some 21, .load none (.t 20), none⟩,
 ⟨some 22, .bin .sub (.t 19) (.t 21), none⟩,
 ⟨some 7, .mov (.t 22), none⟩] []) <|
 .keep [4, 6, 7] [[4]]) <|
 .seq (.seq (.reg [⟨some 24, .mov (.t 6), none⟩,
 ⟨some 25, .mov (.t 6), none⟩,
 ⟨some 26, .bin .mul (.t 24) (.t 25), none⟩,
 ⟨some 27, .mov (.t 7), none⟩,
 ⟨some 28, .mov (.t 7), none⟩,
 ⟨some 29, .bin .mul (.t 27) (.t 28), none⟩,
 ⟨some 30, .bin .add (.t 26) (.t 29), none⟩,
 ⟨some 31, .call n_gantryref04_Of [(.t 30)] false, none⟩,
 ⟨some 32, .call n_gantryref04_Root [(.t 31)] false, none⟩,
 ⟨some 23, .mov (.t 32), none⟩,
 ⟨some 33, .ext (.t 23) 0, none⟩,
 ⟨some 34, .ext (.t 23) 1, none⟩,
 ⟨some 8, .new [.v (.bool false), .z true], none⟩,
 ⟨none, .store 2 (.t 8) (.t 33), none⟩,
 ⟨some 9, .mov (.t 34), none⟩] []) <|
 .keep [4, 6, 7, 8, 9] [[4], [8]]) <|
 .seq (.seq (.reg [⟨some 36, .load (some 2) (.t 8), none⟩,
 ⟨some 37, .call n_gantryref04_Small [(.t 36)] false, none⟩,
 ⟨some 35, .mov (.t 37), none⟩,
 ⟨some 38, .ext (.t 35) 0, none⟩,
 ⟨some 39, .ext (.t 35) 1, none⟩,
 ⟨some 10, .mov (.t 38), none⟩,
 ⟨some 11, .mov (.t 39), none⟩] []) <|
 .keep [4, 6, 7, 9, 10] [[4]]) <|
 .seq (.seq (.seq (.reg [⟨some 40, .mov (.t 9), none⟩,
 ⟨some 41, .un .not (.t 40), none⟩,
 ⟨some 42, .mov (.t 41), none⟩,
 ⟨some 43, .mov (.t 10), (some (42, false))⟩,
 ⟨some 44, .bin .eql (.t 43) (.c (.v (.int .i64 0))), (some (42, false))⟩,
 ⟨some 45, .pick (.t 42) (.c (.v (.bool true))) (.t 44), none⟩] []) <|
 .keep [4, 6, 7, 10, 45] [[4]]) <|
 .cond (.t 45) (.seq (.seq (.reg [⟨some 46, .build [.v (.int .i64 0), .v (.int .i64 0), .v (.int .i64 0)] [], none⟩,
 ⟨none, .store 3 (.t 4) (.t 46), none⟩,
 ⟨some 5, .mov (.c (.v (.bool false))), none⟩] []) <|
 .keep [4, 5] [[4]]) <|
 .ret) <|
 .skip) <|
 .seq (.seq (.reg [⟨some 47, .mov (.t 6), none⟩,
 ⟨some 48, .call n_gantryref12_size [(.t 47)] false, none⟩,
 ⟨some 49, .mov (.t 7), none⟩,
 ⟨some 50, .call n_gantryref12_size [(.t 49)] false, none⟩,
 ⟨some 51, .call n_gantryref12_divisor [(.t 48), (.t 50)] false, none⟩,
 ⟨some 52, .mov (.t 10), none⟩,
 ⟨some 53, .call n_gantryref12_divisor [(.t 51), (.t 52)] false, none⟩,
 ⟨some 12, .mov (.t 53), none⟩] []) <|
 .keep [4, 6, 7, 10, 12] [[4]]) <|
 .seq (.seq (.reg [⟨some 54, .mov (.t 7), none⟩,
 ⟨some 55, .mov (.t 12), none⟩,
 ⟨some 56, .bin .quo (.t 54) (.t 55), none⟩,
 ⟨some 57, .mov (.t 6), none⟩,
 ⟨some 58, .un .neg (.t 57), none⟩,
 ⟨some 59, .mov (.t 12), none⟩,
 ⟨some 60, .bin .quo (.t 58) (.t 59), none⟩,
 ⟨some 61, .mov (.t 10), none⟩,
 ⟨some 62, .mov (.t 12), none⟩,
 ⟨some 63, .bin .quo (.t 61) (.t 62), none⟩,
 ⟨some 64, .build [.v (.int .i64 0), .v (.int .i64 0), .v (.int .i64 0)] [(0, 1, (.t 56)), (1, 1, (.t 60)), (2, 1, (.t 63))], none⟩,
 ⟨none, .store 3 (.t 4) (.t 64), none⟩,
 ⟨some 5, .mov (.c (.v (.bool true))), none⟩] []) <|
 .keep [4, 5] [[4]]) <|
 .ret, [.cell 4 (some 3), .t 5]⟩

def gantryref12_Next : CF := ⟨2, .seq (.seq (.reg [⟨some 4, .new [.v (.int .i64 0), .v (.int .i64 0)], none⟩] []) <|
 .keep [0, 1, 4] [[4]]) <|
 .seq (.seq (.seq (.reg [⟨some 5, .mov (.t 1), none⟩,
 ⟨some 6, .bin .add (.t 5) (.c (.v (.int .i64 1))), none⟩,
 ⟨some 7, .mov (.t 0), none⟩,
 ⟨some 8, .len (.t 7), none⟩,
 ⟨some 9, .bin .lss (.t 6) (.t 8), none⟩] []) <|
 .keep [0, 1, 4, 9] [[4]]) <|
 .cond (.t 9) (.seq (.seq (.reg [⟨some 10, .mov (.t 0), none⟩,
 ⟨some 11, .mov (.t 1), none⟩,
 ⟨some 12, .bin .add (.t 11) (.c (.v (.int .i64 1))), none⟩,
 ⟨some 13, .ixa 2 (.t 10) (.t 12), none⟩,
 ⟨some 14, .load (some 2) (.t 13), none⟩,
 ⟨none, .store 2 (.t 4) (.t 14), none⟩] []) <|
 .keep [4] [[4]]) <|
 .ret) <|
 .skip) <|
 .seq (.seq (.reg [⟨some 15, .mov (.t 0), none⟩,
 ⟨some 16, .ixa 2 (.t 15) (.c (.v (.int .i64 0))), none⟩,
 ⟨some 17, .load (some 2) (.t 16), none⟩,
 ⟨none, .store 2 (.t 4) (.t 17), none⟩] []) <|
 .keep [4] [[4]]) <|
 .ret, [.cell 4 (some 2)]⟩

def gantryref12_Turn : CF := ⟨1, .seq (.seq (.reg [⟨some 1, .box (.t 0), none⟩,
 ⟨some 2, .new [.v (.int .i64 0), .v (.int .i64 0), .v (.int .i64 0)], none⟩] []) <|
 .keep [1, 2] [[1], [2]]) <|
 .seq (.seq (.reg [⟨some 3, .fad 0 (.t 1), none⟩,
 ⟨some 4, .load none (.t 3), none⟩,
 ⟨some 5, .un .neg (.t 4), none⟩,
 ⟨some 6, .fad 1 (.t 1), none⟩,
 ⟨some 7, .load none (.t 6), none⟩,
 ⟨some 8, .un .neg (.t 7), none⟩,
 ⟨some 9, .fad 2 (.t 1), none⟩,
 ⟨some 10, .load none (.t 9), none⟩,
 ⟨some 11, .build [.v (.int .i64 0), .v (.int .i64 0), .v (.int .i64 0)] [(0, 1, (.t 5)), (1, 1, (.t 8)), (2, 1, (.t 10))], none⟩,
 ⟨none, .store 3 (.t 2) (.t 11), none⟩] []) <|
 .keep [2] [[2]]) <|
 .ret, [.cell 2 (some 3)]⟩

def gantryref12_Most_l0 : C :=
 .seq (.seq (.seq (.seq (.reg [⟨some 22, .mov (.t 6), none⟩,
 ⟨some 23, .mov (.t 0), none⟩,
 ⟨some 24, .len (.t 23), none⟩,
 ⟨some 25, .bin .lss (.t 22) (.t 24), none⟩] []) <|
 .keep [0, 3, 5, 6, 25] [[3]]) <|
 .cond (.t 25) (.skip) <|
 .seq (.keep [5] []) <|
 .exit 0) <|
 .seq (.seq (.blk 1 <|
 .seq (.reg [⟨some 28, .mov (.t 5), none⟩,
 ⟨some 29, .fad 0 (.t 3), none⟩,
 ⟨some 30, .load none (.t 29), none⟩,
 ⟨some 31, .mov (.t 0), none⟩,
 ⟨some 32, .mov (.t 6), none⟩,
 ⟨some 33, .ixa 2 (.t 31) (.t 32), none⟩,
 ⟨some 34, .fad 0 (.t 33), none⟩,
 ⟨some 35, .load none (.t 34), none⟩,
 ⟨some 36, .bin .mul (.t 30) (.t 35), none⟩,
 ⟨some 37, .fad 1 (.t 3), none⟩,
 ⟨some 38, .load none (.t 37), none⟩,
 ⟨some 39, .mov (.t 0), none⟩,
 ⟨some 40, .mov (.t 6), none⟩,
 ⟨some 41, .ixa 2 (.t 39) (.t 40), none⟩,
 ⟨some 42, .fad 1 (.t 41), none⟩,
 ⟨some 43, .load none (.t 42), none⟩,
 ⟨some 44, .bin .mul (.t 38) (.t 43), none⟩,
 ⟨some 45, .bin .add (.t 36) (.t 44), none⟩,
 ⟨some 46, .mx [(.t 28), (.t 45)], none⟩,
 ⟨some 5, .mov (.t 46), none⟩] []) <|
 .keep [0, 3, 5, 6] [[3]]) <|
 .keep [0, 3, 5, 6] [[3]]) <|
 .seq (.reg [⟨some 26, .mov (.t 6), none⟩,
 ⟨some 27, .bin .add (.t 26) (.c (.v (.int .i64 1))), none⟩,
 ⟨some 6, .mov (.t 27), none⟩] []) <|
 .keep [0, 3, 5, 6] [[3]]) <|
 .keep [0, 3, 5, 6] [[3]]
def gantryref12_Most : CF := ⟨2, .seq (.seq (.reg [⟨some 3, .box (.t 1), none⟩,
 ⟨some 4, .mov (.c (.v (.int .i64 0))), none⟩] []) <|
 .keep [0, 3] [[3]]) <|
 .seq (.seq (.reg [⟨some 7, .fad 0 (.t 3), none⟩,
 ⟨some 8, .load none (.t 7), none⟩,
 ⟨some 9, .mov (.t 0), none⟩,
 ⟨some 10, .ixa 2 (.t 9) (.c (.v (.int .i64 0))), none⟩,
 ⟨some 11, .fad 0 (.t 10), none⟩,
 ⟨some 12, .load none (.t 11), none⟩,
 ⟨some 13, .bin .mul (.t 8) (.t 12), none⟩,
 ⟨some 14, .fad 1 (.t 3), none⟩,
 ⟨some 15, .load none (.t 14), none⟩,
 ⟨some 16, .mov (.t 0), none⟩,
 ⟨some 17, .ixa 2 (.t 16) (.c (.v (.int .i64 0))), none⟩,
 ⟨some 18, .fad 1 (.t 17), none⟩,
 ⟨some 19, .load none (.t 18), none⟩,
 ⟨some 20, .bin .mul (.t 15) (.t 19), none⟩,
 ⟨some 21, .bin .add (.t 13) (.t 20), none⟩,
 ⟨some 5, .mov (.t 21), none⟩] []) <|
 .keep [0, 3, 5] [[3]]) <|
 .seq (.seq (.seq (.reg [⟨some 6, .mov (.c (.v (.int .i64 0))), none⟩] []) <|
 .keep [0, 3, 5, 6] [[3]]) <|
 .seq (.blk 0 <|
 .seq (.keep [0, 3, 5, 6] [[3]]) <|
 .loop gantryref12_Most_l0) <|
 .keep [5] []) <|
 .seq (.seq (.reg [⟨some 47, .mov (.t 5), none⟩,
 ⟨some 4, .mov (.t 47), none⟩] []) <|
 .keep [4] []) <|
 .ret, [.t 4]⟩

def gantryref12_Sum_l0 : C :=
 .seq (.seq (.seq (.seq (.reg [⟨some 26, .mov (.t 7), none⟩,
 ⟨some 27, .mov (.t 1), none⟩,
 ⟨some 28, .len (.t 27), none⟩,
 ⟨some 29, .bin .lss (.t 26) (.t 28), none⟩] []) <|
 .keep [0, 1, 5, 6, 7, 29] [[57]]) <|
 .cond (.t 29) (.skip) <|
 .seq (.keep [0, 1, 5, 6] [[57]]) <|
 .exit 2) <|
 .seq (.seq (.blk 3 <|
 .seq (.reg [⟨some 32, .mov (.t 5), none⟩,
 ⟨some 33, .mov (.t 0), none⟩,
 ⟨some 34, .mov (.t 6), none⟩,
 ⟨some 35, .ixa 2 (.t 33) (.t 34), none⟩,
 ⟨some 36, .fad 0 (.t 35), none⟩,
 ⟨some 37, .load none (.t 36), none⟩,
 ⟨some 38, .mov (.t 1), none⟩,
 ⟨some 39, .mov (.t 7), none⟩,
 ⟨some 40, .ixa 2 (.t 38) (.t 39), none⟩,
 ⟨some 41, .fad 0 (.t 40), none⟩,
 ⟨some 42, .load none (.t 41), none⟩,
 ⟨some 43, .bin .sub (.t 37) (.t 42), none⟩,
 ⟨some 44, .mov (.t 0), none⟩,
 ⟨some 45, .mov (.t 6), none⟩,
 ⟨some 46, .ixa 2 (.t 44) (.t 45), none⟩,
 ⟨some 47, .fad 1 (.t 46), none⟩,
 ⟨some 48, .load none (.t 47), none⟩,
 ⟨some 49, .mov (.t 1), none⟩,
 ⟨some 50, .mov (.t 7), none⟩,
 ⟨some 51, .ixa 2 (.t 49) (.t 50), none⟩,
 ⟨some 52, .fad 1 (.t 51), none⟩,
 ⟨some 53, .load none (.t 52), none⟩,
 ⟨some 54, .bin .sub (.t 48) (.t 53), none⟩,
 ⟨some 55, .build [.v (.int .i64 0), .v (.int .i64 0)] [(0, 1, (.t 43)), (1, 1, (.t 54))], none⟩,
 ⟨some 56, .lit 2 1 [.v (.int .i64 0), .v (.int .i64 0)] [(0, (.t 55))] true, none⟩,
 ⟨some 57, .app 2 16 (.t 32) (.t 56) false, none⟩,
 ⟨some 5, .mov (.t 57), none⟩] []) <|
 .keep [0, 1, 5, 6, 7] [[57]]) <|
 .keep [0, 1, 5, 6, 7] [[57]]) <|
 .seq (.reg [⟨some 30, .mov (.t 7), none⟩,
 ⟨some 31, .bin .add (.t 30) (.c (.v (.int .i64 1))), none⟩,
 ⟨some 7, .mov (.t 31), none⟩] []) <|
 .keep [0, 1, 5, 6, 7] [[57]]) <|
 .keep [0, 1, 5, 6, 7] [[57]]
def gantryref12_Sum_l1 : C :=
 .seq (.seq (.seq (.seq (.reg [⟨some 20, .mov (.t 6), none⟩,
 ⟨some 21, .mov (.t 0), none⟩,
 ⟨some 22, .len (.t 21), none⟩,
 ⟨some 23, .bin .lss (.t 20) (.t 22), none⟩] []) <|
 .keep [0, 1, 5, 6, 23] [[57]]) <|
 .cond (.t 23) (.skip) <|
 .seq (.keep [5] [[57]]) <|
 .exit 0) <|
 .seq (.seq (.blk 1 <|
 .seq (.seq (.reg [⟨some 7, .mov (.c (.v (.int .i64 0))), none⟩] []) <|
 .keep [0, 1, 5, 6, 7] [[57]]) <|
 .seq (.blk 2 <|
 .seq (.keep [0, 1, 5, 6, 7] [[57]]) <|
 .loop gantryref12_Sum_l0) <|
 .keep [0, 1, 5, 6] [[57]]) <|
 .keep [0, 1, 5, 6] [[57]]) <|
 .seq (.reg [⟨some 24, .mov (.t 6), none⟩,
 ⟨some 25, .bin .add (.t 24) (.c (.v (.int .i64 1))), none⟩,
 ⟨some 6, .mov (.t 25), none⟩] []) <|
 .keep [0, 1, 5, 6] [[57]]) <|
 .keep [0, 1, 5, 6] [[57]]
def gantryref12_Sum_l2 : C :=
 .seq (.seq (.seq (.seq (.reg [⟨some 61, .mov (.t 9), none⟩,
 ⟨some 62, .mov (.t 5), none⟩,
 ⟨some 63, .len (.t 62), none⟩,
 ⟨some 64, .bin .lss (.t 61) (.t 63), none⟩] []) <|
 .keep [5, 8, 9, 64] [[8], [57]]) <|
 .cond (.t 64) (.skip) <|
 .seq (.keep [5, 8] [[8], [57]]) <|
 .exit 4) <|
 .seq (.seq (.blk 5 <|
 .seq (.seq (.reg [⟨some 67, .mov (.t 5), none⟩,
 ⟨some 68, .mov (.t 9), none⟩,
 ⟨some 69, .ixa 2 (.t 67) (.t 68), none⟩,
 ⟨some 70, .fad 1 (.t 69), none⟩,
 ⟨some 71, .load none (.t 70), none⟩,
 ⟨some 72, .fad 1 (.t 8), none⟩,
 ⟨some 73, .load none (.t 72), none⟩,
 ⟨some 74, .bin .lss (.t 71) (.t 73), none⟩,
 ⟨some 75, .mov (.t 74), none⟩,
 ⟨some 76, .mov (.t 5), (some (75, false))⟩,
 ⟨some 77, .mov (.t 9), (some (75, false))⟩,
 ⟨some 78, .ixa 2 (.t 76) (.t 77), (some (75, false))⟩,
 ⟨some 79, .fad 1 (.t 78), (some (75, false))⟩,
 ⟨some 80, .load none (.t 79), (some (75, false))⟩,
 ⟨some 81, .fad 1 (.t 8), (some (75, false))⟩,
 ⟨some 82, .load none (.t 81), (some (75, false))⟩,
 ⟨some 83, .bin .eql (.t 80) (.t 82), (some (75, false))⟩,
 ⟨some 84, .mov (.t 83), (some (75, false))⟩,
 ⟨some 85, .mov (.t 5), (some (84, true))⟩,
 ⟨some 86, .mov (.t 9), (some (84, true))⟩,
 ⟨some 87, .ixa 2 (.t 85) (.t 86), (some (84, true))⟩,
 ⟨some 88, .fad 0 (.t 87), (some (84, true))⟩,
 ⟨some 89, .load none (.t 88), (some (84, true))⟩,
 ⟨some 90, .fad 0 (.t 8), (some (84, true))⟩,
 ⟨some 91, .load none (.t 90), (some (84, true))⟩,
 ⟨some 92, .bin .lss (.t 89) (.t 91), (some (84, true))⟩,
 ⟨some 93, .pick (.t 84) (.t 92) (.c (.v (.bool false))), (some (75, false))⟩,
 ⟨some 94, .pick (.t 75) (.c (.v (.bool true))) (.t 93), none⟩] []) <|
 .keep [5, 8, 9, 94] [[8], [57]]) <|
 .cond (.t 94) (.seq (.reg [⟨some 95, .mov (.t 5), none⟩,
 ⟨some 96, .mov (.t 9), none⟩,
 ⟨some 97, .ixa 2 (.t 95) (.t 96), none⟩,
 ⟨some 98, .load (some 2) (.t 97), none⟩,
 ⟨none, .store 2 (.t 8) (.t 98), none⟩] []) <|
 .keep [5, 8, 9] [[8], [57]]) <|
 .skip) <|
 .keep [5, 8, 9] [[8], [57]]) <|
 .seq (.reg [⟨some 65, .mov (.t 9), none⟩,
 ⟨some 66, .bin .add (.t 65) (.c (.v (.int .i64 1))), none⟩,
 ⟨some 9, .mov (.t 66), none⟩] []) <|
 .keep [5, 8, 9] [[8], [57]]) <|
 .keep [5, 8, 9] [[8], [57]]
def gantryref12_Sum_l3 : C :=
 .seq (.seq (.seq (.seq (.reg [⟨some 124, .mov (.t 14), none⟩,
 ⟨some 125, .mov (.t 5), none⟩,
 ⟨some 126, .len (.t 125), none⟩,
 ⟨some 127, .bin .lss (.t 124) (.t 126), none⟩,
 ⟨some 128, .mov (.t 127), none⟩,
 ⟨some 129, .mov (.t 13), (some (128, true))⟩,
 ⟨some 130, .pick (.t 128) (.t 129) (.c (.v (.bool false))), none⟩] []) <|
 .keep [5, 8, 10, 11, 12, 13, 14, 130] [[8], [11], [57], [100], [210]]) <|
 .cond (.t 130) (.skip) <|
 .seq (.keep [5, 8, 10, 11, 12, 13] [[8], [11], [57], [100], [210]]) <|
 .exit 10) <|
 .seq (.seq (.blk 11 <|
 .seq (.seq (.reg [⟨some 133, .load (some 2) (.t 11), none⟩,
 ⟨some 134, .mov (.t 5), none⟩,
 ⟨some 135, .mov (.t 12), none⟩,
 ⟨some 136, .ixa 2 (.t 134) (.t 135), none⟩,
 ⟨some 137, .load (some 2) (.t 136), none⟩,
 ⟨some 138, .mov (.t 5), none⟩,
 ⟨some 139, .mov (.t 14), none⟩,
 ⟨some 140, .ixa 2 (.t 138) (.t 139), none⟩,
 ⟨some 141, .load (some 2) (.t 140), none⟩,
 ⟨some 142, .call n_gantryref12_Left [(.t 133), (.t 137), (.t 141)] false, none⟩,
 ⟨some 15, .mov (.t 142), none⟩] []) <|
 .keep [5, 8, 10, 11, 12, 14, 15] [[8], [11], [57], [100], [210]]) <|
 .seq (.seq (.reg [⟨some 143, .mov (.t 5), none⟩,
 ⟨some 144, .mov (.t 14), none⟩,
 ⟨some 145, .ixa 2 (.t 143) (.t 144), none⟩,
 ⟨some 146, .fad 0 (.t 145), none⟩,
 ⟨some 147, .load none (.t 146), none⟩,
 ⟨some 148, .fad 0 (.t 11), none⟩,
 ⟨some 149, .load none (.t 148), none⟩,
 ⟨some 150, .bin .sub (.t 147) (.t 149), none⟩,
 ⟨some 16, .mov (.t 150), none⟩] []) <|
 .keep [5, 8, 10, 11, 12, 14, 15, 16] [[8], [11], [57], [100], [210]]) <|
 .seq (.seq (.reg [⟨some 151, .mov (.t 5), none⟩,
 ⟨some 152, .mov (.t 14), none⟩,
 ⟨some 153, .ixa 2 (.t 151) (.t 152), none⟩,
 ⟨some 154, .fad 1 (.t 153), none⟩,
 ⟨some 155, .load none (.t 154), none⟩,
 ⟨some 156, .fad 1 (.t 11), none⟩,
 ⟨some 157, .load none (.t 156), none⟩,
 ⟨some 158, .bin .sub (.t 155) (.t 157), none⟩,
 ⟨some 17, .mov (.t 158), none⟩] []) <|
 .keep [5, 8, 10, 11, 12, 14, 15, 16, 17] [[8], [11], [57], [100], [210]]) <|
 .seq (.seq (.reg [⟨some 159, .mov (.t 5), none⟩,
 ⟨some 160, .mov (.t 12), none⟩,
 ⟨some 161, .ixa 2 (.t 159) (.t 160), none⟩,
 ⟨some 162, .fad 0 (.t 161), none⟩,
 ⟨some 163, .load none (.t 162), none⟩,
 ⟨some 164, .fad 0 (.t 11), none⟩,
 ⟨some 165, .load none (.t 164), none⟩,
 ⟨some 166, .bin .sub (.t 163) (.t 165), none⟩,
 ⟨some 18, .mov (.t 166), none⟩] []) <|
 .keep [5, 8, 10, 11, 12, 14, 15, 16, 17, 18] [[8], [11], [57], [100], [210]]) <|
 .seq (.seq (.reg [⟨some 167, .mov (.t 5), none⟩,
 ⟨some 168, .mov (.t 12), none⟩,
 ⟨some 169, .ixa 2 (.t 167) (.t 168), none⟩,
 ⟨some 170, .fad 1 (.t 169), none⟩,
 ⟨some 171, .load none (.t 170), none⟩,
 ⟨some 172, .fad 1 (.t 11), none⟩,
 ⟨some 173, .load none (.t 172), none⟩,
 ⟨some 174, .bin .sub (.t 171) (.t 173), none⟩,
 ⟨some 19, .mov (.t 174), none⟩] []) <|
 .keep [5, 8, 10, 11, 12, 14, 15, 16, 17, 18, 19] [[8], [11], [57], [100], [210]]) <|
 .seq (.reg [⟨some 175, .mov (.t 15), none⟩,
 ⟨some 176, .bin .gtr (.t 175) (.c (.v (.int .i64 0))), none⟩,
 ⟨some 177, .mov (.t 176), none⟩,
 ⟨some 178, .mov (.t 15), (some (177, false))⟩,
 ⟨some 179, .bin .eql (.t 178) (.c (.v (.int .i64 0))), (some (177, false))⟩,
 ⟨some 180, .mov (.t 179), (some (177, false))⟩,
 ⟨some 181, .mov (.t 16), (some (180, true))⟩,
 ⟨some 182, .mov (.t 16), (some (180, true))⟩,
 ⟨some 183, .bin .mul (.t 181) (.t 182), (some (180, true))⟩,
 ⟨some 184, .mov (.t 17), (some (180, true))⟩,
 ⟨some 185, .mov (.t 17), (some (180, true))⟩,
 ⟨some 186, .bin .mul (.t 184) (.t 185), (some (180, true))⟩,
 ⟨some 187, .bin .add (.t 183) (.t 186), (some (180, true))⟩,
 ⟨some 188, .mov (.t 18), (some (180, true))⟩,
 ⟨some 189, .mov (.t 18), (some (180, true))⟩,
 ⟨some 190, .bin .mul (.t 188) (.t 189), (some (180, true))⟩,
 ⟨some 191, .mov (.t 19), (some (180, true))⟩,
 ⟨some 192, .mov (.t 19), (some (180, true))⟩,
 ⟨some 193, .bin .mul (.t 191) (.t 192), (some (180, true))⟩,
 ⟨some 194, .bin .add (.t 190) (.t 193), (some (180, true))⟩,
 ⟨some 195, .bin .leq (.t 187) (.t 194), (some (180, true))⟩,
 ⟨some 196, .pick (.t 180) (.t 195) (.c (.v (.bool false))), (some (177, false))⟩,
 ⟨some 197, .pick (.t 177) (.c (.v (.bool true))) (.t 196), none⟩,
 ⟨some 13, .mov (.t 197), none⟩] []) <|
 .keep [5, 8, 10, 11, 12, 13, 14] [[8], [11], [57], [100], [210]]) <|
 .keep [5, 8, 10, 11, 12, 13, 14] [[8], [11], [57], [100], [210]]) <|
 .seq (.reg [⟨some 131, .mov (.t 14), none⟩,
 ⟨some 132, .bin .add (.t 131) (.c (.v (.int .i64 1))), none⟩,
 ⟨some 14, .mov (.t 132), none⟩] []) <|
 .keep [5, 8, 10, 11, 12, 13, 14] [[8], [11], [57], [100], [210]]) <|
 .keep [5, 8, 10, 11, 12, 13, 14] [[8], [11], [57], [100], [210]]
def gantryref12_Sum_l4 : C :=
 .seq (.seq (.seq (.seq (.reg [⟨some 112, .mov (.t 12), none⟩,
 ⟨some 113, .mov (.t 5), none⟩,
 ⟨some 114, .len (.t 113), none⟩,
 ⟨some 115, .bin .lss (.t 112) (.t 114), none⟩] []) <|
 .keep [5, 8, 10, 11, 12, 115] [[8], [11], [57], [100], [210]]) <|
 .cond (.t 115) (.skip) <|
 .seq (.keep [5, 8, 10, 11] [[8], [11], [57], [100], [210]]) <|
 .exit 8) <|
 .seq (.seq (.blk 9 <|
 .seq (.seq (.reg [⟨some 118, .mov (.t 5), none⟩,
 ⟨some 119, .mov (.t 12), none⟩,
 ⟨some 120, .ixa 2 (.t 118) (.t 119), none⟩,
 ⟨some 121, .load (some 2) (.t 120), none⟩,
 ⟨some 122, .load (some 2) (.t 11), none⟩,
 ⟨some 123, .eqs 2 true (.t 121) (.t 122), none⟩,
 ⟨some 13, .mov (.t 123), none⟩] []) <|
 .keep [5, 8, 10, 11, 12, 13] [[8], [11], [57], [100], [210]]) <|
 .seq (.seq (.seq (.reg [⟨some 14, .mov (.c (.v (.int .i64 0))), none⟩] []) <|
 .keep [5, 8, 10, 11, 12, 13, 14] [[8], [11], [57], [100], [210]]) <|
 .seq (.blk 10 <|
 .seq (.keep [5, 8, 10, 11, 12, 13, 14] [[8], [11], [57], [100], [210]]) <|
 .loop gantryref12_Sum_l3) <|
 .keep [5, 8, 10, 11, 12, 13] [[8], [11], [57], [100], [210]]) <|
 .seq (.seq (.reg [⟨some 198, .mov (.t 13), none⟩] []) <|
 .keep [5, 8, 10, 11, 12, 198] [[8], [11], [57], [100], [210]]) <|
 .cond (.t 198) (.seq (.seq (.reg [⟨some 199, .mov (.t 5), none⟩,
 ⟨some 200, .mov (.t 12), none⟩,
 ⟨some 201, .ixa 2 (.t 199) (.t 200), none⟩,
 ⟨some 202, .load (some 2) (.t 201), none⟩,
 ⟨none, .store 2 (.t 11) (.t 202), none⟩] []) <|
 .keep [5, 8, 10, 11] [[8], [11], [57], [100], [210]]) <|
 .seq (.keep [5, 8, 10, 11] [[8], [11], [57], [100], [210]]) <|
 .exit 8) <|
 .skip) <|
 .keep [5, 8, 10, 11, 12] [[8], [11], [57], [100], [210]]) <|
 .seq (.reg [⟨some 116, .mov (.t 12), none⟩,
 ⟨some 117, .bin .add (.t 116) (.c (.v (.int .i64 1))), none⟩,
 ⟨some 12, .mov (.t 117), none⟩] []) <|
 .keep [5, 8, 10, 11, 12] [[8], [11], [57], [100], [210]]) <|
 .keep [5, 8, 10, 11, 12] [[8], [11], [57], [100], [210]]
def gantryref12_Sum_l5 : C :=
 .seq (.seq (.seq (.seq (.reg [⟨some 101, .mov (.t 10), none⟩,
 ⟨some 102, .len (.t 101), none⟩,
 ⟨some 103, .mov (.t 5), none⟩,
 ⟨some 104, .len (.t 103), none⟩,
 ⟨some 105, .bin .leq (.t 102) (.t 104), none⟩] []) <|
 .keep [5, 8, 10, 105] [[8], [57], [100], [210]]) <|
 .cond (.t 105) (.skip) <|
 .seq (.keep [10] [[100], [210]]) <|
 .exit 6) <|
 .seq (.blk 7 <|
 .seq (.seq (.reg [⟨some 106, .mov (.t 10), none⟩,
 ⟨some 107, .mov (.t 10), none⟩,
 ⟨some 108, .len (.t 107), none⟩,
 ⟨some 109, .bin .sub (.t 108) (.c (.v (.int .i64 1))), none⟩,
 ⟨some 110, .ixa 2 (.t 106) (.t 109), none⟩,
 ⟨some 111, .load (some 2) (.t 110), none⟩,
 ⟨some 11, .new [.v (.int .i64 0), .v (.int .i64 0)], none⟩,
 ⟨none, .store 2 (.t 11) (.t 111), none⟩] []) <|
 .keep [5, 8, 10, 11] [[8], [11], [57], [100], [210]]) <|
 .seq (.seq (.seq (.reg [⟨some 12, .mov (.c (.v (.int .i64 0))), none⟩] []) <|
 .keep [5, 8, 10, 11, 12] [[8], [11], [57], [100], [210]]) <|
 .seq (.blk 8 <|
 .seq (.keep [5, 8, 10, 11, 12] [[8], [11], [57], [100], [210]]) <|
 .loop gantryref12_Sum_l4) <|
 .keep [5, 8, 10, 11] [[8], [11], [57], [100], [210]]) <|
 .seq (.seq (.seq (.reg [⟨some 203, .load (some 2) (.t 11), none⟩,
 ⟨some 204, .load (some 2) (.t 8), none⟩,
 ⟨some 205, .eqs 2 false (.t 203) (.t 204), none⟩] []) <|
 .keep [5, 8, 10, 11, 205] [[8], [11], [57], [100], [210]]) <|
 .cond (.t 205) (.seq (.seq (.reg [⟨some 206, .mov (.t 10), none⟩,
 ⟨some 4, .mov (.t 206), none⟩] []) <|
 .keep [4] [[100], [210]]) <|
 .ret) <|
 .skip) <|
 .seq (.reg [⟨some 207, .mov (.t 10), none⟩,
 ⟨some 208, .load (some 2) (.t 11), none⟩,
 ⟨some 209, .lit 2 1 [.v (.int .i64 0), .v (.int .i64 0)] [(0, (.t 208))] true, none⟩,
 ⟨some 210, .app 2 16 (.t 207) (.t 209) false, none⟩,
 ⟨some 10, .mov (.t 210), none⟩] []) <|
 .keep [5, 8, 10] [[8], [57], [100], [210]]) <|
 .keep [5, 8, 10] [[8], [57], [100], [210]]) <|
 .keep [5, 8, 10] [[8], [57], [100], [210]]
def gantryref12_Sum : CF := ⟨2, .seq (.seq (.reg [⟨some 4, .mov (.c (.z true)), none⟩] []) <|
 .keep [0, 1] []) <|
 .seq (.seq (.reg [⟨some 5, .mov (.c (.z true)), none⟩] []) <|
 .keep [0, 1, 5] [[57]]) <|
 .seq (.seq (.seq (.reg [⟨some 6, .mov (.c (.v (.int .i64 0))), none⟩] []) <|
 .keep [0, 1, 5, 6] [[57]]) <|
 .seq (.blk 0 <|
 .seq (.keep [0, 1, 5, 6] [[57]]) <|
 .loop gantryref12_Sum_l1) <|
 .keep [5] [[57]]) <|
 .seq (.seq (.reg [⟨some 58, .mov (.t 5), none⟩,
 ⟨some 59, .ixa 2 (.t 58) (.c (.v (.int .i64 0))), none⟩,
 ⟨some 60, .load (some 2) (.t 59), none⟩,
 ⟨some 8, .new [.v (.int .i64 0), .v (.int .i64 0)], none⟩,
 ⟨none, .store 2 (.t 8) (.t 60), none⟩] []) <|
 .keep [5, 8] [[8], [57]]) <|
 .seq (.seq (.seq (.reg [⟨some 9, .mov (.c (.v (.int .i64 0))), none⟩] []) <|
 .keep [5, 8, 9] [[8], [57]]) <|
 .seq (.blk 4 <|
 .seq (.keep [5, 8, 9] [[8], [57]]) <|
 .loop gantryref12_Sum_l2) <|
 .keep [5, 8] [[8], [57]]) <|
 .seq (.seq (.reg [⟨some 99, .load (some 2) (.t 8), none⟩,
 ⟨some 100, .lit 2 1 [.v (.int .i64 0), .v (.int .i64 0)] [(0, (.t 99))] false, none⟩,
 ⟨some 10, .mov (.t 100), none⟩] []) <|
 .keep [5, 8, 10] [[8], [57], [100], [210]]) <|
 .seq (.seq (.blk 6 <|
 .seq (.keep [5, 8, 10] [[8], [57], [100], [210]]) <|
 .loop gantryref12_Sum_l5) <|
 .keep [10] [[100], [210]]) <|
 .seq (.seq (.reg [⟨some 211, .mov (.t 10), none⟩,
 ⟨some 4, .mov (.t 211), none⟩] []) <|
 .keep [4] [[100], [210]]) <|
 .ret, [.t 4]⟩

def gantryref13_Minus : CF := ⟨2, .seq (.seq (.reg [⟨some 2, .box (.t 0), none⟩,
 ⟨some 3, .box (.t 1), none⟩,
 ⟨some 4, .new [.v (.bool false), .z true, .v (.bool false), .z true, .v (.bool false), .z true, .v (.bool false), .z true], none⟩] []) <|
 .keep [2, 3, 4] [[2], [3], [4]]) <|
 .seq (.seq (.reg [⟨some 5, .load (some 8) (.t 2), none⟩,
 ⟨some 6, .call n_gantryref05_Of [(.c (.v (.int .i64 (-1)))), (.c (.v (.int .i64 1)))] false, none⟩,
 ⟨some 7, .load (some 8) (.t 3), none⟩,
 ⟨some 8, .call n_gantryref13_Times [(.t 6), (.t 7)] false, none⟩,
 ⟨some 9, .call n_gantryref13_Plus [(.t 5), (.t 8)] false, none⟩,
 ⟨none, .store 8 (.t 4) (.t 9), none⟩] []) <|
 .keep [4] [[4]]) <|
 .ret, [.cell 4 (some 8)]⟩

def gantryref05_Mul : CF := ⟨2, .seq (.seq (.reg [⟨some 2, .box (.t 0), none⟩,
 ⟨some 3, .box (.t 1), none⟩,
 ⟨some 4, .new [.v (.bool false), .z true, .v (.bool false), .z true], none⟩] []) <|
 .keep [2, 3, 4] [[2], [3], [4]]) <|
 .seq (.seq (.reg [⟨some 5, .fad 0 (.t 2), none⟩,
 ⟨some 6, .load (some 2) (.t 5), none⟩,
 ⟨some 7, .fad 0 (.t 3), none⟩,
 ⟨some 8, .load (some 2) (.t 7), none⟩,
 ⟨some 9, .call n_gantryref04_Mul [(.t 6), (.t 8)] false, none⟩,
 ⟨some 10, .load (some 4) (.t 2), none⟩,
 ⟨some 11, .call n_gantryref05_Den [(.t 10)] false, none⟩,
 ⟨some 12, .load (some 4) (.t 3), none⟩,
 ⟨some 13, .call n_gantryref05_Den [(.t 12)] false, none⟩,
 ⟨some 14, .call n_gantryref04_Mul [(.t 11), (.t 13)] false, none⟩,
 ⟨some 15, .call n_gantryref05_Make [(.t 9), (.t 14)] false, none⟩,
 ⟨none, .store 4 (.t 4) (.t 15), none⟩] []) <|
 .keep [4] [[4]]) <|
 .ret, [.cell 4 (some 4)]⟩

def gantryref05_Make : CF := ⟨2, .seq (.seq (.reg [⟨some 2, .box (.t 0), none⟩,
 ⟨some 3, .box (.t 1), none⟩,
 ⟨some 4, .new [.v (.bool false), .z true, .v (.bool false), .z true], none⟩] []) <|
 .keep [2, 3, 4] [[2], [3], [4]]) <|
 .seq (.seq (.seq (.reg [⟨some 10, .fad 1 (.t 3), none⟩,
 ⟨some 11, .load none (.t 10), none⟩,
 ⟨some 12, .len (.t 11), none⟩,
 ⟨some 13, .bin .eql (.t 12) (.c (.v (.int .i64 0))), none⟩,
 ⟨some 14, .mov (.t 13), none⟩,
 ⟨some 15, .fad 1 (.t 2), (some (14, false))⟩,
 ⟨some 16, .load none (.t 15), (some (14, false))⟩,
 ⟨some 17, .len (.t 16), (some (14, false))⟩,
 ⟨some 18, .bin .eql (.t 17) (.c (.v (.int .i64 0))), (some (14, false))⟩,
 ⟨some 19, .pick (.t 14) (.c (.v (.bool true))) (.t 18), none⟩] []) <|
 .keep [2, 3, 4, 19] [[2], [3], [4]]) <|
 .cond (.t 19) (.seq (.seq (.reg [⟨some 20, .build [.v (.bool false), .z true, .v (.bool false), .z true] [], none⟩,
 ⟨none, .store 4 (.t 4) (.t 20), none⟩] []) <|
 .keep [4] [[4]]) <|
 .ret) <|
 .skip) <|
 .seq (.seq (.reg [⟨some 21, .load (some 2) (.t 2), none⟩,
 ⟨some 22, .load (some 2) (.t 3), none⟩,
 ⟨some 23, .call n_gantryref04_Gcd [(.t 21), (.t 22)] false, none⟩,
 ⟨some 5, .new [.v (.bool false), .z true], none⟩,
 ⟨none, .store 2 (.t 5) (.t 23), none⟩] []) <|
 .keep [2, 3, 4, 5] [[2], [3], [4], [5]]) <|
 .seq (.seq (.reg [⟨some 25, .load (some 2) (.t 2), none⟩,
 ⟨some 26, .load (some 2) (.t 5), none⟩,
 ⟨some 27, .call n_gantryref04_Div [(.t 25), (.t 26)] false, none⟩,
 ⟨some 24, .mov (.t 27), none⟩,
 ⟨some 28, .ext (.t 24) 0, none⟩,
 ⟨some 29, .ext (.t 24) 1, none⟩,
 ⟨some 6, .new [.v (.bool false), .z true], none⟩,
 ⟨some 7, .new [.v (.bool false), .z true], none⟩,
 ⟨none, .store 2 (.t 6) (.t 28), none⟩,
 ⟨none, .store 2 (.t 7) (.t 29), none⟩] []) <|
 .keep [3, 4, 5, 6] [[3], [4], [5], [6]]) <|
 .seq (.seq (.reg [⟨some 31, .load (some 2) (.t 3), none⟩,
 ⟨some 32, .load (some 2) (.t 5), none⟩,
 ⟨some 33, .call n_gantryref04_Div [(.t 31), (.t 32)] false, none⟩,
 ⟨some 30, .mov (.t 33), none⟩,
 ⟨some 34, .ext (.t 30) 0, none⟩,
 ⟨some 35, .ext (.t 30) 1, none⟩,
 ⟨some 8, .new [.v (.bool false), .z true], none⟩,
 ⟨some 9, .new [.v (.bool false), .z true], none⟩,
 ⟨none, .store 2 (.t 8) (.t 34), none⟩,
 ⟨none, .store 2 (.t 9) (.t 35), none⟩] []) <|
 .keep [4, 6, 8] [[4], [6], [8]]) <|
 .seq (.seq (.seq (.reg [⟨some 36, .fad 0 (.t 8), none⟩,
 ⟨some 37, .load none (.t 36), none⟩] []) <|
 .keep [4, 6, 8, 37] [[4], [6], [8]]) <|
 .cond (.t 37) (.seq (.seq (.reg [⟨some 38, .load (some 2) (.t 6), none⟩,
 ⟨some 39, .call n_gantryref04_Neg [(.t 38)] false, none⟩,
 ⟨none, .store 2 (.t 6) (.t 39), none⟩] []) <|
 .keep [4, 6, 8] [[4], [6], [8]]) <|
 .seq (.reg [⟨some 40, .load (some 2) (.t 8), none⟩,
 ⟨some 41, .call n_gantryref04_Neg [(.t 40)] false, none⟩,
 ⟨none, .store 2 (.t 8) (.t 41), none⟩] []) <|
 .keep [4, 6, 8] [[4], [6], [8]]) <|
 .skip) <|
 .seq (.seq (.seq (.reg [⟨some 42, .load (some 2) (.t 8), none⟩,
 ⟨some 43, .call n_gantryref05_one [(.t 42)] false, none⟩] []) <|
 .keep [4, 6, 8, 43] [[4], [6], [8]]) <|
 .cond (.t 43) (.seq (.seq (.reg [⟨some 44, .load (some 2) (.t 6), none⟩,
 ⟨some 45, .build [.v (.bool false), .z true, .v (.bool false), .z true] [(0, 2, (.t 44))], none⟩,
 ⟨none, .store 4 (.t 4) (.t 45), none⟩] []) <|
 .keep [4] [[4]]) <|
 .ret) <|
 .skip) <|
 .seq (.seq (.reg [⟨some 46, .load (some 2) (.t 6), none⟩,
 ⟨some 47, .load (some 2) (.t 8), none⟩,
 ⟨some 48, .build [.v (.bool false), .z true, .v (.bool false), .z true] [(0, 2, (.t 46)), (2, 2, (.t 47))], none⟩,
 ⟨none, .store 4 (.t 4) (.t 48), none⟩] []) <|
 .keep [4] [[4]]) <|
 .ret, [.cell 4 (some 4)]⟩

def gantryref04_Of_l0 : C :=
 .seq (.seq (.seq (.seq (.reg [⟨some 8, .mov (.t 0), none⟩,
 ⟨some 9, .bin .neq (.t 8) (.c (.v (.int .i64 0))), none⟩] []) <|
 .keep [0, 2, 3, 4, 9] [[2], [19]]) <|
 .cond (.t 9) (.skip) <|
 .seq (.keep [2, 3, 4] [[2], [19]]) <|
 .exit 0) <|
 .seq (.blk 1 <|
 .seq (.seq (.reg [⟨some 10, .mov (.t 0), none⟩,
 ⟨some 11, .bin .rem (.t 10) (.c (.v (.int .i64 1000000000))), none⟩,
 ⟨some 5, .mov (.t 11), none⟩] []) <|
 .keep [0, 2, 3, 4, 5] [[2], [19]]) <|
 .seq (.seq (.seq (.reg [⟨some 12, .mov (.t 5), none⟩,
 ⟨some 13, .bin .lss (.t 12) (.c (.v (.int .i64 0))), none⟩] []) <|
 .keep [0, 2, 3, 4, 5, 13] [[2], [19]]) <|
 .cond (.t 13) (.seq (.reg [⟨some 14, .mov (.t 5), none⟩,
 ⟨some 15, .un .neg (.t 14), none⟩,
 ⟨some 5, .mov (.t 15), none⟩] []) <|
 .keep [0, 2, 3, 4, 5] [[2], [19]]) <|
 .skip) <|
 .seq (.seq (.reg [⟨some 16, .mov (.t 3), none⟩,
 ⟨some 17, .mov (.t 5), none⟩,
 ⟨some 18, .lit 1 1 [.v (.int .i64 0)] [(0, (.t 17))] true, none⟩,
 ⟨some 19, .app 1 8 (.t 16) (.t 18) false, none⟩,
 ⟨some 3, .mov (.t 19), none⟩] []) <|
 .keep [0, 2, 3, 4] [[2], [19]]) <|
 .seq (.reg [⟨some 20, .mov (.t 0), none⟩,
 ⟨some 21, .bin .quo (.t 20) (.c (.v (.int .i64 1000000000))), none⟩,
 ⟨some 0, .mov (.t 21), none⟩] []) <|
 .keep [0, 2, 3, 4] [[2], [19]]) <|
 .keep [0, 2, 3, 4] [[2], [19]]) <|
 .keep [0, 2, 3, 4] [[2], [19]]
def gantryref04_Of : CF := ⟨1, .seq (.seq (.reg [⟨some 2, .new [.v (.bool false), .z true], none⟩] []) <|
 .keep [0, 2] [[2]]) <|
 .seq (.seq (.reg [⟨some 3, .mov (.c (.z true)), none⟩] []) <|
 .keep [0, 2, 3] [[2], [19]]) <|
 .seq (.seq (.reg [⟨some 6, .mov (.t 0), none⟩,
 ⟨some 7, .bin .lss (.t 6) (.c (.v (.int .i64 0))), none⟩,
 ⟨some 4, .mov (.t 7), none⟩] []) <|
 .keep [0, 2, 3, 4] [[2], [19]]) <|
 .seq (.seq (.blk 0 <|
 .seq (.keep [0, 2, 3, 4] [[2], [19]]) <|
 .loop gantryref04_Of_l0) <|
 .keep [2, 3, 4] [[2], [19]]) <|
 .seq (.seq (.frz 3) <|
 .seq (.reg [⟨some 22, .mov (.t 4), none⟩,
 ⟨some 23, .mov (.t 3), none⟩,
 ⟨some 24, .call n_gantryref04_normal [(.t 22), (.t 23)] false, none⟩,
 ⟨none, .store 2 (.t 2) (.t 24), none⟩] []) <|
 .keep [2] [[2]]) <|
 .ret, [.cell 2 (some 2)]⟩

def slices_IndexFunc_api_Edge_api_Edge_l0 : C :=
 .seq (.seq (.seq (.reg [⟨some 9, .bin .lss (.t 8) (.t 7), none⟩] []) <|
 .keep [0, 1, 7, 8, 9] []) <|
 .seq (.cond (.t 9) (.skip) <|
 .seq (.keep [] []) <|
 .exit 0) <|
 .seq (.seq (.blk 1 <|
 .seq (.seq (.reg [⟨some 10, .mov (.t 8), none⟩,
 ⟨some 5, .mov (.t 10), none⟩] []) <|
 .keep [0, 1, 5, 7, 8] []) <|
 .seq (.seq (.reg [⟨some 11, .mov (.t 1), none⟩,
 ⟨some 12, .mov (.t 0), none⟩,
 ⟨some 13, .mov (.t 5), none⟩,
 ⟨some 14, .ixa 4 (.t 12) (.t 13), none⟩,
 ⟨some 15, .load (some 4) (.t 14), none⟩,
 ⟨some 16, .calv (.t 11) [(.t 15)], none⟩] []) <|
 .keep [0, 1, 5, 7, 8, 16] []) <|
 .cond (.t 16) (.seq (.seq (.reg [⟨some 17, .mov (.t 5), none⟩,
 ⟨some 4, .mov (.t 17), none⟩] []) <|
 .keep [4] []) <|
 .ret) <|
 .skip) <|
 .keep [0, 1, 7, 8] []) <|
 .seq (.reg [⟨some 18, .bin .add (.t 8) (.c (.v (.int .i64 1))), none⟩,
 ⟨some 8, .mov (.t 18), none⟩] []) <|
 .keep [0, 1, 7, 8] []) <|
 .keep [0, 1, 7, 8] []
def slices_IndexFunc_api_Edge_api_Edge : CF := ⟨2, .seq (.seq (.reg [⟨some 4, .mov (.c (.v (.int .i64 0))), none⟩] []) <|
 .keep [0, 1] []) <|
 .seq (.seq (.seq (.reg [⟨some 6, .mov (.t 0), none⟩,
 ⟨some 7, .len (.t 6), none⟩,
 ⟨some 8, .mov (.c (.v (.int .i64 0))), none⟩] []) <|
 .keep [0, 1, 7, 8] []) <|
 .seq (.blk 0 <|
 .seq (.keep [0, 1, 7, 8] []) <|
 .loop slices_IndexFunc_api_Edge_api_Edge_l0) <|
 .keep [] []) <|
 .seq (.seq (.reg [⟨some 4, .mov (.c (.v (.int .i64 (-1)))), none⟩] []) <|
 .keep [4] []) <|
 .ret, [.t 4]⟩

def gap_Free_1 : CF := ⟨4, .seq (.seq (.reg [⟨some 4, .box (.t 0), none⟩,
 ⟨some 5, .mov (.c (.v (.bool false))), none⟩] []) <|
 .keep [1, 2, 3, 4] [[4]]) <|
 .seq (.seq (.reg [⟨some 6, .load (some 4) (.t 4), none⟩,
 ⟨some 7, .load (some 8) (.t 1), none⟩,
 ⟨some 8, .load (some 8) (.t 2), none⟩,
 ⟨some 9, .load (some 8) (.t 3), none⟩,
 ⟨some 10, .call n_gap_Along [(.t 6), (.t 7), (.t 8), (.t 9)] false, none⟩,
 ⟨some 11, .call n_gap_Stays [(.t 10)] false, none⟩,
 ⟨some 5, .mov (.t 11), none⟩] []) <|
 .keep [5] []) <|
 .ret, [.t 5]⟩

def gap_Contact_1 : CF := ⟨3, .seq (.seq (.reg [⟨some 3, .box (.t 0), none⟩,
 ⟨some 4, .mov (.c (.v (.bool false))), none⟩] []) <|
 .keep [1, 2, 3] [[3]]) <|
 .seq (.seq (.reg [⟨some 6, .load (some 4) (.t 3), none⟩,
 ⟨some 7, .load (some 8) (.t 1), none⟩,
 ⟨some 8, .call n_gap_Gap [(.t 6), (.t 7)] false, none⟩,
 ⟨some 9, .call n_rat_Sign [(.t 8)] false, none⟩,
 ⟨some 5, .mov (.t 9), none⟩] []) <|
 .keep [2, 3, 5] [[3]]) <|
 .seq (.seq (.reg [⟨some 10, .mov (.t 5), none⟩,
 ⟨some 11, .bin .gtr (.t 10) (.c (.v (.int .i64 0))), none⟩,
 ⟨some 12, .mov (.t 11), none⟩,
 ⟨some 13, .mov (.t 5), (some (12, false))⟩,
 ⟨some 14, .bin .eql (.t 13) (.c (.v (.int .i64 0))), (some (12, false))⟩,
 ⟨some 15, .mov (.t 14), (some (12, false))⟩,
 ⟨some 16, .fad 0 (.t 3), (some (15, true))⟩,
 ⟨some 17, .load (some 3) (.t 16), (some (15, true))⟩,
 ⟨some 18, .load (some 8) (.t 2), (some (15, true))⟩,
 ⟨some 19, .call n_gap_rate [(.t 17), (.t 18)] false, (some (15, true))⟩,
 ⟨some 20, .call n_rat_Sign [(.t 19)] false, (some (15, true))⟩,
 ⟨some 21, .bin .gtr (.t 20) (.c (.v (.int .i64 0))), (some (15, true))⟩,
 ⟨some 22, .pick (.t 15) (.t 21) (.c (.v (.bool false))), (some (12, false))⟩,
 ⟨some 23, .pick (.t 12) (.c (.v (.bool true))) (.t 22), none⟩,
 ⟨some 4, .mov (.t 23), none⟩] []) <|
 .keep [4] []) <|
 .ret, [.t 4]⟩

def gap_rate : CF := ⟨2, .seq (.seq (.reg [⟨some 2, .box (.t 0), none⟩,
 ⟨some 3, .box (.t 1), none⟩,
 ⟨some 4, .new [.v (.bool false), .z true, .v (.bool false), .z true], none⟩] []) <|
 .keep [2, 3, 4] [[2], [3], [4]]) <|
 .seq (.seq (.reg [⟨some 5, .fad 0 (.t 2), none⟩,
 ⟨some 6, .load none (.t 5), none⟩,
 ⟨some 7, .call n_rat_Of [(.t 6), (.c (.v (.int .i64 1)))] false, none⟩,
 ⟨some 8, .fad 0 (.t 3), none⟩,
 ⟨some 9, .load (some 4) (.t 8), none⟩,
 ⟨some 10, .call n_rat_Mul [(.t 7), (.t 9)] false, none⟩,
 ⟨some 11, .fad 1 (.t 2), none⟩,
 ⟨some 12, .load none (.t 11), none⟩,
 ⟨some 13, .call n_rat_Of [(.t 12), (.c (.v (.int .i64 1)))] false, none⟩,
 ⟨some 14, .fad 4 (.t 3), none⟩,
 ⟨some 15, .load (some 4) (.t 14), none⟩,
 ⟨some 16, .call n_rat_Mul [(.t 13), (.t 15)] false, none⟩,
 ⟨some 17, .call n_rat_Add [(.t 10), (.t 16)] false, none⟩,
 ⟨some 18, .fad 2 (.t 2), none⟩,
 ⟨some 19, .load none (.t 18), none⟩,
 ⟨some 20, .call n_rat_Of [(.t 19), (.c (.v (.int .i64 1)))] false, none⟩,
 ⟨some 21, .call n_rat_Div [(.t 17), (.t 20)] false, none⟩,
 ⟨none, .store 4 (.t 4) (.t 21), none⟩] []) <|
 .keep [4] [[4]]) <|
 .ret, [.cell 4 (some 4)]⟩

def slices_ContainsFunc_api_Edge_api_Edge : CF := ⟨2, .seq (.seq (.reg [⟨some 4, .mov (.c (.v (.bool false))), none⟩] []) <|
 .keep [0, 1] []) <|
 .seq (.seq (.reg [⟨some 5, .mov (.t 0), none⟩,
 ⟨some 6, .mov (.t 1), none⟩,
 ⟨some 7, .call n_slices_IndexFunc_api_Edge_api_Edge [(.t 5), (.t 6)] false, none⟩,
 ⟨some 8, .bin .geq (.t 7) (.c (.v (.int .i64 0))), none⟩,
 ⟨some 4, .mov (.t 8), none⟩] []) <|
 .keep [4] []) <|
 .ret, [.t 4]⟩

def gap_greatest_api_Edge_l0 : C :=
 .seq (.seq (.seq (.reg [⟨some 14, .bin .lss (.t 13) (.t 12), none⟩] []) <|
 .keep [1, 5, 6, 11, 12, 13, 14] [[6]]) <|
 .seq (.cond (.t 14) (.skip) <|
 .seq (.keep [5] []) <|
 .exit 0) <|
 .seq (.seq (.blk 1 <|
 .seq (.seq (.reg [⟨some 15, .mov (.t 13), none⟩,
 ⟨some 16, .ixa 4 (.t 11) (.t 13), none⟩,
 ⟨some 17, .load (some 4) (.t 16), none⟩,
 ⟨some 8, .new [.v (.int .i64 0), .v (.int .i64 0), .v (.int .i64 0), .v (.int .i64 0)], none⟩,
 ⟨some 7, .mov (.t 15), none⟩,
 ⟨none, .store 4 (.t 8) (.t 17), none⟩] []) <|
 .keep [1, 5, 6, 7, 8, 11, 12, 13] [[6], [8]]) <|
 .seq (.seq (.reg [⟨some 19, .mov (.t 1), none⟩,
 ⟨some 20, .load (some 4) (.t 8), none⟩,
 ⟨some 21, .calv (.t 19) [(.t 20)], none⟩,
 ⟨some 18, .mov (.t 21), none⟩,
 ⟨some 22, .ext (.t 18) 0, none⟩,
 ⟨some 23, .ext (.t 18) 1, none⟩,
 ⟨some 9, .new [.v (.bool false), .z true, .v (.bool false), .z true], none⟩,
 ⟨none, .store 4 (.t 9) (.t 22), none⟩,
 ⟨some 10, .mov (.t 23), none⟩] []) <|
 .keep [1, 5, 6, 7, 9, 10, 11, 12, 13] [[6], [9]]) <|
 .seq (.seq (.reg [⟨some 24, .mov (.t 10), none⟩,
 ⟨some 25, .mov (.t 24), none⟩,
 ⟨some 26, .mov (.t 5), (some (25, true))⟩,
 ⟨some 27, .bin .lss (.t 26) (.c (.v (.int .i64 0))), (some (25, true))⟩,
 ⟨some 28, .mov (.t 27), (some (25, true))⟩,
 ⟨some 29, .load (some 4) (.t 9), (some (28, false))⟩,
 ⟨some 30, .load (some 4) (.t 6), (some (28, false))⟩,
 ⟨some 31, .call n_rat_Compare [(.t 29), (.t 30)] false, (some (28, false))⟩,
 ⟨some 32, .bin .gtr (.t 31) (.c (.v (.int .i64 0))), (some (28, false))⟩,
 ⟨some 33, .pick (.t 28) (.c (.v (.bool true))) (.t 32), (some (25, true))⟩,
 ⟨some 34, .pick (.t 25) (.t 33) (.c (.v (.bool false))), none⟩] []) <|
 .keep [1, 5, 6, 7, 9, 11, 12, 13, 34] [[6], [9]]) <|
 .cond (.t 34) (.seq (.reg [⟨some 35, .mov (.t 7), none⟩,
 ⟨some 36, .load (some 4) (.t 9), none⟩,
 ⟨some 5, .mov (.t 35), none⟩,
 ⟨none, .store 4 (.t 6) (.t 36), none⟩] []) <|
 .keep [1, 5, 6, 11, 12, 13] [[6]]) <|
 .skip) <|
 .keep [1, 5, 6, 11, 12, 13] [[6]]) <|
 .seq (.reg [⟨some 37, .bin .add (.t 13) (.c (.v (.int .i64 1))), none⟩,
 ⟨some 13, .mov (.t 37), none⟩] []) <|
 .keep [1, 5, 6, 11, 12, 13] [[6]]) <|
 .keep [1, 5, 6, 11, 12, 13] [[6]]
def gap_greatest_api_Edge : CF := ⟨2, .seq (.seq (.reg [⟨some 4, .mov (.c (.v (.int .i64 0))), none⟩] []) <|
 .keep [0, 1] []) <|
 .seq (.seq (.reg [⟨some 5, .mov (.c (.v (.int .i64 (-1)))), none⟩] []) <|
 .keep [0, 1, 5] []) <|
 .seq (.seq (.reg [⟨some 6, .new [.v (.bool false), .z true, .v (.bool false), .z true], none⟩] []) <|
 .keep [0, 1, 5, 6] [[6]]) <|
 .seq (.seq (.seq (.reg [⟨some 11, .mov (.t 0), none⟩,
 ⟨some 12, .len (.t 11), none⟩,
 ⟨some 13, .mov (.c (.v (.int .i64 0))), none⟩] []) <|
 .keep [1, 5, 6, 11, 12, 13] [[6]]) <|
 .seq (.blk 0 <|
 .seq (.keep [1, 5, 6, 11, 12, 13] [[6]]) <|
 .loop gap_greatest_api_Edge_l0) <|
 .keep [5] []) <|
 .seq (.seq (.reg [⟨some 38, .mov (.t 5), none⟩,
 ⟨some 4, .mov (.t 38), none⟩] []) <|
 .keep [4] []) <|
 .ret, [.t 4]⟩

def gap_Contact_2 : CF := ⟨3, .seq (.seq (.reg [⟨some 3, .box (.t 0), none⟩,
 ⟨some 4, .new [.v (.bool false), .z true, .v (.bool false), .z true], none⟩,
 ⟨some 5, .mov (.c (.v (.bool false))), none⟩] []) <|
 .keep [1, 2, 3, 4] [[3], [4]]) <|
 .seq (.seq (.reg [⟨some 6, .fad 0 (.t 3), none⟩,
 ⟨some 7, .load (some 3) (.t 6), none⟩,
 ⟨some 8, .load (some 8) (.t 1), none⟩,
 ⟨some 9, .call n_gap_rate [(.t 7), (.t 8)] false, none⟩,
 ⟨some 10, .load (some 4) (.t 3), none⟩,
 ⟨some 11, .load (some 8) (.t 2), none⟩,
 ⟨some 12, .call n_gap_Gap [(.t 10), (.t 11)] false, none⟩,
 ⟨some 13, .call n_rat_Sign [(.t 12)] false, none⟩,
 ⟨some 14, .bin .eql (.t 13) (.c (.v (.int .i64 0))), none⟩,
 ⟨none, .store 4 (.t 4) (.t 9), none⟩,
 ⟨some 5, .mov (.t 14), none⟩] []) <|
 .keep [4, 5] [[4]]) <|
 .ret, [.cell 4 (some 4), .t 5]⟩

def gantryref05_Sign : CF := ⟨1, .seq (.seq (.reg [⟨some 1, .box (.t 0), none⟩,
 ⟨some 2, .mov (.c (.v (.int .i64 0))), none⟩] []) <|
 .keep [1] [[1]]) <|
 .seq (.seq (.reg [⟨some 3, .fad 0 (.t 1), none⟩,
 ⟨some 4, .load (some 2) (.t 3), none⟩,
 ⟨some 5, .call n_gantryref04_Sign [(.t 4)] false, none⟩,
 ⟨some 2, .mov (.t 5), none⟩] []) <|
 .keep [2] []) <|
 .ret, [.t 2]⟩

def gantryref05_Compare : CF := ⟨2, .seq (.seq (.reg [⟨some 2, .box (.t 0), none⟩,
 ⟨some 3, .box (.t 1), none⟩,
 ⟨some 4, .mov (.c (.v (.int .i64 0))), none⟩] []) <|
 .keep [2, 3] [[2], [3]]) <|
 .seq (.seq (.reg [⟨some 5, .fad 0 (.t 2), none⟩,
 ⟨some 6, .load (some 2) (.t 5), none⟩,
 ⟨some 7, .load (some 4) (.t 3), none⟩,
 ⟨some 8, .call n_gantryref05_Den [(.t 7)] false, none⟩,
 ⟨some 9, .call n_gantryref04_Mul [(.t 6), (.t 8)] false, none⟩,
 ⟨some 10, .fad 0 (.t 3), none⟩,
 ⟨some 11, .load (some 2) (.t 10), none⟩,
 ⟨some 12, .load (some 4) (.t 2), none⟩,
 ⟨some 13, .call n_gantryref05_Den [(.t 12)] false, none⟩,
 ⟨some 14, .call n_gantryref04_Mul [(.t 11), (.t 13)] false, none⟩,
 ⟨some 15, .call n_gantryref04_Compare [(.t 9), (.t 14)] false, none⟩,
 ⟨some 4, .mov (.t 15), none⟩] []) <|
 .keep [4] []) <|
 .ret, [.t 4]⟩

def gantryref05_Add : CF := ⟨2, .seq (.seq (.reg [⟨some 2, .box (.t 0), none⟩,
 ⟨some 3, .box (.t 1), none⟩,
 ⟨some 4, .new [.v (.bool false), .z true, .v (.bool false), .z true], none⟩] []) <|
 .keep [2, 3, 4] [[2], [3], [4]]) <|
 .seq (.seq (.reg [⟨some 7, .fad 0 (.t 2), none⟩,
 ⟨some 8, .load (some 2) (.t 7), none⟩,
 ⟨some 9, .load (some 4) (.t 3), none⟩,
 ⟨some 10, .call n_gantryref05_Den [(.t 9)] false, none⟩,
 ⟨some 11, .call n_gantryref04_Mul [(.t 8), (.t 10)] false, none⟩,
 ⟨some 5, .new [.v (.bool false), .z true], none⟩,
 ⟨none, .store 2 (.t 5) (.t 11), none⟩] []) <|
 .keep [2, 3, 4, 5] [[2], [3], [4], [5]]) <|
 .seq (.seq (.reg [⟨some 12, .fad 0 (.t 3), none⟩,
 ⟨some 13, .load (some 2) (.t 12), none⟩,
 ⟨some 14, .load (some 4) (.t 2), none⟩,
 ⟨some 15, .call n_gantryref05_Den [(.t 14)] false, none⟩,
 ⟨some 16, .call n_gantryref04_Mul [(.t 13), (.t 15)] false, none⟩,
 ⟨some 6, .new [.v (.bool false), .z true], none⟩,
 ⟨none, .store 2 (.t 6) (.t 16), none⟩] []) <|
 .keep [2, 3, 4, 5, 6] [[2], [3], [4], [5], [6]]) <|
 .seq (.seq (.reg [⟨some 17, .load (some 2) (.t 5), none⟩,
 ⟨some 18, .load (some 2) (.t 6), none⟩,
 ⟨some 19, .call n_gantryref04_Add [(.t 17), (.t 18)] false, none⟩,
 ⟨some 20, .load (some 4) (.t 2), none⟩,
 ⟨some 21, .call n_gantryref05_Den [(.t 20)] false, none⟩,
 ⟨some 22, .load (some 4) (.t 3), none⟩,
 ⟨some 23, .call n_gantryref05_Den [(.t 22)] false, none⟩,
 ⟨some 24, .call n_gantryref04_Mul [(.t 21), (.t 23)] false, none⟩,
 ⟨some 25, .call n_gantryref05_Make [(.t 19), (.t 24)] false, none⟩,
 ⟨none, .store 4 (.t 4) (.t 25), none⟩] []) <|
 .keep [4] [[4]]) <|
 .ret, [.cell 4 (some 4)]⟩

def gap_Best_1 : CF := ⟨3, .seq (.seq (.reg [⟨some 3, .box (.t 0), none⟩,
 ⟨some 4, .new [.v (.bool false), .z true, .v (.bool false), .z true], none⟩,
 ⟨some 5, .mov (.c (.v (.bool false))), none⟩] []) <|
 .keep [1, 2, 3, 4] [[3], [4]]) <|
 .seq (.seq (.reg [⟨some 6, .load (some 4) (.t 3), none⟩,
 ⟨some 7, .load (some 8) (.t 1), none⟩,
 ⟨some 8, .call n_gap_Gap [(.t 6), (.t 7)] false, none⟩,
 ⟨some 9, .load (some 4) (.t 3), none⟩,
 ⟨some 10, .load (some 8) (.t 2), none⟩,
 ⟨some 11, .call n_gap_Gap [(.t 9), (.t 10)] false, none⟩,
 ⟨some 12, .call n_rat_Sign [(.t 11)] false, none⟩,
 ⟨some 13, .bin .geq (.t 12) (.c (.v (.int .i64 0))), none⟩,
 ⟨none, .store 4 (.t 4) (.t 8), none⟩,
 ⟨some 5, .mov (.t 13), none⟩] []) <|
 .keep [4, 5] [[4]]) <|
 .ret, [.cell 4 (some 4), .t 5]⟩

def gap_Meet_1 : CF := ⟨2, .seq (.seq (.reg [⟨some 2, .box (.t 0), none⟩,
 ⟨some 3, .mov (.c (.v (.bool false))), none⟩] []) <|
 .keep [1, 2] [[2]]) <|
 .seq (.seq (.reg [⟨some 4, .load (some 4) (.t 2), none⟩,
 ⟨some 5, .load (some 8) (.t 1), none⟩,
 ⟨some 6, .call n_gap_Gap [(.t 4), (.t 5)] false, none⟩,
 ⟨some 7, .call n_rat_Sign [(.t 6)] false, none⟩,
 ⟨some 8, .bin .geq (.t 7) (.c (.v (.int .i64 0))), none⟩,
 ⟨some 3, .mov (.t 8), none⟩] []) <|
 .keep [3] []) <|
 .ret, [.t 3]⟩

def gantrylaw13_vec : CF := ⟨2, .seq (.seq (.reg [⟨some 4, .new [.v (.bool false), .z true, .v (.bool false), .z true, .v (.bool false), .z true, .v (.bool false), .z true], none⟩] []) <|
 .keep [0, 1, 4] [[4]]) <|
 .seq (.seq (.reg [⟨some 5, .mov (.t 0), none⟩,
 ⟨some 6, .call n_gantryref05_Of [(.t 5), (.c (.v (.int .i64 1)))] false, none⟩,
 ⟨some 7, .mov (.t 1), none⟩,
 ⟨some 8, .call n_gantryref05_Of [(.t 7), (.c (.v (.int .i64 1)))] false, none⟩,
 ⟨some 9, .build [.v (.bool false), .z true, .v (.bool false), .z true, .v (.bool false), .z true, .v (.bool false), .z true] [(0, 4, (.t 6)), (4, 4, (.t 8))], none⟩,
 ⟨none, .store 8 (.t 4) (.t 9), none⟩] []) <|
 .keep [4] [[4]]) <|
 .ret, [.cell 4 (some 8)]⟩

def poly_Trim_l0 : C :=
 .seq (.seq (.seq (.seq (.reg [⟨some 6, .mov (.t 3), none⟩,
 ⟨some 7, .bin .gtr (.t 6) (.c (.v (.int .i64 0))), none⟩,
 ⟨some 8, .mov (.t 7), none⟩,
 ⟨some 9, .mov (.t 0), (some (8, true))⟩,
 ⟨some 10, .mov (.t 3), (some (8, true))⟩,
 ⟨some 11, .bin .sub (.t 10) (.c (.v (.int .i64 1))), (some (8, true))⟩,
 ⟨some 12, .ixa 4 (.t 9) (.t 11), (some (8, true))⟩,
 ⟨some 13, .load (some 4) (.t 12), (some (8, true))⟩,
 ⟨some 14, .call n_rat_Sign [(.t 13)] false, (some (8, true))⟩,
 ⟨some 15, .bin .eql (.t 14) (.c (.v (.int .i64 0))), (some (8, true))⟩,
 ⟨some 16, .pick (.t 8) (.t 15) (.c (.v (.bool false))), none⟩] []) <|
 .keep [0, 3, 16] []) <|
 .cond (.t 16) (.skip) <|
 .seq (.keep [0, 3] []) <|
 .exit 0) <|
 .seq (.blk 1 <|
 .seq (.reg [⟨some 17, .mov (.t 3), none⟩,
 ⟨some 18, .bin .sub (.t 17) (.c (.v (.int .i64 1))), none⟩,
 ⟨some 3, .mov (.t 18), none⟩] []) <|
 .keep [0, 3] []) <|
 .keep [0, 3] []) <|
 .keep [0, 3] []
def poly_Trim : CF := ⟨1, .seq (.seq (.reg [⟨some 2, .mov (.c (.z true)), none⟩] []) <|
 .keep [0] []) <|
 .seq (.seq (.reg [⟨some 4, .mov (.t 0), none⟩,
 ⟨some 5, .len (.t 4), none⟩,
 ⟨some 3, .mov (.t 5), none⟩] []) <|
 .keep [0, 3] []) <|
 .seq (.seq (.blk 0 <|
 .seq (.keep [0, 3] []) <|
 .loop poly_Trim_l0) <|
 .keep [0, 3] []) <|
 .seq (.seq (.reg [⟨some 19, .mov (.t 0), none⟩,
 ⟨some 20, .mov (.t 3), none⟩,
 ⟨some 21, .slc 4 (.t 19) none (some (.t 20)) none, none⟩,
 ⟨some 22, .call n_slices_Clone_api_Poly_api_Rat [(.t 21)] false, none⟩,
 ⟨some 2, .mov (.t 22), none⟩] []) <|
 .keep [2] []) <|
 .ret, [.t 2]⟩

def gantryref04_Same_l0 : C :=
 .seq (.seq (.seq (.seq (.reg [⟨some 20, .mov (.t 5), none⟩,
 ⟨some 21, .fad 1 (.t 2), none⟩,
 ⟨some 22, .load none (.t 21), none⟩,
 ⟨some 23, .len (.t 22), none⟩,
 ⟨some 24, .bin .lss (.t 20) (.t 23), none⟩] []) <|
 .keep [2, 3, 5, 24] [[2], [3]]) <|
 .cond (.t 24) (.skip) <|
 .seq (.keep [] []) <|
 .exit 0) <|
 .seq (.seq (.blk 1 <|
 .seq (.seq (.reg [⟨some 27, .fad 1 (.t 2), none⟩,
 ⟨some 28, .load none (.t 27), none⟩,
 ⟨some 29, .mov (.t 5), none⟩,
 ⟨some 30, .ixa 1 (.t 28) (.t 29), none⟩,
 ⟨some 31, .load none (.t 30), none⟩,
 ⟨some 32, .fad 1 (.t 3), none⟩,
 ⟨some 33, .load none (.t 32), none⟩,
 ⟨some 34, .mov (.t 5), none⟩,
 ⟨some 35, .ixa 1 (.t 33) (.t 34), none⟩,
 ⟨some 36, .load none (.t 35), none⟩,
 ⟨some 37, .bin .neq (.t 31) (.t 36), none⟩] []) <|
 .keep [2, 3, 5, 37] [[2], [3]]) <|
 .cond (.t 37) (.seq (.seq (.reg [⟨some 4, .mov (.c (.v (.bool false))), none⟩] []) <|
 .keep [4] []) <|
 .ret) <|
 .skip) <|
 .keep [2, 3, 5] [[2], [3]]) <|
 .seq (.reg [⟨some 25, .mov (.t 5), none⟩,
 ⟨some 26, .bin .add (.t 25) (.c (.v (.int .i64 1))), none⟩,
 ⟨some 5, .mov (.t 26), none⟩] []) <|
 .keep [2, 3, 5] [[2], [3]]) <|
 .keep [2, 3, 5] [[2], [3]]
def gantryref04_Same : CF := ⟨2, .seq (.seq (.reg [⟨some 2, .box (.t 0), none⟩,
 ⟨some 3, .box (.t 1), none⟩,
 ⟨some 4, .mov (.c (.v (.bool false))), none⟩] []) <|
 .keep [2, 3] [[2], [3]]) <|
 .seq (.seq (.seq (.reg [⟨some 6, .fad 0 (.t 2), none⟩,
 ⟨some 7, .load none (.t 6), none⟩,
 ⟨some 8, .fad 0 (.t 3), none⟩,
 ⟨some 9, .load none (.t 8), none⟩,
 ⟨some 10, .binb true (.t 7) (.t 9), none⟩,
 ⟨some 11, .mov (.t 10), none⟩,
 ⟨some 12, .fad 1 (.t 2), (some (11, false))⟩,
 ⟨some 13, .load none (.t 12), (some (11, false))⟩,
 ⟨some 14, .len (.t 13), (some (11, false))⟩,
 ⟨some 15, .fad 1 (.t 3), (some (11, false))⟩,
 ⟨some 16, .load none (.t 15), (some (11, false))⟩,
 ⟨some 17, .len (.t 16), (some (11, false))⟩,
 ⟨some 18, .bin .neq (.t 14) (.t 17), (some (11, false))⟩,
 ⟨some 19, .pick (.t 11) (.c (.v (.bool true))) (.t 18), none⟩] []) <|
 .keep [2, 3, 19] [[2], [3]]) <|
 .cond (.t 19) (.seq (.seq (.reg [⟨some 4, .mov (.c (.v (.bool false))), none⟩] []) <|
 .keep [4] []) <|
 .ret) <|
 .skip) <|
 .seq (.seq (.seq (.reg [⟨some 5, .mov (.c (.v (.int .i64 0))), none⟩] []) <|
 .keep [2, 3, 5] [[2], [3]]) <|
 .seq (.blk 0 <|
 .seq (.keep [2, 3, 5] [[2], [3]]) <|
 .loop gantryref04_Same_l0) <|
 .keep [] []) <|
 .seq (.seq (.reg [⟨some 4, .mov (.c (.v (.bool true))), none⟩] []) <|
 .keep [4] []) <|
 .ret, [.t 4]⟩

def rat_Sub : CF := ⟨2, .seq (.seq (.reg [⟨some 2, .box (.t 0), none⟩,
 ⟨some 3, .box (.t 1), none⟩,
 ⟨some 4, .new [.v (.bool false), .z true, .v (.bool false), .z true], none⟩] []) <|
 .keep [2, 3, 4] [[2], [3], [4]]) <|
 .seq (.seq (.reg [⟨some 5, .load (some 4) (.t 2), none⟩,
 ⟨some 6, .load (some 4) (.t 3), none⟩,
 ⟨some 7, .call n_rat_Neg [(.t 6)] false, none⟩,
 ⟨some 8, .call n_rat_Add [(.t 5), (.t 7)] false, none⟩,
 ⟨none, .store 4 (.t 4) (.t 8), none⟩] []) <|
 .keep [4] [[4]]) <|
 .ret, [.cell 4 (some 4)]⟩

def gantryref05_Div : CF := ⟨2, .seq (.seq (.reg [⟨some 2, .box (.t 0), none⟩,
 ⟨some 3, .box (.t 1), none⟩,
 ⟨some 4, .new [.v (.bool false), .z true, .v (.bool false), .z true], none⟩] []) <|
 .keep [2, 3, 4] [[2], [3], [4]]) <|
 .seq (.seq (.reg [⟨some 5, .fad 0 (.t 2), none⟩,
 ⟨some 6, .load (some 2) (.t 5), none⟩,
 ⟨some 7, .load (some 4) (.t 3), none⟩,
 ⟨some 8, .call n_gantryref05_Den [(.t 7)] false, none⟩,
 ⟨some 9, .call n_gantryref04_Mul [(.t 6), (.t 8)] false, none⟩,
 ⟨some 10, .load (some 4) (.t 2), none⟩,
 ⟨some 11, .call n_gantryref05_Den [(.t 10)] false, none⟩,
 ⟨some 12, .fad 0 (.t 3), none⟩,
 ⟨some 13, .load (some 2) (.t 12), none⟩,
 ⟨some 14, .call n_gantryref04_Mul [(.t 11), (.t 13)] false, none⟩,
 ⟨some 15, .call n_gantryref05_Make [(.t 9), (.t 14)] false, none⟩,
 ⟨none, .store 4 (.t 4) (.t 15), none⟩] []) <|
 .keep [4] [[4]]) <|
 .ret, [.cell 4 (some 4)]⟩

def gantryref05_Sub : CF := ⟨2, .seq (.seq (.reg [⟨some 2, .box (.t 0), none⟩,
 ⟨some 3, .box (.t 1), none⟩,
 ⟨some 4, .new [.v (.bool false), .z true, .v (.bool false), .z true], none⟩] []) <|
 .keep [2, 3, 4] [[2], [3], [4]]) <|
 .seq (.seq (.reg [⟨some 5, .load (some 4) (.t 2), none⟩,
 ⟨some 6, .load (some 4) (.t 3), none⟩,
 ⟨some 7, .call n_gantryref05_Neg [(.t 6)] false, none⟩,
 ⟨some 8, .call n_gantryref05_Add [(.t 5), (.t 7)] false, none⟩,
 ⟨none, .store 4 (.t 4) (.t 8), none⟩] []) <|
 .keep [4] [[4]]) <|
 .ret, [.cell 4 (some 4)]⟩

def gantryref12_Dot : CF := ⟨2, .seq (.seq (.reg [⟨some 2, .box (.t 0), none⟩,
 ⟨some 3, .box (.t 1), none⟩,
 ⟨some 4, .new [.v (.bool false), .z true, .v (.bool false), .z true], none⟩] []) <|
 .keep [2, 3, 4] [[2], [3], [4]]) <|
 .seq (.seq (.reg [⟨some 5, .fad 0 (.t 2), none⟩,
 ⟨some 6, .load none (.t 5), none⟩,
 ⟨some 7, .call n_gantryref05_Of [(.t 6), (.c (.v (.int .i64 1)))] false, none⟩,
 ⟨some 8, .fad 0 (.t 3), none⟩,
 ⟨some 9, .load (some 4) (.t 8), none⟩,
 ⟨some 10, .call n_gantryref05_Mul [(.t 7), (.t 9)] false, none⟩,
 ⟨some 11, .fad 1 (.t 2), none⟩,
 ⟨some 12, .load none (.t 11), none⟩,
 ⟨some 13, .call n_gantryref05_Of [(.t 12), (.c (.v (.int .i64 1)))] false, none⟩,
 ⟨some 14, .fad 4 (.t 3), none⟩,
 ⟨some 15, .load (some 4) (.t 14), none⟩,
 ⟨some 16, .call n_gantryref05_Mul [(.t 13), (.t 15)] false, none⟩,
 ⟨some 17, .call n_gantryref05_Add [(.t 10), (.t 16)] false, none⟩,
 ⟨none, .store 4 (.t 4) (.t 17), none⟩] []) <|
 .keep [4] [[4]]) <|
 .ret, [.cell 4 (some 4)]⟩

def integer_Add : CF := ⟨2, .seq (.seq (.reg [⟨some 2, .box (.t 0), none⟩,
 ⟨some 3, .box (.t 1), none⟩,
 ⟨some 4, .new [.v (.bool false), .z true], none⟩] []) <|
 .keep [2, 3, 4] [[2], [3], [4]]) <|
 .seq (.seq (.blk 0 <|
 .seq (.seq (.reg [⟨some 6, .fad 0 (.t 2), none⟩,
 ⟨some 7, .load none (.t 6), none⟩,
 ⟨some 8, .fad 0 (.t 3), none⟩,
 ⟨some 9, .load none (.t 8), none⟩,
 ⟨some 10, .binb false (.t 7) (.t 9), none⟩,
 ⟨some 5, .mov (.t 10), none⟩] []) <|
 .keep [2, 3, 4, 5] [[2], [3], [4]]) <|
 .cond (.t 5) (.seq (.seq (.reg [⟨some 11, .fad 0 (.t 2), none⟩,
 ⟨some 12, .load none (.t 11), none⟩,
 ⟨some 13, .fad 1 (.t 2), none⟩,
 ⟨some 14, .load none (.t 13), none⟩,
 ⟨some 15, .fad 1 (.t 3), none⟩,
 ⟨some 16, .load none (.t 15), none⟩,
 ⟨some 17, .call n_integer_plus [(.t 14), (.t 16)] false, none⟩,
 ⟨some 18, .call n_integer_of [(.t 12), (.t 17)] false, none⟩,
 ⟨none, .store 2 (.t 4) (.t 18), none⟩] []) <|
 .keep [4] [[4]]) <|
 .ret) <|
 .seq (.seq (.reg [⟨some 20, .fad 1 (.t 2), none⟩,
 ⟨some 21, .load none (.t 20), none⟩,
 ⟨some 22, .fad 1 (.t 3), none⟩,
 ⟨some 23, .load none (.t 22), none⟩,
 ⟨some 24, .call n_integer_compare [(.t 21), (.t 23)] false, none⟩,
 ⟨some 25, .bin .lss (.t 24) (.c (.v (.int .i64 0))), none⟩,
 ⟨some 19, .mov (.t 25), none⟩] []) <|
 .keep [2, 3, 4, 19] [[2], [3], [4]]) <|
 .cond (.t 19) (.seq (.seq (.reg [⟨some 26, .fad 0 (.t 3), none⟩,
 ⟨some 27, .load none (.t 26), none⟩,
 ⟨some 28, .fad 1 (.t 3), none⟩,
 ⟨some 29, .load none (.t 28), none⟩,
 ⟨some 30, .fad 1 (.t 2), none⟩,
 ⟨some 31, .load none (.t 30), none⟩,
 ⟨some 32, .call n_integer_minus [(.t 29), (.t 31)] false, none⟩,
 ⟨some 33, .call n_integer_of [(.t 27), (.t 32)] false, none⟩,
 ⟨none, .store 2 (.t 4) (.t 33), none⟩] []) <|
 .keep [4] [[4]]) <|
 .ret) <|
 .skip) <|
 .keep [2, 3, 4] [[2], [3], [4]]) <|
 .seq (.seq (.reg [⟨some 34, .fad 0 (.t 2), none⟩,
 ⟨some 35, .load none (.t 34), none⟩,
 ⟨some 36, .fad 1 (.t 2), none⟩,
 ⟨some 37, .load none (.t 36), none⟩,
 ⟨some 38, .fad 1 (.t 3), none⟩,
 ⟨some 39, .load none (.t 38), none⟩,
 ⟨some 40, .call n_integer_minus [(.t 37), (.t 39)] false, none⟩,
 ⟨some 41, .call n_integer_of [(.t 35), (.t 40)] false, none⟩,
 ⟨none, .store 2 (.t 4) (.t 41), none⟩] []) <|
 .keep [4] [[4]]) <|
 .ret, [.cell 4 (some 2)]⟩

def rat_Den : CF := ⟨1, .seq (.seq (.reg [⟨some 1, .box (.t 0), none⟩,
 ⟨some 2, .new [.v (.bool false), .z true], none⟩] []) <|
 .keep [1, 2] [[1], [2]]) <|
 .seq (.seq (.seq (.reg [⟨some 3, .fad 2 (.t 1), none⟩,
 ⟨some 4, .fad 1 (.t 3), none⟩,
 ⟨some 5, .load none (.t 4), none⟩,
 ⟨some 6, .len (.t 5), none⟩,
 ⟨some 7, .bin .eql (.t 6) (.c (.v (.int .i64 0))), none⟩] []) <|
 .keep [1, 2, 7] [[1], [2]]) <|
 .cond (.t 7) (.seq (.seq (.reg [⟨some 8, .call n_rat_one [] false, none⟩,
 ⟨none, .store 2 (.t 2) (.t 8), none⟩] []) <|
 .keep [2] [[2]]) <|
 .ret) <|
 .skip) <|
 .seq (.seq (.reg [⟨some 9, .fad 2 (.t 1), none⟩,
 ⟨some 10, .load (some 2) (.t 9), none⟩,
 ⟨none, .store 2 (.t 2) (.t 10), none⟩] []) <|
 .keep [2] [[2]]) <|
 .ret, [.cell 2 (some 2)]⟩

def rat_Make : CF := ⟨2, .seq (.seq (.reg [⟨some 2, .box (.t 0), none⟩,
 ⟨some 3, .box (.t 1), none⟩,
 ⟨some 4, .new [.v (.bool false), .z true, .v (.bool false), .z true], none⟩] []) <|
 .keep [2, 3, 4] [[2], [3], [4]]) <|
 .seq (.seq (.seq (.reg [⟨some 6, .fad 1 (.t 3), none⟩,
 ⟨some 7, .load none (.t 6), none⟩,
 ⟨some 8, .len (.t 7), none⟩,
 ⟨some 9, .bin .eql (.t 8) (.c (.v (.int .i64 0))), none⟩,
 ⟨some 10, .mov (.t 9), none⟩,
 ⟨some 11, .fad 1 (.t 2), (some (10, false))⟩,
 ⟨some 12, .load none (.t 11), (some (10, false))⟩,
 ⟨some 13, .len (.t 12), (some (10, false))⟩,
 ⟨some 14, .bin .eql (.t 13) (.c (.v (.int .i64 0))), (some (10, false))⟩,
 ⟨some 15, .pick (.t 10) (.c (.v (.bool true))) (.t 14), none⟩] []) <|
 .keep [2, 3, 4, 15] [[2], [3], [4]]) <|
 .cond (.t 15) (.seq (.seq (.reg [⟨some 16, .build [.v (.bool false), .z true, .v (.bool false), .z true] [], none⟩,
 ⟨none, .store 4 (.t 4) (.t 16), none⟩] []) <|
 .keep [4] [[4]]) <|
 .ret) <|
 .skip) <|
 .seq (.seq (.seq (.reg [⟨some 17, .load (some 2) (.t 2), none⟩,
 ⟨some 18, .load (some 2) (.t 3), none⟩,
 ⟨some 19, .call n_integer_Gcd [(.t 17), (.t 18)] false, none⟩,
 ⟨some 5, .new [.v (.bool false), .z true], none⟩,
 ⟨none, .store 2 (.t 5) (.t 19), none⟩] []) <|
 .keep [2, 3, 4, 5] [[2], [3], [4], [5]]) <|
 .seq (.seq (.reg [⟨some 20, .load (some 2) (.t 5), none⟩,
 ⟨some 21, .call n_rat_unit [(.t 20)] false, none⟩,
 ⟨some 22, .un .not (.t 21), none⟩] []) <|
 .keep [2, 3, 4, 5, 22] [[2], [3], [4], [5]]) <|
 .cond (.t 22) (.seq (.seq (.reg [⟨some 24, .load (some 2) (.t 2), none⟩,
 ⟨some 25, .load (some 2) (.t 5), none⟩,
 ⟨some 26, .call n_integer_Div [(.t 24), (.t 25)] false, none⟩,
 ⟨some 23, .mov (.t 26), none⟩,
 ⟨some 27, .ext (.t 23) 0, none⟩,
 ⟨some 28, .ext (.t 23) 1, none⟩,
 ⟨none, .store 2 (.t 2) (.t 27), none⟩] []) <|
 .keep [2, 3, 4, 5] [[2], [3], [4], [5]]) <|
 .seq (.reg [⟨some 30, .load (some 2) (.t 3), none⟩,
 ⟨some 31, .load (some 2) (.t 5), none⟩,
 ⟨some 32, .call n_integer_Div [(.t 30), (.t 31)] false, none⟩,
 ⟨some 29, .mov (.t 32), none⟩,
 ⟨some 33, .ext (.t 29) 0, none⟩,
 ⟨some 34, .ext (.t 29) 1, none⟩,
 ⟨none, .store 2 (.t 3) (.t 33), none⟩] []) <|
 .keep [2, 3, 4] [[2], [3], [4]]) <|
 .skip) <|
 .seq (.seq (.reg [⟨some 35, .load (some 2) (.t 2), none⟩,
 ⟨some 36, .load (some 2) (.t 3), none⟩,
 ⟨some 37, .call n_rat_lowest [(.t 35), (.t 36)] false, none⟩,
 ⟨none, .store 4 (.t 4) (.t 37), none⟩] []) <|
 .keep [4] [[4]]) <|
 .ret, [.cell 4 (some 4)]⟩

def integer_Mul_l0 : C :=
 .seq (.seq (.seq (.reg [⟨some 57, .bin .lss (.t 56) (.t 55), none⟩] []) <|
 .keep [2, 3, 4, 6, 7, 8, 9, 10, 47, 48, 49, 54, 55, 56, 57] [[2], [3], [4], [46]]) <|
 .seq (.cond (.t 57) (.skip) <|
 .seq (.keep [2, 3, 4, 6, 7, 8, 10, 47, 48, 49] [[2], [3], [4], [46]]) <|
 .exit 2) <|
 .seq (.seq (.blk 3 <|
 .seq (.seq (.reg [⟨some 58, .mov (.t 56), none⟩,
 ⟨some 59, .ixa 1 (.t 54) (.t 56), none⟩,
 ⟨some 60, .load none (.t 59), none⟩,
 ⟨some 11, .mov (.t 58), none⟩,
 ⟨some 12, .mov (.t 60), none⟩] []) <|
 .keep [2, 3, 4, 6, 7, 8, 9, 10, 11, 12, 47, 48, 49, 54, 55, 56] [[2], [3], [4], [46]]) <|
 .seq (.seq (.reg [⟨some 61, .mov (.t 7), none⟩,
 ⟨some 62, .mov (.t 8), none⟩,
 ⟨some 63, .mov (.t 11), none⟩,
 ⟨some 64, .bin .add (.t 62) (.t 63), none⟩,
 ⟨some 65, .ixa 1 (.t 61) (.t 64), none⟩,
 ⟨some 66, .load none (.t 65), none⟩,
 ⟨some 67, .mov (.t 9), none⟩,
 ⟨some 68, .mov (.t 12), none⟩,
 ⟨some 69, .bin .mul (.t 67) (.t 68), none⟩,
 ⟨some 70, .bin .add (.t 66) (.t 69), none⟩,
 ⟨some 71, .mov (.t 10), none⟩,
 ⟨some 72, .bin .add (.t 70) (.t 71), none⟩,
 ⟨some 13, .mov (.t 72), none⟩] []) <|
 .keep [2, 3, 4, 6, 7, 8, 9, 11, 13, 47, 48, 49, 54, 55, 56] [[2], [3], [4], [46]]) <|
 .seq (.seq (.reg [⟨some 73, .mov (.t 13), none⟩,
 ⟨some 74, .bin .quo (.t 73) (.c (.v (.int .i64 1000000000))), none⟩,
 ⟨some 10, .mov (.t 74), none⟩] []) <|
 .keep [2, 3, 4, 6, 7, 8, 9, 10, 11, 13, 47, 48, 49, 54, 55, 56] [[2], [3], [4], [46]]) <|
 .seq (.reg [⟨some 75, .mov (.t 7), none⟩,
 ⟨some 76, .mov (.t 8), none⟩,
 ⟨some 77, .mov (.t 11), none⟩,
 ⟨some 78, .bin .add (.t 76) (.t 77), none⟩,
 ⟨some 79, .mov (.t 13), none⟩,
 ⟨some 80, .mov (.t 10), none⟩,
 ⟨some 81, .bin .mul (.t 80) (.c (.v (.int .i64 1000000000))), none⟩,
 ⟨some 82, .bin .sub (.t 79) (.t 81), none⟩,
 ⟨some 83, .ixa 1 (.t 75) (.t 78), none⟩,
 ⟨none, .store 1 (.t 83) (.t 82), none⟩] []) <|
 .keep [2, 3, 4, 6, 7, 8, 9, 10, 47, 48, 49, 54, 55, 56] [[2], [3], [4], [46]]) <|
 .keep [2, 3, 4, 6, 7, 8, 9, 10, 47, 48, 49, 54, 55, 56] [[2], [3], [4], [46]]) <|
 .seq (.reg [⟨some 84, .bin .add (.t 56) (.c (.v (.int .i64 1))), none⟩,
 ⟨some 56, .mov (.t 84), none⟩] []) <|
 .keep [2, 3, 4, 6, 7, 8, 9, 10, 47, 48, 49, 54, 55, 56] [[2], [3], [4], [46]]) <|
 .keep [2, 3, 4, 6, 7, 8, 9, 10, 47, 48, 49, 54, 55, 56] [[2], [3], [4], [46]]
def integer_Mul_l1 : C :=
 .seq (.seq (.seq (.reg [⟨some 50, .bin .lss (.t 49) (.t 48), none⟩] []) <|
 .keep [2, 3, 4, 6, 7, 47, 48, 49, 50] [[2], [3], [4], [46]]) <|
 .seq (.cond (.t 50) (.skip) <|
 .seq (.keep [2, 3, 4, 7] [[2], [3], [4], [46]]) <|
 .exit 0) <|
 .seq (.seq (.blk 1 <|
 .seq (.seq (.reg [⟨some 51, .mov (.t 49), none⟩,
 ⟨some 52, .ixa 1 (.t 47) (.t 49), none⟩,
 ⟨some 53, .load none (.t 52), none⟩,
 ⟨some 8, .mov (.t 51), none⟩,
 ⟨some 9, .mov (.t 53), none⟩] []) <|
 .keep [2, 3, 4, 6, 7, 8, 9, 47, 48, 49] [[2], [3], [4], [46]]) <|
 .seq (.seq (.reg [⟨some 10, .mov (.c (.v (.int .i64 0))), none⟩] []) <|
 .keep [2, 3, 4, 6, 7, 8, 9, 10, 47, 48, 49] [[2], [3], [4], [46]]) <|
 .seq (.seq (.seq (.reg [⟨some 54, .mov (.t 6), none⟩,
 ⟨some 55, .len (.t 54), none⟩,
 ⟨some 56, .mov (.c (.v (.int .i64 0))), none⟩] []) <|
 .keep [2, 3, 4, 6, 7, 8, 9, 10, 47, 48, 49, 54, 55, 56] [[2], [3], [4], [46]]) <|
 .seq (.blk 2 <|
 .seq (.keep [2, 3, 4, 6, 7, 8, 9, 10, 47, 48, 49, 54, 55, 56] [[2], [3], [4], [46]]) <|
 .loop integer_Mul_l0) <|
 .keep [2, 3, 4, 6, 7, 8, 10, 47, 48, 49] [[2], [3], [4], [46]]) <|
 .seq (.reg [⟨some 85, .mov (.t 7), none⟩,
 ⟨some 86, .mov (.t 8), none⟩,
 ⟨some 87, .mov (.t 6), none⟩,
 ⟨some 88, .len (.t 87), none⟩,
 ⟨some 89, .bin .add (.t 86) (.t 88), none⟩,
 ⟨some 90, .mov (.t 10), none⟩,
 ⟨some 91, .ixa 1 (.t 85) (.t 89), none⟩,
 ⟨none, .store 1 (.t 91) (.t 90), none⟩] []) <|
 .keep [2, 3, 4, 6, 7, 47, 48, 49] [[2], [3], [4], [46]]) <|
 .keep [2, 3, 4, 6, 7, 47, 48, 49] [[2], [3], [4], [46]]) <|
 .seq (.reg [⟨some 92, .bin .add (.t 49) (.c (.v (.int .i64 1))), none⟩,
 ⟨some 49, .mov (.t 92), none⟩] []) <|
 .keep [2, 3, 4, 6, 7, 47, 48, 49] [[2], [3], [4], [46]]) <|
 .keep [2, 3, 4, 6, 7, 47, 48, 49] [[2], [3], [4], [46]]
def integer_Mul : CF := ⟨2, .seq (.seq (.reg [⟨some 2, .box (.t 0), none⟩,
 ⟨some 3, .box (.t 1), none⟩,
 ⟨some 4, .new [.v (.bool false), .z true], none⟩] []) <|
 .keep [2, 3, 4] [[2], [3], [4]]) <|
 .seq (.seq (.reg [⟨some 14, .fad 1 (.t 2), none⟩,
 ⟨some 15, .load none (.t 14), none⟩,
 ⟨some 16, .fad 1 (.t 3), none⟩,
 ⟨some 17, .load none (.t 16), none⟩,
 ⟨some 5, .mov (.t 15), none⟩,
 ⟨some 6, .mov (.t 17), none⟩] []) <|
 .keep [2, 3, 4, 5, 6] [[2], [3], [4]]) <|
 .seq (.seq (.seq (.reg [⟨some 18, .mov (.t 5), none⟩,
 ⟨some 19, .len (.t 18), none⟩,
 ⟨some 20, .bin .eql (.t 19) (.c (.v (.int .i64 1))), none⟩,
 ⟨some 21, .mov (.t 20), none⟩,
 ⟨some 22, .mov (.t 6), (some (21, true))⟩,
 ⟨some 23, .len (.t 22), (some (21, true))⟩,
 ⟨some 24, .bin .eql (.t 23) (.c (.v (.int .i64 1))), (some (21, true))⟩,
 ⟨some 25, .pick (.t 21) (.t 24) (.c (.v (.bool false))), none⟩] []) <|
 .keep [2, 3, 4, 5, 6, 25] [[2], [3], [4]]) <|
 .cond (.t 25) (.seq (.seq (.reg [⟨some 26, .fad 0 (.t 2), none⟩,
 ⟨some 27, .load none (.t 26), none⟩,
 ⟨some 28, .fad 0 (.t 3), none⟩,
 ⟨some 29, .load none (.t 28), none⟩,
 ⟨some 30, .binb true (.t 27) (.t 29), none⟩,
 ⟨some 31, .mov (.t 5), none⟩,
 ⟨some 32, .ixa 1 (.t 31) (.c (.v (.int .i64 0))), none⟩,
 ⟨some 33, .load none (.t 32), none⟩,
 ⟨some 34, .conv (.int .u64) (.t 33), none⟩,
 ⟨some 35, .mov (.t 6), none⟩,
 ⟨some 36, .ixa 1 (.t 35) (.c (.v (.int .i64 0))), none⟩,
 ⟨some 37, .load none (.t 36), none⟩,
 ⟨some 38, .conv (.int .u64) (.t 37), none⟩,
 ⟨some 39, .bin .mul (.t 34) (.t 38), none⟩,
 ⟨some 40, .call n_integer_unsigned [(.t 30), (.t 39)] false, none⟩,
 ⟨none, .store 2 (.t 4) (.t 40), none⟩] []) <|
 .keep [4] [[4]]) <|
 .ret) <|
 .skip) <|
 .seq (.seq (.reg [⟨some 41, .mov (.t 5), none⟩,
 ⟨some 42, .len (.t 41), none⟩,
 ⟨some 43, .mov (.t 6), none⟩,
 ⟨some 44, .len (.t 43), none⟩,
 ⟨some 45, .bin .add (.t 42) (.t 44), none⟩,
 ⟨some 46, .mksl 1 8 [.v (.int .i64 0)] (.t 45) (.t 45), none⟩,
 ⟨some 7, .mov (.t 46), none⟩] []) <|
 .keep [2, 3, 4, 5, 6, 7] [[2], [3], [4], [46]]) <|
 .seq (.seq (.seq (.reg [⟨some 47, .mov (.t 5), none⟩,
 ⟨some 48, .len (.t 47), none⟩,
 ⟨some 49, .mov (.c (.v (.int .i64 0))), none⟩] []) <|
 .keep [2, 3, 4, 6, 7, 47, 48, 49] [[2], [3], [4], [46]]) <|
 .seq (.blk 0 <|
 .seq (.keep [2, 3, 4, 6, 7, 47, 48, 49] [[2], [3], [4], [46]]) <|
 .loop integer_Mul_l1) <|
 .keep [2, 3, 4, 7] [[2], [3], [4], [46]]) <|
 .seq (.seq (.frz 7) <|
 .seq (.reg [⟨some 93, .fad 0 (.t 2), none⟩,
 ⟨some 94, .load none (.t 93), none⟩,
 ⟨some 95, .fad 0 (.t 3), none⟩,
 ⟨some 96, .load none (.t 95), none⟩,
 ⟨some 97, .binb true (.t 94) (.t 96), none⟩,
 ⟨some 98, .mov (.t 7), none⟩,
 ⟨some 99, .call n_integer_of [(.t 97), (.t 98)] false, none⟩,
 ⟨none, .store 2 (.t 4) (.t 99), none⟩] []) <|
 .keep [4] [[4]]) <|
 .ret, [.cell 4 (some 2)]⟩

def rat_Same_1 : CF := ⟨2, .seq (.seq (.reg [⟨some 2, .box (.t 0), none⟩,
 ⟨some 3, .box (.t 1), none⟩,
 ⟨some 4, .mov (.c (.v (.bool false))), none⟩] []) <|
 .keep [2, 3] [[2], [3]]) <|
 .seq (.seq (.reg [⟨some 5, .fad 0 (.t 2), none⟩,
 ⟨some 6, .load none (.t 5), none⟩,
 ⟨some 7, .fad 0 (.t 3), none⟩,
 ⟨some 8, .load none (.t 7), none⟩,
 ⟨some 9, .binb false (.t 6) (.t 8), none⟩,
 ⟨some 10, .mov (.t 9), none⟩,
 ⟨some 11, .fad 1 (.t 2), (some (10, true))⟩,
 ⟨some 12, .load none (.t 11), (some (10, true))⟩,
 ⟨some 13, .fad 1 (.t 3), (some (10, true))⟩,
 ⟨some 14, .load none (.t 13), (some (10, true))⟩,
 ⟨some 15, .call n_slices_Equal_int_int [(.t 12), (.t 14)] false, (some (10, true))⟩,
 ⟨some 16, .pick (.t 10) (.t 15) (.c (.v (.bool false))), none⟩,
 ⟨some 4, .mov (.t 16), none⟩] []) <|
 .keep [4] []) <|
 .ret, [.t 4]⟩

def slices_Equal_int_int_l0 : C :=
 .seq (.seq (.seq (.reg [⟨some 14, .bin .lss (.t 13) (.t 12), none⟩] []) <|
 .keep [0, 1, 12, 13, 14] []) <|
 .seq (.cond (.t 14) (.skip) <|
 .seq (.keep [] []) <|
 .exit 0) <|
 .seq (.seq (.blk 1 <|
 .seq (.seq (.reg [⟨some 15, .mov (.t 13), none⟩,
 ⟨some 5, .mov (.t 15), none⟩] []) <|
 .keep [0, 1, 5, 12, 13] []) <|
 .seq (.seq (.reg [⟨some 16, .mov (.t 0), none⟩,
 ⟨some 17, .mov (.t 5), none⟩,
 ⟨some 18, .ixa 1 (.t 16) (.t 17), none⟩,
 ⟨some 19, .load none (.t 18), none⟩,
 ⟨some 20, .mov (.t 1), none⟩,
 ⟨some 21, .mov (.t 5), none⟩,
 ⟨some 22, .ixa 1 (.t 20) (.t 21), none⟩,
 ⟨some 23, .load none (.t 22), none⟩,
 ⟨some 24, .bin .neq (.t 19) (.t 23), none⟩] []) <|
 .keep [0, 1, 12, 13, 24] []) <|
 .cond (.t 24) (.seq (.seq (.reg [⟨some 4, .mov (.c (.v (.bool false))), none⟩] []) <|
 .keep [4] []) <|
 .ret) <|
 .skip) <|
 .keep [0, 1, 12, 13] []) <|
 .seq (.reg [⟨some 25, .bin .add (.t 13) (.c (.v (.int .i64 1))), none⟩,
 ⟨some 13, .mov (.t 25), none⟩] []) <|
 .keep [0, 1, 12, 13] []) <|
 .keep [0, 1, 12, 13] []
def slices_Equal_int_int : CF := ⟨2, .seq (.seq (.reg [⟨some 4, .mov (.c (.v (.bool false))), none⟩] []) <|
 .keep [0, 1] []) <|
 .seq (.seq (.seq (.reg [⟨some 6, .mov (.t 0), none⟩,
 ⟨some 7, .len (.t 6), none⟩,
 ⟨some 8, .mov (.t 1), none⟩,
 ⟨some 9, .len (.t 8), none⟩,
 ⟨some 10, .bin .neq (.t 7) (.t 9), none⟩] []) <|
 .keep [0, 1, 10] []) <|
 .cond (.t 10) (.seq (.seq (.reg [⟨some 4, .mov (.c (.v (.bool false))), none⟩] []) <|
 .keep [4] []) <|
 .ret) <|
 .skip) <|
 .seq (.seq (.seq (.reg [⟨some 11, .mov (.t 0), none⟩,
 ⟨some 12, .len (.t 11), none⟩,
 ⟨some 13, .mov (.c (.v (.int .i64 0))), none⟩] []) <|
 .keep [0, 1, 12, 13] []) <|
 .seq (.blk 0 <|
 .seq (.keep [0, 1, 12, 13] []) <|
 .loop slices_Equal_int_int_l0) <|
 .keep [] []) <|
 .seq (.seq (.reg [⟨some 4, .mov (.c (.v (.bool true))), none⟩] []) <|
 .keep [4] []) <|
 .ret, [.t 4]⟩

def slices_Backward_api_Poly_api_Rat : CF := ⟨1, .seq (.seq (.reg [⟨some 1, .box (.t 0), none⟩,
 ⟨some 2, .mov (.c (.v (.nilFunc))), none⟩] []) <|
 .keep [1] [[1]]) <|
 .seq (.seq (.reg [⟨some 3, .mkfn n_slices_Backward_api_Poly_api_Rat_1 [(.t 1)] true, none⟩,
 ⟨some 2, .mov (.t 3), none⟩] []) <|
 .keep [2] []) <|
 .ret, [.t 2]⟩

def integer_Of : CF := ⟨1, .seq (.seq (.reg [⟨some 2, .new [.v (.bool false), .z true], none⟩] []) <|
 .keep [0, 2] [[2]]) <|
 .seq (.seq (.reg [⟨some 4, .mov (.t 0), none⟩,
 ⟨some 5, .conv (.int .u64) (.t 4), none⟩,
 ⟨some 3, .mov (.t 5), none⟩] []) <|
 .keep [0, 2, 3] [[2]]) <|
 .seq (.seq (.seq (.reg [⟨some 6, .mov (.t 0), none⟩,
 ⟨some 7, .bin .lss (.t 6) (.c (.v (.int .i64 0))), none⟩] []) <|
 .keep [0, 2, 3, 7] [[2]]) <|
 .cond (.t 7) (.seq (.reg [⟨some 8, .mov (.t 3), none⟩,
 ⟨some 9, .un .neg (.t 8), none⟩,
 ⟨some 3, .mov (.t 9), none⟩] []) <|
 .keep [0, 2, 3] [[2]]) <|
 .skip) <|
 .seq (.seq (.reg [⟨some 10, .mov (.t 0), none⟩,
 ⟨some 11, .bin .lss (.t 10) (.c (.v (.int .i64 0))), none⟩,
 ⟨some 12, .mov (.t 3), none⟩,
 ⟨some 13, .call n_integer_unsigned [(.t 11), (.t 12)] false, none⟩,
 ⟨none, .store 2 (.t 2) (.t 13), none⟩] []) <|
 .keep [2] [[2]]) <|
 .ret, [.cell 2 (some 2)]⟩

def gantryref06_Add_l0 : C :=
 .seq (.seq (.seq (.seq (.reg [⟨some 7, .mov (.t 6), none⟩,
 ⟨some 8, .mov (.t 0), none⟩,
 ⟨some 9, .len (.t 8), none⟩,
 ⟨some 10, .bin .lss (.t 7) (.t 9), none⟩,
 ⟨some 11, .mov (.t 10), none⟩,
 ⟨some 12, .mov (.t 6), (some (11, false))⟩,
 ⟨some 13, .mov (.t 1), (some (11, false))⟩,
 ⟨some 14, .len (.t 13), (some (11, false))⟩,
 ⟨some 15, .bin .lss (.t 12) (.t 14), (some (11, false))⟩,
 ⟨some 16, .pick (.t 11) (.c (.v (.bool true))) (.t 15), none⟩] []) <|
 .keep [0, 1, 5, 6, 16] [[28]]) <|
 .cond (.t 16) (.skip) <|
 .seq (.keep [5] [[28]]) <|
 .exit 0) <|
 .seq (.seq (.blk 1 <|
 .seq (.reg [⟨some 19, .mov (.t 5), none⟩,
 ⟨some 20, .mov (.t 0), none⟩,
 ⟨some 21, .mov (.t 6), none⟩,
 ⟨some 22, .call n_gantryref06_At [(.t 20), (.t 21)] false, none⟩,
 ⟨some 23, .mov (.t 1), none⟩,
 ⟨some 24, .mov (.t 6), none⟩,
 ⟨some 25, .call n_gantryref06_At [(.t 23), (.t 24)] false, none⟩,
 ⟨some 26, .call n_gantryref05_Add [(.t 22), (.t 25)] false, none⟩,
 ⟨some 27, .lit 4 1 [.v (.bool false), .z true, .v (.bool false), .z true] [(0, (.t 26))] true, none⟩,
 ⟨some 28, .app 4 64 (.t 19) (.t 27) false, none⟩,
 ⟨some 5, .mov (.t 28), none⟩] []) <|
 .keep [0, 1, 5, 6] [[28]]) <|
 .keep [0, 1, 5, 6] [[28]]) <|
 .seq (.reg [⟨some 17, .mov (.t 6), none⟩,
 ⟨some 18, .bin .add (.t 17) (.c (.v (.int .i64 1))), none⟩,
 ⟨some 6, .mov (.t 18), none⟩] []) <|
 .keep [0, 1, 5, 6] [[28]]) <|
 .keep [0, 1, 5, 6] [[28]]
def gantryref06_Add : CF := ⟨2, .seq (.seq (.reg [⟨some 4, .mov (.c (.z true)), none⟩] []) <|
 .keep [0, 1] []) <|
 .seq (.seq (.reg [⟨some 5, .mov (.c (.z true)), none⟩] []) <|
 .keep [0, 1, 5] [[28]]) <|
 .seq (.seq (.seq (.reg [⟨some 6, .mov (.c (.v (.int .i64 0))), none⟩] []) <|
 .keep [0, 1, 5, 6] [[28]]) <|
 .seq (.blk 0 <|
 .seq (.keep [0, 1, 5, 6] [[28]]) <|
 .loop gantryref06_Add_l0) <|
 .keep [5] [[28]]) <|
 .seq (.seq (.frz 5) <|
 .seq (.reg [⟨some 29, .mov (.t 5), none⟩,
 ⟨some 30, .call n_gantryref06_Trim [(.t 29)] false, none⟩,
 ⟨some 4, .mov (.t 30), none⟩] []) <|
 .keep [4] []) <|
 .ret, [.t 4]⟩

def rat_Div : CF := ⟨2, .seq (.seq (.reg [⟨some 2, .box (.t 0), none⟩,
 ⟨some 3, .box (.t 1), none⟩,
 ⟨some 4, .new [.v (.bool false), .z true, .v (.bool false), .z true], none⟩] []) <|
 .keep [2, 3, 4] [[2], [3], [4]]) <|
 .seq (.seq (.seq (.reg [⟨some 5, .fad 0 (.t 3), none⟩,
 ⟨some 6, .fad 1 (.t 5), none⟩,
 ⟨some 7, .load none (.t 6), none⟩,
 ⟨some 8, .len (.t 7), none⟩,
 ⟨some 9, .bin .eql (.t 8) (.c (.v (.int .i64 0))), none⟩] []) <|
 .keep [2, 3, 4, 9] [[2], [3], [4]]) <|
 .cond (.t 9) (.seq (.seq (.reg [⟨some 10, .build [.v (.bool false), .z true, .v (.bool false), .z true] [], none⟩,
 ⟨none, .store 4 (.t 4) (.t 10), none⟩] []) <|
 .keep [4] [[4]]) <|
 .ret) <|
 .skip) <|
 .seq (.seq (.reg [⟨some 11, .load (some 4) (.t 2), none⟩,
 ⟨some 12, .load (some 4) (.t 3), none⟩,
 ⟨some 13, .call n_rat_Den [(.t 12)] false, none⟩,
 ⟨some 14, .fad 0 (.t 3), none⟩,
 ⟨some 15, .load (some 2) (.t 14), none⟩,
 ⟨some 16, .call n_rat_lowest [(.t 13), (.t 15)] false, none⟩,
 ⟨some 17, .call n_rat_Mul [(.t 11), (.t 16)] false, none⟩,
 ⟨none, .store 4 (.t 4) (.t 17), none⟩] []) <|
 .keep [4] [[4]]) <|
 .ret, [.cell 4 (some 4)]⟩

def rat_Neg : CF := ⟨1, .seq (.seq (.reg [⟨some 1, .box (.t 0), none⟩,
 ⟨some 2, .new [.v (.bool false), .z true, .v (.bool false), .z true], none⟩] []) <|
 .keep [1, 2] [[1], [2]]) <|
 .seq (.seq (.reg [⟨some 3, .fad 0 (.t 1), none⟩,
 ⟨some 4, .load (some 2) (.t 3), none⟩,
 ⟨some 5, .call n_integer_Neg [(.t 4)] false, none⟩,
 ⟨some 6, .fad 2 (.t 1), none⟩,
 ⟨some 7, .load (some 2) (.t 6), none⟩,
 ⟨some 8, .build [.v (.bool false), .z true, .v (.bool false), .z true] [(0, 2, (.t 5)), (2, 2, (.t 7))], none⟩,
 ⟨none, .store 4 (.t 2) (.t 8), none⟩] []) <|
 .keep [2] [[2]]) <|
 .ret, [.cell 2 (some 4)]⟩

def rat_Compare : CF := ⟨2, .seq (.seq (.reg [⟨some 2, .box (.t 0), none⟩,
 ⟨some 3, .box (.t 1), none⟩,
 ⟨some 4, .mov (.c (.v (.int .i64 0))), none⟩] []) <|
 .keep [2, 3] [[2], [3]]) <|
 .seq (.seq (.seq (.reg [⟨some 7, .load (some 4) (.t 2), none⟩,
 ⟨some 8, .call n_rat_Sign [(.t 7)] false, none⟩,
 ⟨some 9, .load (some 4) (.t 3), none⟩,
 ⟨some 10, .call n_rat_Sign [(.t 9)] false, none⟩,
 ⟨some 5, .mov (.t 8), none⟩,
 ⟨some 6, .mov (.t 10), none⟩] []) <|
 .keep [2, 3, 5, 6] [[2], [3]]) <|
 .seq (.seq (.reg [⟨some 11, .mov (.t 5), none⟩,
 ⟨some 12, .mov (.t 6), none⟩,
 ⟨some 13, .bin .neq (.t 11) (.t 12), none⟩,
 ⟨some 14, .mov (.t 13), none⟩,
 ⟨some 15, .mov (.t 5), (some (14, false))⟩,
 ⟨some 16, .bin .eql (.t 15) (.c (.v (.int .i64 0))), (some (14, false))⟩,
 ⟨some 17, .pick (.t 14) (.c (.v (.bool true))) (.t 16), none⟩] []) <|
 .keep [2, 3, 5, 6, 17] [[2], [3]]) <|
 .cond (.t 17) (.seq (.seq (.reg [⟨some 18, .mov (.t 5), none⟩,
 ⟨some 19, .call n_integer_Of [(.t 18)] false, none⟩,
 ⟨some 20, .mov (.t 6), none⟩,
 ⟨some 21, .call n_integer_Of [(.t 20)] false, none⟩,
 ⟨some 22, .call n_integer_Compare [(.t 19), (.t 21)] false, none⟩,
 ⟨some 4, .mov (.t 22), none⟩] []) <|
 .keep [4] []) <|
 .ret) <|
 .skip) <|
 .seq (.seq (.reg [⟨some 23, .fad 0 (.t 2), none⟩,
 ⟨some 24, .load (some 2) (.t 23), none⟩,
 ⟨some 25, .load (some 4) (.t 3), none⟩,
 ⟨some 26, .call n_rat_Den [(.t 25)] false, none⟩,
 ⟨some 27, .call n_integer_Mul [(.t 24), (.t 26)] false, none⟩,
 ⟨some 28, .fad 0 (.t 3), none⟩,
 ⟨some 29, .load (some 2) (.t 28), none⟩,
 ⟨some 30, .load (some 4) (.t 2), none⟩,
 ⟨some 31, .call n_rat_Den [(.t 30)] false, none⟩,
 ⟨some 32, .call n_integer_Mul [(.t 29), (.t 31)] false, none⟩,
 ⟨some 33, .call n_integer_Compare [(.t 27), (.t 32)] false, none⟩,
 ⟨some 4, .mov (.t 33), none⟩] []) <|
 .keep [4] []) <|
 .ret, [.t 4]⟩

def gantryref07_Stays_l0 : C :=
 .seq (.seq (.seq (.cond (.c (.v (.int .i64 7))) (.skip) <|
 .skip) <|
 .cond (.t 75) (.skip) <|
 .seq (.keep [10, 11, 12, 68, 75, 84] []) <|
 .exit 2) <|
 .seq (.blk 3 <|
 .seq (.reg [⟨some 76, .mov (.t 10), none⟩,
 ⟨some 77, .load (some 8) (.t 13), none⟩,
 ⟨some 78, .call n_gantryref07_halved [(.t 76), (.t 77)] false, none⟩,
 ⟨none, .store 8 (.t 13) (.t 78), none⟩] []) <|
 .keep [10, 11, 12, 13, 68, 75, 84] [[13]]) <|
 .keep [10, 11, 12, 13, 68, 75, 84] [[13]]) <|
 .keep [10, 11, 12, 13, 68, 75, 84] [[13]]
def gantryref07_Stays_l1 : C :=
 .seq (.seq (.seq (.seq (.reg [⟨some 52, .mov (.t 12), none⟩,
 ⟨some 53, .mov (.t 11), none⟩,
 ⟨some 54, .len (.t 53), none⟩,
 ⟨some 55, .bin .lss (.t 52) (.t 54), none⟩] []) <|
 .keep [10, 11, 12, 55, 68, 75, 84] []) <|
 .cond (.t 55) (.skip) <|
 .seq (.keep [] []) <|
 .exit 0) <|
 .seq (.seq (.blk 1 <|
 .seq (.seq (.reg [⟨some 58, .mov (.t 11), none⟩,
 ⟨some 59, .mov (.t 12), none⟩,
 ⟨some 60, .ixa 8 (.t 58) (.t 59), none⟩,
 ⟨some 61, .load (some 8) (.t 60), none⟩,
 ⟨some 13, .new [.v (.bool false), .z true, .v (.bool false), .z true, .v (.bool false), .z true, .v (.bool false), .z true], none⟩,
 ⟨none, .store 8 (.t 13) (.t 61), none⟩] []) <|
 .keep [10, 11, 12, 13, 68, 75, 84] [[13]]) <|
 .seq (.seq (.cond (.c (.v (.int .i64 7))) (.skip) <|
 .skip) <|
 .cond (.t 68) (.seq (.keep [10, 11, 12, 68, 75, 84] []) <|
 .exit 1) <|
 .skip) <|
 .seq (.seq (.blk 2 <|
 .seq (.keep [10, 11, 12, 13, 68, 75, 84] [[13]]) <|
 .loop gantryref07_Stays_l0) <|
 .keep [10, 11, 12, 68, 75, 84] []) <|
 .seq (.cond (.c (.v (.int .i64 7))) (.skip) <|
 .skip) <|
 .cond (.t 84) (.seq (.seq (.reg [⟨some 6, .mov (.c (.v (.bool false))), none⟩] []) <|
 .keep [6] []) <|
 .ret) <|
 .skip) <|
 .keep [10, 11, 12, 68, 75, 84] []) <|
 .seq (.reg [⟨some 56, .mov (.t 12), none⟩,
 ⟨some 57, .bin .add (.t 56) (.c (.v (.int .i64 1))), none⟩,
 ⟨some 12, .mov (.t 57), none⟩] []) <|
 .keep [10, 11, 12, 68, 75, 84] []) <|
 .keep [10, 11, 12, 68, 75, 84] []
def gantryref07_Stays : CF := ⟨3, .seq (.seq (.reg [⟨some 4, .box (.t 1), none⟩,
 ⟨some 5, .box (.t 2), none⟩,
 ⟨some 6, .mov (.c (.v (.bool false))), none⟩] []) <|
 .keep [0, 4, 5, 68, 75, 84] [[4], [5]]) <|
 .seq (.seq (.seq (.reg [⟨some 14, .load (some 4) (.t 4), none⟩,
 ⟨some 15, .load (some 4) (.t 5), none⟩,
 ⟨some 16, .call n_gantryref05_Compare [(.t 14), (.t 15)] false, none⟩,
 ⟨some 17, .bin .gtr (.t 16) (.c (.v (.int .i64 0))), none⟩,
 ⟨some 18, .mov (.t 17), none⟩,
 ⟨some 19, .mov (.t 0), (some (18, false))⟩,
 ⟨some 20, .len (.t 19), (some (18, false))⟩,
 ⟨some 21, .bin .eql (.t 20) (.c (.v (.int .i64 0))), (some (18, false))⟩,
 ⟨some 22, .pick (.t 18) (.c (.v (.bool true))) (.t 21), none⟩] []) <|
 .keep [0, 4, 5, 22, 68, 75, 84] [[4], [5]]) <|
 .cond (.t 22) (.seq (.seq (.reg [⟨some 6, .mov (.c (.v (.bool true))), none⟩] []) <|
 .keep [6] []) <|
 .ret) <|
 .skip) <|
 .seq (.seq (.seq (.reg [⟨some 23, .mov (.t 0), none⟩,
 ⟨some 24, .load (some 4) (.t 4), none⟩,
 ⟨some 25, .call n_gantryref06_Eval [(.t 23), (.t 24)] false, none⟩,
 ⟨some 26, .call n_gantryref05_Sign [(.t 25)] false, none⟩,
 ⟨some 27, .bin .lss (.t 26) (.c (.v (.int .i64 0))), none⟩,
 ⟨some 28, .mov (.t 27), none⟩,
 ⟨some 29, .mov (.t 0), (some (28, false))⟩,
 ⟨some 30, .load (some 4) (.t 5), (some (28, false))⟩,
 ⟨some 31, .call n_gantryref06_Eval [(.t 29), (.t 30)] false, (some (28, false))⟩,
 ⟨some 32, .call n_gantryref05_Sign [(.t 31)] false, (some (28, false))⟩,
 ⟨some 33, .bin .lss (.t 32) (.c (.v (.int .i64 0))), (some (28, false))⟩,
 ⟨some 34, .pick (.t 28) (.c (.v (.bool true))) (.t 33), none⟩] []) <|
 .keep [0, 4, 5, 34, 68, 75, 84] [[4], [5]]) <|
 .cond (.t 34) (.seq (.seq (.reg [⟨some 6, .mov (.c (.v (.bool false))), none⟩] []) <|
 .keep [6] []) <|
 .ret) <|
 .skip) <|
 .seq (.seq (.reg [⟨some 35, .mov (.t 0), none⟩,
 ⟨some 36, .call n_gantryref06_Derive [(.t 35)] false, none⟩,
 ⟨some 7, .mov (.t 36), none⟩] []) <|
 .keep [0, 4, 5, 7, 68, 75, 84] [[4], [5]]) <|
 .seq (.seq (.seq (.reg [⟨some 37, .mov (.t 7), none⟩,
 ⟨some 38, .len (.t 37), none⟩,
 ⟨some 39, .bin .eql (.t 38) (.c (.v (.int .i64 0))), none⟩] []) <|
 .keep [0, 4, 5, 7, 39, 68, 75, 84] [[4], [5]]) <|
 .cond (.t 39) (.seq (.seq (.reg [⟨some 6, .mov (.c (.v (.bool true))), none⟩] []) <|
 .keep [6] []) <|
 .ret) <|
 .skip) <|
 .seq (.seq (.reg [⟨some 40, .mov (.t 0), none⟩,
 ⟨some 41, .mov (.t 7), none⟩,
 ⟨some 42, .call n_gantryref06_Gcd [(.t 40), (.t 41)] false, none⟩,
 ⟨some 43, .call n_gantryref07_Chain [(.t 42)] false, none⟩,
 ⟨some 8, .mov (.t 43), none⟩] []) <|
 .keep [0, 4, 5, 7, 68, 75, 84] [[4], [5]]) <|
 .seq (.seq (.reg [⟨some 44, .mov (.t 0), none⟩,
 ⟨some 45, .call n_gantryref07_Chain [(.t 44)] false, none⟩,
 ⟨some 9, .mov (.t 45), none⟩] []) <|
 .keep [4, 5, 7, 68, 75, 84] [[4], [5]]) <|
 .seq (.seq (.reg [⟨some 46, .mov (.t 7), none⟩,
 ⟨some 47, .call n_gantryref07_Chain [(.t 46)] false, none⟩,
 ⟨some 10, .mov (.t 47), none⟩] []) <|
 .keep [4, 5, 10, 68, 75, 84] [[4], [5]]) <|
 .seq (.seq (.reg [⟨some 48, .mov (.t 10), none⟩,
 ⟨some 49, .load (some 4) (.t 4), none⟩,
 ⟨some 50, .load (some 4) (.t 5), none⟩,
 ⟨some 51, .call n_gantryref07_within [(.t 48), (.t 49), (.t 50)] false, none⟩,
 ⟨some 11, .mov (.t 51), none⟩] []) <|
 .keep [10, 11, 68, 75, 84] []) <|
 .seq (.seq (.seq (.reg [⟨some 12, .mov (.c (.v (.int .i64 0))), none⟩] []) <|
 .keep [10, 11, 12, 68, 75, 84] []) <|
 .seq (.blk 0 <|
 .seq (.keep [10, 11, 12, 68, 75, 84] []) <|
 .loop gantryref07_Stays_l1) <|
 .keep [] []) <|
 .seq (.seq (.reg [⟨some 6, .mov (.c (.v (.bool true))), none⟩] []) <|
 .keep [6] []) <|
 .ret, [.t 6]⟩

def sturm_Stays_1 : CF := ⟨2, .seq (.seq (.reg [⟨some 2, .box (.t 0), none⟩,
 ⟨some 3, .mov (.c (.v (.bool false))), none⟩] []) <|
 .keep [1, 2] [[2]]) <|
 .seq (.seq (.reg [⟨some 4, .load none (.t 1), none⟩,
 ⟨some 5, .load (some 4) (.t 2), none⟩,
 ⟨some 6, .call n_poly_Eval [(.t 4), (.t 5)] false, none⟩,
 ⟨some 7, .call n_rat_Sign [(.t 6)] false, none⟩,
 ⟨some 8, .bin .lss (.t 7) (.c (.v (.int .i64 0))), none⟩,
 ⟨some 3, .mov (.t 8), none⟩] []) <|
 .keep [3] []) <|
 .ret, [.t 3]⟩

def sturm_odd_l0 : C :=
 .seq (.seq (.seq (.seq (.reg [⟨some 12, .mov (.t 4), none⟩,
 ⟨some 13, .len (.t 12), none⟩,
 ⟨some 14, .bin .gtr (.t 13) (.c (.v (.int .i64 1))), none⟩] []) <|
 .keep [3, 4, 14] []) <|
 .cond (.t 14) (.skip) <|
 .seq (.keep [3] []) <|
 .exit 0) <|
 .seq (.blk 1 <|
 .seq (.seq (.reg [⟨some 15, .mov (.t 4), none⟩,
 ⟨some 16, .call n_poly_Free [(.t 15)] false, none⟩,
 ⟨some 5, .mov (.t 16), none⟩] []) <|
 .keep [3, 4, 5] []) <|
 .seq (.seq (.reg [⟨some 18, .mov (.t 4), none⟩,
 ⟨some 19, .mov (.t 5), none⟩,
 ⟨some 20, .call n_poly_Div [(.t 18), (.t 19)] false, none⟩,
 ⟨some 17, .mov (.t 20), none⟩,
 ⟨some 21, .ext (.t 17) 0, none⟩,
 ⟨some 22, .ext (.t 17) 1, none⟩,
 ⟨some 4, .mov (.t 21), none⟩] []) <|
 .keep [3, 4, 5] []) <|
 .seq (.seq (.reg [⟨some 23, .mov (.t 4), none⟩,
 ⟨some 24, .call n_poly_Free [(.t 23)] false, none⟩,
 ⟨some 6, .mov (.t 24), none⟩] []) <|
 .keep [3, 4, 5, 6] []) <|
 .seq (.seq (.reg [⟨some 26, .mov (.t 5), none⟩,
 ⟨some 27, .mov (.t 5), none⟩,
 ⟨some 28, .mov (.t 6), none⟩,
 ⟨some 29, .call n_poly_Gcd [(.t 27), (.t 28)] false, none⟩,
 ⟨some 30, .call n_poly_Div [(.t 26), (.t 29)] false, none⟩,
 ⟨some 25, .mov (.t 30), none⟩,
 ⟨some 31, .ext (.t 25) 0, none⟩,
 ⟨some 32, .ext (.t 25) 1, none⟩,
 ⟨some 7, .mov (.t 31), none⟩,
 ⟨some 8, .mov (.t 32), none⟩] []) <|
 .keep [3, 4, 6, 7] []) <|
 .seq (.seq (.reg [⟨some 33, .mov (.t 3), none⟩,
 ⟨some 34, .mov (.t 7), none⟩,
 ⟨some 35, .call n_poly_Mul [(.t 33), (.t 34)] false, none⟩,
 ⟨some 3, .mov (.t 35), none⟩] []) <|
 .keep [3, 4, 6] []) <|
 .seq (.reg [⟨some 37, .mov (.t 4), none⟩,
 ⟨some 38, .mov (.t 6), none⟩,
 ⟨some 39, .call n_poly_Div [(.t 37), (.t 38)] false, none⟩,
 ⟨some 36, .mov (.t 39), none⟩,
 ⟨some 40, .ext (.t 36) 0, none⟩,
 ⟨some 41, .ext (.t 36) 1, none⟩,
 ⟨some 4, .mov (.t 40), none⟩] []) <|
 .keep [3, 4] []) <|
 .keep [3, 4] []) <|
 .keep [3, 4] []
def sturm_odd : CF := ⟨1, .seq (.seq (.reg [⟨some 2, .mov (.c (.z true)), none⟩] []) <|
 .keep [0] []) <|
 .seq (.seq (.reg [⟨some 9, .call n_rat_Of [(.c (.v (.int .i64 1))), (.c (.v (.int .i64 1)))] false, none⟩,
 ⟨some 10, .lit 4 1 [.v (.bool false), .z true, .v (.bool false), .z true] [(0, (.t 9))] true, none⟩,
 ⟨some 3, .mov (.t 10), none⟩] []) <|
 .keep [0, 3] []) <|
 .seq (.seq (.reg [⟨some 11, .mov (.t 0), none⟩,
 ⟨some 4, .mov (.t 11), none⟩] []) <|
 .keep [3, 4] []) <|
 .seq (.seq (.blk 0 <|
 .seq (.keep [3, 4] []) <|
 .loop sturm_odd_l0) <|
 .keep [3] []) <|
 .seq (.seq (.reg [⟨some 42, .mov (.t 3), none⟩,
 ⟨some 2, .mov (.t 42), none⟩] []) <|
 .keep [2] []) <|
 .ret, [.t 2]⟩

def sturm_Count : CF := ⟨3, .seq (.seq (.reg [⟨some 4, .box (.t 1), none⟩,
 ⟨some 5, .box (.t 2), none⟩,
 ⟨some 6, .mov (.c (.v (.int .i64 0))), none⟩] []) <|
 .keep [0, 4, 5] [[4], [5]]) <|
 .seq (.seq (.reg [⟨some 7, .mov (.t 0), none⟩,
 ⟨some 8, .call n_sturm_Chain [(.t 7)] false, none⟩,
 ⟨some 9, .load (some 4) (.t 4), none⟩,
 ⟨some 10, .load (some 4) (.t 5), none⟩,
 ⟨some 11, .call n_sturm_counted [(.t 8), (.t 9), (.t 10)] false, none⟩,
 ⟨some 6, .mov (.t 11), none⟩] []) <|
 .keep [6] []) <|
 .ret, [.t 6]⟩

def sturm_middle : CF := ⟨1, .seq (.seq (.reg [⟨some 1, .box (.t 0), none⟩,
 ⟨some 2, .new [.v (.bool false), .z true, .v (.bool false), .z true], none⟩] []) <|
 .keep [2] [[2]]) <|
 .seq (.cond (.c (.v (.int .i64 7))) (.skip) <|
 .skip) <|
 .ret, [.cell 2 (some 4)]⟩

def convex_Sides_1 : CF := ⟨4, .seq (.seq (.reg [⟨some 4, .box (.t 0), none⟩] []) <|
 .keep [1, 2, 3, 4] [[4]]) <|
 .seq (.seq (.reg [⟨some 5, .load none (.t 1), none⟩,
 ⟨some 6, .mkfn n_convex_Sides_1_1 [(.t 4)] true, none⟩,
 ⟨some 7, .call n_slices_ContainsFunc_api_Edge_api_Edge [(.t 5), (.t 6)] false, none⟩,
 ⟨some 8, .un .not (.t 7), none⟩] []) <|
 .keep [1, 2, 3, 4, 8] [[4]]) <|
 .cond (.t 8) (.seq (.reg [⟨some 9, .load none (.t 1), none⟩,
 ⟨some 10, .load (some 3) (.t 4), none⟩,
 ⟨some 11, .load none (.t 2), none⟩,
 ⟨some 12, .load (some 3) (.t 4), none⟩,
 ⟨some 13, .call n_convex_Most [(.t 11), (.t 12)] false, none⟩,
 ⟨some 14, .load none (.t 3), none⟩,
 ⟨some 15, .load (some 3) (.t 4), none⟩,
 ⟨some 16, .call n_convex_turned [(.t 15)] false, none⟩,
 ⟨some 17, .call n_convex_Most [(.t 14), (.t 16)] false, none⟩,
 ⟨some 18, .bin .add (.t 13) (.t 17), none⟩,
 ⟨some 19, .build [.v (.int .i64 0), .v (.int .i64 0), .v (.int .i64 0), .v (.int .i64 0)] [(0, 3, (.t 10)), (3, 1, (.t 18))], none⟩,
 ⟨some 20, .lit 4 1 [.v (.int .i64 0), .v (.int .i64 0), .v (.int .i64 0), .v (.int .i64 0)] [(0, (.t 19))] true, none⟩,
 ⟨some 21, .app 4 32 (.t 9) (.t 20) true, none⟩,
 ⟨none, .store 1 (.t 1) (.t 21), none⟩] []) <|
 .keep [] []) <|
 .skip, []⟩

def convex_Sides_1_1 : CF := ⟨2, .seq (.seq (.reg [⟨some 2, .box (.t 0), none⟩,
 ⟨some 3, .mov (.c (.v (.bool false))), none⟩] []) <|
 .keep [1, 2] [[2]]) <|
 .seq (.seq (.reg [⟨some 4, .fad 0 (.t 2), none⟩,
 ⟨some 5, .load (some 3) (.t 4), none⟩,
 ⟨some 6, .load (some 3) (.t 1), none⟩,
 ⟨some 7, .eqs 3 false (.t 5) (.t 6), none⟩,
 ⟨some 3, .mov (.t 7), none⟩] []) <|
 .keep [3] []) <|
 .ret, [.t 3]⟩

def convex_Most : CF := ⟨2, .seq (.seq (.reg [⟨some 3, .box (.t 1), none⟩,
 ⟨some 4, .mov (.c (.v (.int .i64 0))), none⟩] []) <|
 .keep [4] []) <|
 .seq (.cond (.c (.v (.int .i64 7))) (.skip) <|
 .skip) <|
 .ret, [.t 4]⟩

def convex_turned : CF := ⟨1, .seq (.seq (.reg [⟨some 1, .box (.t 0), none⟩,
 ⟨some 2, .new [.v (.int .i64 0), .v (.int .i64 0), .v (.int .i64 0)], none⟩] []) <|
 .keep [1, 2] [[1], [2]]) <|
 .seq (.seq (.reg [⟨some 3, .fad 0 (.t 1), none⟩,
 ⟨some 4, .load none (.t 3), none⟩,
 ⟨some 5, .un .neg (.t 4), none⟩,
 ⟨some 6, .fad 1 (.t 1), none⟩,
 ⟨some 7, .load none (.t 6), none⟩,
 ⟨some 8, .un .neg (.t 7), none⟩,
 ⟨some 9, .fad 2 (.t 1), none⟩,
 ⟨some 10, .load none (.t 9), none⟩,
 ⟨some 11, .build [.v (.int .i64 0), .v (.int .i64 0), .v (.int .i64 0)] [(0, 1, (.t 5)), (1, 1, (.t 8)), (2, 1, (.t 10))], none⟩,
 ⟨none, .store 3 (.t 2) (.t 11), none⟩] []) <|
 .keep [2] [[2]]) <|
 .ret, [.cell 2 (some 3)]⟩

def convex_Norm : CF := ⟨2, .seq (.seq (.reg [⟨some 2, .box (.t 0), none⟩,
 ⟨some 3, .box (.t 1), none⟩,
 ⟨some 4, .new [.v (.int .i64 0), .v (.int .i64 0), .v (.int .i64 0)], none⟩,
 ⟨some 5, .mov (.c (.v (.bool false))), none⟩] []) <|
 .keep [2, 3, 4] [[2], [3], [4]]) <|
 .seq (.seq (.reg [⟨some 13, .fad 0 (.t 3), none⟩,
 ⟨some 14, .load none (.t 13), none⟩,
 ⟨some 15, .fad 0 (.t 2), none⟩,
 ⟨some 16, .load none (.t 15), none⟩,
 ⟨some 17, .bin .sub (.t 14) (.t 16), none⟩,
 ⟨some 18, .fad 1 (.t 3), none⟩,
 ⟨some 19, .load none (.t 18), none⟩,
 ⟨some 20, .fad 1 (.t 2), none⟩,
 ⟨some 21, .load none (.t 20), none⟩,
 ⟨some 22, .bin .sub (.t 19) (.t 21), none⟩,
 ⟨some 6, .mov (.t 17), none⟩,
 ⟨some 7, .mov (.t 22), none⟩] []) <|
 .keep [4, 6, 7] [[4]]) <|
 .seq (.seq (.reg [⟨some 24, .mov (.t 6), none⟩,
 ⟨some 25, .mov (.t 6), none⟩,
 ⟨some 26, .bin .mul (.t 24) (.t 25), none⟩,
 ⟨some 27, .mov (.t 7), none⟩,
 ⟨some 28, .mov (.t 7), none⟩,
 ⟨some 29, .bin .mul (.t 27) (.t 28), none⟩,
 ⟨some 30, .bin .add (.t 26) (.t 29), none⟩,
 ⟨some 31, .call n_integer_Of [(.t 30)] false, none⟩,
 ⟨some 32, .call n_integer_Root [(.t 31)] false, none⟩,
 ⟨some 23, .mov (.t 32), none⟩,
 ⟨some 33, .ext (.t 23) 0, none⟩,
 ⟨some 34, .ext (.t 23) 1, none⟩,
 ⟨some 8, .new [.v (.bool false), .z true], none⟩,
 ⟨none, .store 2 (.t 8) (.t 33), none⟩,
 ⟨some 9, .mov (.t 34), none⟩] []) <|
 .keep [4, 6, 7, 8, 9] [[4], [8]]) <|
 .seq (.seq (.reg [⟨some 36, .load (some 2) (.t 8), none⟩,
 ⟨some 37, .call n_integer_Small [(.t 36)] false, none⟩,
 ⟨some 35, .mov (.t 37), none⟩,
 ⟨some 38, .ext (.t 35) 0, none⟩,
 ⟨some 39, .ext (.t 35) 1, none⟩,
 ⟨some 10, .mov (.t 38), none⟩,
 ⟨some 11, .mov (.t 39), none⟩] []) <|
 .keep [4, 6, 7, 9, 10] [[4]]) <|
 .seq (.seq (.seq (.reg [⟨some 40, .mov (.t 9), none⟩,
 ⟨some 41, .un .not (.t 40), none⟩,
 ⟨some 42, .mov (.t 41), none⟩,
 ⟨some 43, .mov (.t 10), (some (42, false))⟩,
 ⟨some 44, .bin .eql (.t 43) (.c (.v (.int .i64 0))), (some (42, false))⟩,
 ⟨some 45, .pick (.t 42) (.c (.v (.bool true))) (.t 44), none⟩] []) <|
 .keep [4, 6, 7, 10, 45] [[4]]) <|
 .cond (.t 45) (.seq (.seq (.reg [⟨some 46, .build [.v (.int .i64 0), .v (.int .i64 0), .v (.int .i64 0)] [], none⟩,
 ⟨none, .store 3 (.t 4) (.t 46), none⟩,
 ⟨some 5, .mov (.c (.v (.bool false))), none⟩] []) <|
 .keep [4, 5] [[4]]) <|
 .ret) <|
 .skip) <|
 .seq (.seq (.reg [⟨some 47, .mov (.t 6), none⟩,
 ⟨some 48, .mov (.t 7), none⟩,
 ⟨some 49, .call n_convex_gcd [(.t 47), (.t 48)] false, none⟩,
 ⟨some 50, .mov (.t 10), none⟩,
 ⟨some 51, .call n_convex_gcd [(.t 49), (.t 50)] false, none⟩,
 ⟨some 12, .mov (.t 51), none⟩] []) <|
 .keep [4, 6, 7, 10, 12] [[4]]) <|
 .seq (.seq (.reg [⟨some 52, .mov (.t 7), none⟩,
 ⟨some 53, .mov (.t 12), none⟩,
 ⟨some 54, .bin .quo (.t 52) (.t 53), none⟩,
 ⟨some 55, .mov (.t 6), none⟩,
 ⟨some 56, .un .neg (.t 55), none⟩,
 ⟨some 57, .mov (.t 12), none⟩,
 ⟨some 58, .bin .quo (.t 56) (.t 57), none⟩,
 ⟨some 59, .mov (.t 10), none⟩,
 ⟨some 60, .mov (.t 12), none⟩,
 ⟨some 61, .bin .quo (.t 59) (.t 60), none⟩,
 ⟨some 62, .build [.v (.int .i64 0), .v (.int .i64 0), .v (.int .i64 0)] [(0, 1, (.t 54)), (1, 1, (.t 58)), (2, 1, (.t 61))], none⟩,
 ⟨none, .store 3 (.t 4) (.t 62), none⟩,
 ⟨some 5, .mov (.c (.v (.bool true))), none⟩] []) <|
 .keep [4, 5] [[4]]) <|
 .ret, [.cell 4 (some 3), .t 5]⟩

def convex_next : CF := ⟨2, .seq (.seq (.reg [⟨some 4, .new [.v (.int .i64 0), .v (.int .i64 0)], none⟩] []) <|
 .keep [0, 1, 4] [[4]]) <|
 .seq (.seq (.reg [⟨some 5, .mov (.t 0), none⟩,
 ⟨some 6, .mov (.t 1), none⟩,
 ⟨some 7, .bin .add (.t 6) (.c (.v (.int .i64 1))), none⟩,
 ⟨some 8, .mov (.t 0), none⟩,
 ⟨some 9, .len (.t 8), none⟩,
 ⟨some 10, .bin .rem (.t 7) (.t 9), none⟩,
 ⟨some 11, .ixa 2 (.t 5) (.t 10), none⟩,
 ⟨some 12, .load (some 2) (.t 11), none⟩,
 ⟨none, .store 2 (.t 4) (.t 12), none⟩] []) <|
 .keep [4] [[4]]) <|
 .ret, [.cell 4 (some 2)]⟩

def slices_MinFunc_api_Point_api_Point_l0 : C :=
 .seq (.seq (.seq (.seq (.reg [⟨some 14, .mov (.t 6), none⟩,
 ⟨some 15, .mov (.t 0), none⟩,
 ⟨some 16, .len (.t 15), none⟩,
 ⟨some 17, .bin .lss (.t 14) (.t 16), none⟩] []) <|
 .keep [0, 1, 4, 5, 6, 17] [[4], [5]]) <|
 .cond (.t 17) (.skip) <|
 .seq (.keep [4, 5] [[4], [5]]) <|
 .exit 0) <|
 .seq (.seq (.blk 1 <|
 .seq (.seq (.reg [⟨some 20, .mov (.t 1), none⟩,
 ⟨some 21, .mov (.t 0), none⟩,
 ⟨some 22, .mov (.t 6), none⟩,
 ⟨some 23, .ixa 2 (.t 21) (.t 22), none⟩,
 ⟨some 24, .load (some 2) (.t 23), none⟩,
 ⟨some 25, .load (some 2) (.t 5), none⟩,
 ⟨some 26, .calv (.t 20) [(.t 24), (.t 25)], none⟩,
 ⟨some 27, .bin .lss (.t 26) (.c (.v (.int .i64 0))), none⟩] []) <|
 .keep [0, 1, 4, 5, 6, 27] [[4], [5]]) <|
 .cond (.t 27) (.seq (.reg [⟨some 28, .mov (.t 0), none⟩,
 ⟨some 29, .mov (.t 6), none⟩,
 ⟨some 30, .ixa 2 (.t 28) (.t 29), none⟩,
 ⟨some 31, .load (some 2) (.t 30), none⟩,
 ⟨none, .store 2 (.t 5) (.t 31), none⟩] []) <|
 .keep [0, 1, 4, 5, 6] [[4], [5]]) <|
 .skip) <|
 .keep [0, 1, 4, 5, 6] [[4], [5]]) <|
 .seq (.reg [⟨some 18, .mov (.t 6), none⟩,
 ⟨some 19, .bin .add (.t 18) (.c (.v (.int .i64 1))), none⟩,
 ⟨some 6, .mov (.t 19), none⟩] []) <|
 .keep [0, 1, 4, 5, 6] [[4], [5]]) <|
 .keep [0, 1, 4, 5, 6] [[4], [5]]
def slices_MinFunc_api_Point_api_Point : CF := ⟨2, .seq (.seq (.reg [⟨some 4, .new [.v (.int .i64 0), .v (.int .i64 0)], none⟩] []) <|
 .keep [0, 1, 4] [[4]]) <|
 .seq (.seq (.seq (.reg [⟨some 7, .mov (.t 0), none⟩,
 ⟨some 8, .len (.t 7), none⟩,
 ⟨some 9, .bin .lss (.t 8) (.c (.v (.int .i64 1))), none⟩] []) <|
 .keep [0, 1, 4, 9] [[4]]) <|
 .cond (.t 9) (.cond (.c (.v (.int .i64 7))) (.skip) <|
 .skip) <|
 .skip) <|
 .seq (.seq (.reg [⟨some 11, .mov (.t 0), none⟩,
 ⟨some 12, .ixa 2 (.t 11) (.c (.v (.int .i64 0))), none⟩,
 ⟨some 13, .load (some 2) (.t 12), none⟩,
 ⟨some 5, .new [.v (.int .i64 0), .v (.int .i64 0)], none⟩,
 ⟨none, .store 2 (.t 5) (.t 13), none⟩] []) <|
 .keep [0, 1, 4, 5] [[4], [5]]) <|
 .seq (.seq (.seq (.reg [⟨some 6, .mov (.c (.v (.int .i64 1))), none⟩] []) <|
 .keep [0, 1, 4, 5, 6] [[4], [5]]) <|
 .seq (.blk 0 <|
 .seq (.keep [0, 1, 4, 5, 6] [[4], [5]]) <|
 .loop slices_MinFunc_api_Point_api_Point_l0) <|
 .keep [4, 5] [[4], [5]]) <|
 .seq (.seq (.reg [⟨some 32, .load (some 2) (.t 5), none⟩,
 ⟨none, .store 2 (.t 4) (.t 32), none⟩] []) <|
 .keep [4] [[4]]) <|
 .ret, [.cell 4 (some 2)]⟩

def convex_Sum_1 : CF := ⟨2, .seq (.seq (.reg [⟨some 2, .box (.t 0), none⟩,
 ⟨some 3, .box (.t 1), none⟩,
 ⟨some 4, .mov (.c (.v (.int .i64 0))), none⟩] []) <|
 .keep [2, 3] [[2], [3]]) <|
 .seq (.seq (.reg [⟨some 5, .fad 1 (.t 2), none⟩,
 ⟨some 6, .load none (.t 5), none⟩,
 ⟨some 7, .fad 1 (.t 3), none⟩,
 ⟨some 8, .load none (.t 7), none⟩,
 ⟨some 9, .call n_cmp_Compare_int [(.t 6), (.t 8)] false, none⟩,
 ⟨some 10, .fad 0 (.t 2), none⟩,
 ⟨some 11, .load none (.t 10), none⟩,
 ⟨some 12, .fad 0 (.t 3), none⟩,
 ⟨some 13, .load none (.t 12), none⟩,
 ⟨some 14, .call n_cmp_Compare_int [(.t 11), (.t 13)] false, none⟩,
 ⟨some 15, .lit 1 2 [.v (.int .i64 0)] [(0, (.t 9)), (1, (.t 14))] true, none⟩,
 ⟨some 16, .call n_cmp_Or_int [(.t 15)] false, none⟩,
 ⟨some 4, .mov (.t 16), none⟩] []) <|
 .keep [4] []) <|
 .ret, [.t 4]⟩

def cmp_Or_int_l0 : C :=
 .seq (.seq (.seq (.reg [⟨some 9, .bin .lss (.t 8) (.t 7), none⟩] []) <|
 .keep [3, 6, 7, 8, 9] []) <|
 .seq (.cond (.t 9) (.skip) <|
 .seq (.keep [3] []) <|
 .exit 0) <|
 .seq (.seq (.blk 1 <|
 .seq (.seq (.reg [⟨some 10, .ixa 1 (.t 6) (.t 8), none⟩,
 ⟨some 11, .load none (.t 10), none⟩,
 ⟨some 5, .mov (.t 11), none⟩] []) <|
 .keep [3, 5, 6, 7, 8] []) <|
 .seq (.seq (.reg [⟨some 12, .mov (.t 5), none⟩,
 ⟨some 13, .mov (.t 3), none⟩,
 ⟨some 14, .bin .neq (.t 12) (.t 13), none⟩] []) <|
 .keep [3, 5, 6, 7, 8, 14] []) <|
 .cond (.t 14) (.seq (.seq (.reg [⟨some 15, .mov (.t 5), none⟩,
 ⟨some 2, .mov (.t 15), none⟩] []) <|
 .keep [2] []) <|
 .ret) <|
 .skip) <|
 .keep [3, 6, 7, 8] []) <|
 .seq (.reg [⟨some 16, .bin .add (.t 8) (.c (.v (.int .i64 1))), none⟩,
 ⟨some 8, .mov (.t 16), none⟩] []) <|
 .keep [3, 6, 7, 8] []) <|
 .keep [3, 6, 7, 8] []
def cmp_Or_int : CF := ⟨1, .seq (.seq (.reg [⟨some 2, .mov (.c (.v (.int .i64 0))), none⟩] []) <|
 .keep [0] []) <|
 .seq (.seq (.reg [⟨some 3, .mov (.c (.v (.int .i64 0))), none⟩] []) <|
 .keep [0, 3] []) <|
 .seq (.seq (.seq (.reg [⟨some 6, .mov (.t 0), none⟩,
 ⟨some 7, .len (.t 6), none⟩,
 ⟨some 8, .mov (.c (.v (.int .i64 0))), none⟩] []) <|
 .keep [3, 6, 7, 8] []) <|
 .seq (.blk 0 <|
 .seq (.keep [3, 6, 7, 8] []) <|
 .loop cmp_Or_int_l0) <|
 .keep [3] []) <|
 .seq (.seq (.reg [⟨some 17, .mov (.t 3), none⟩,
 ⟨some 2, .mov (.t 17), none⟩] []) <|
 .keep [2] []) <|
 .ret, [.t 2]⟩

def cmp_Compare_int : CF := ⟨2, .seq (.seq (.reg [⟨some 4, .mov (.c (.v (.int .i64 0))), none⟩] []) <|
 .keep [0, 1] []) <|
 .seq (.seq (.reg [⟨some 7, .mov (.t 0), none⟩,
 ⟨some 8, .call n_cmp_isNaN_int [(.t 7)] false, none⟩,
 ⟨some 5, .mov (.t 8), none⟩] []) <|
 .keep [0, 1, 5] []) <|
 .seq (.seq (.reg [⟨some 9, .mov (.t 1), none⟩,
 ⟨some 10, .call n_cmp_isNaN_int [(.t 9)] false, none⟩,
 ⟨some 6, .mov (.t 10), none⟩] []) <|
 .keep [0, 1, 5, 6] []) <|
 .seq (.seq (.seq (.reg [⟨some 11, .mov (.t 5), none⟩] []) <|
 .keep [0, 1, 6, 11] []) <|
 .cond (.t 11) (.seq (.seq (.seq (.reg [⟨some 12, .mov (.t 6), none⟩] []) <|
 .keep [12] []) <|
 .cond (.t 12) (.seq (.seq (.reg [⟨some 4, .mov (.c (.v (.int .i64 0))), none⟩] []) <|
 .keep [4] []) <|
 .ret) <|
 .skip) <|
 .seq (.seq (.reg [⟨some 4, .mov (.c (.v (.int .i64 (-1)))), none⟩] []) <|
 .keep [4] []) <|
 .ret) <|
 .skip) <|
 .seq (.seq (.seq (.reg [⟨some 13, .mov (.t 6), none⟩] []) <|
 .keep [0, 1, 13] []) <|
 .cond (.t 13) (.seq (.seq (.reg [⟨some 4, .mov (.c (.v (.int .i64 1))), none⟩] []) <|
 .keep [4] []) <|
 .ret) <|
 .skip) <|
 .seq (.seq (.seq (.reg [⟨some 14, .mov (.t 0), none⟩,
 ⟨some 15, .mov (.t 1), none⟩,
 ⟨some 16, .bin .lss (.t 14) (.t 15), none⟩] []) <|
 .keep [0, 1, 16] []) <|
 .cond (.t 16) (.seq (.seq (.reg [⟨some 4, .mov (.c (.v (.int .i64 (-1)))), none⟩] []) <|
 .keep [4] []) <|
 .ret) <|
 .skip) <|
 .seq (.seq (.seq (.reg [⟨some 17, .mov (.t 0), none⟩,
 ⟨some 18, .mov (.t 1), none⟩,
 ⟨some 19, .bin .gtr (.t 17) (.t 18), none⟩] []) <|
 .keep [19] []) <|
 .cond (.t 19) (.seq (.seq (.reg [⟨some 4, .mov (.c (.v (.int .i64 1))), none⟩] []) <|
 .keep [4] []) <|
 .ret) <|
 .skip) <|
 .seq (.seq (.reg [⟨some 4, .mov (.c (.v (.int .i64 0))), none⟩] []) <|
 .keep [4] []) <|
 .ret, [.t 4]⟩

def convex_cross : CF := ⟨3, .seq (.seq (.reg [⟨some 3, .box (.t 0), none⟩,
 ⟨some 4, .box (.t 1), none⟩,
 ⟨some 5, .box (.t 2), none⟩,
 ⟨some 6, .mov (.c (.v (.int .i64 0))), none⟩] []) <|
 .keep [3, 4, 5] [[3], [4], [5]]) <|
 .seq (.seq (.reg [⟨some 7, .fad 0 (.t 4), none⟩,
 ⟨some 8, .load none (.t 7), none⟩,
 ⟨some 9, .fad 0 (.t 3), none⟩,
 ⟨some 10, .load none (.t 9), none⟩,
 ⟨some 11, .bin .sub (.t 8) (.t 10), none⟩,
 ⟨some 12, .fad 1 (.t 5), none⟩,
 ⟨some 13, .load none (.t 12), none⟩,
 ⟨some 14, .fad 1 (.t 3), none⟩,
 ⟨some 15, .load none (.t 14), none⟩,
 ⟨some 16, .bin .sub (.t 13) (.t 15), none⟩,
 ⟨some 17, .bin .mul (.t 11) (.t 16), none⟩,
 ⟨some 18, .fad 1 (.t 4), none⟩,
 ⟨some 19, .load none (.t 18), none⟩,
 ⟨some 20, .fad 1 (.t 3), none⟩,
 ⟨some 21, .load none (.t 20), none⟩,
 ⟨some 22, .bin .sub (.t 19) (.t 21), none⟩,
 ⟨some 23, .fad 0 (.t 5), none⟩,
 ⟨some 24, .load none (.t 23), none⟩,
 ⟨some 25, .fad 0 (.t 3), none⟩,
 ⟨some 26, .load none (.t 25), none⟩,
 ⟨some 27, .bin .sub (.t 24) (.t 26), none⟩,
 ⟨some 28, .bin .mul (.t 22) (.t 27), none⟩,
 ⟨some 29, .bin .sub (.t 17) (.t 28), none⟩,
 ⟨some 6, .mov (.t 29), none⟩] []) <|
 .keep [6] []) <|
 .ret, [.t 6]⟩

def convex_far : CF := ⟨2, .seq (.seq (.reg [⟨some 2, .box (.t 0), none⟩,
 ⟨some 3, .box (.t 1), none⟩,
 ⟨some 4, .mov (.c (.v (.int .i64 0))), none⟩] []) <|
 .keep [2, 3] [[2], [3]]) <|
 .seq (.seq (.reg [⟨some 5, .fad 0 (.t 2), none⟩,
 ⟨some 6, .load none (.t 5), none⟩,
 ⟨some 7, .fad 0 (.t 3), none⟩,
 ⟨some 8, .load none (.t 7), none⟩,
 ⟨some 9, .bin .sub (.t 6) (.t 8), none⟩,
 ⟨some 10, .fad 0 (.t 2), none⟩,
 ⟨some 11, .load none (.t 10), none⟩,
 ⟨some 12, .fad 0 (.t 3), none⟩,
 ⟨some 13, .load none (.t 12), none⟩,
 ⟨some 14, .bin .sub (.t 11) (.t 13), none⟩,
 ⟨some 15, .bin .mul (.t 9) (.t 14), none⟩,
 ⟨some 16, .fad 1 (.t 2), none⟩,
 ⟨some 17, .load none (.t 16), none⟩,
 ⟨some 18, .fad 1 (.t 3), none⟩,
 ⟨some 19, .load none (.t 18), none⟩,
 ⟨some 20, .bin .sub (.t 17) (.t 19), none⟩,
 ⟨some 21, .fad 1 (.t 2), none⟩,
 ⟨some 22, .load none (.t 21), none⟩,
 ⟨some 23, .fad 1 (.t 3), none⟩,
 ⟨some 24, .load none (.t 23), none⟩,
 ⟨some 25, .bin .sub (.t 22) (.t 24), none⟩,
 ⟨some 26, .bin .mul (.t 20) (.t 25), none⟩,
 ⟨some 27, .bin .add (.t 15) (.t 26), none⟩,
 ⟨some 4, .mov (.t 27), none⟩] []) <|
 .keep [4] []) <|
 .ret, [.t 4]⟩

def rat_lowest : CF := ⟨2, .seq (.seq (.reg [⟨some 2, .box (.t 0), none⟩,
 ⟨some 3, .box (.t 1), none⟩,
 ⟨some 4, .new [.v (.bool false), .z true, .v (.bool false), .z true], none⟩] []) <|
 .keep [2, 3, 4] [[2], [3], [4]]) <|
 .seq (.seq (.seq (.reg [⟨some 5, .fad 0 (.t 3), none⟩,
 ⟨some 6, .load none (.t 5), none⟩] []) <|
 .keep [2, 3, 4, 6] [[2], [3], [4]]) <|
 .cond (.t 6) (.seq (.reg [⟨some 7, .load (some 2) (.t 2), none⟩,
 ⟨some 8, .call n_integer_Neg [(.t 7)] false, none⟩,
 ⟨some 9, .load (some 2) (.t 3), none⟩,
 ⟨some 10, .call n_integer_Neg [(.t 9)] false, none⟩,
 ⟨none, .store 2 (.t 2) (.t 8), none⟩,
 ⟨none, .store 2 (.t 3) (.t 10), none⟩] []) <|
 .keep [2, 3, 4] [[2], [3], [4]]) <|
 .skip) <|
 .seq (.seq (.seq (.reg [⟨some 11, .load (some 2) (.t 3), none⟩,
 ⟨some 12, .call n_rat_unit [(.t 11)] false, none⟩] []) <|
 .keep [2, 3, 4, 12] [[2], [3], [4]]) <|
 .cond (.t 12) (.seq (.seq (.reg [⟨some 13, .load (some 2) (.t 2), none⟩,
 ⟨some 14, .build [.v (.bool false), .z true, .v (.bool false), .z true] [(0, 2, (.t 13))], none⟩,
 ⟨none, .store 4 (.t 4) (.t 14), none⟩] []) <|
 .keep [4] [[4]]) <|
 .ret) <|
 .skip) <|
 .seq (.seq (.reg [⟨some 15, .load (some 2) (.t 2), none⟩,
 ⟨some 16, .load (some 2) (.t 3), none⟩,
 ⟨some 17, .build [.v (.bool false), .z true, .v (.bool false), .z true] [(0, 2, (.t 15)), (2, 2, (.t 16))], none⟩,
 ⟨none, .store 4 (.t 4) (.t 17), none⟩] []) <|
 .keep [4] [[4]]) <|
 .ret, [.cell 4 (some 4)]⟩

def integer_Sign : CF := ⟨1, .seq (.seq (.reg [⟨some 1, .box (.t 0), none⟩,
 ⟨some 2, .mov (.c (.v (.int .i64 0))), none⟩] []) <|
 .keep [1] [[1]]) <|
 .seq (.seq (.blk 0 <|
 .seq (.seq (.reg [⟨some 4, .fad 0 (.t 1), none⟩,
 ⟨some 5, .load none (.t 4), none⟩,
 ⟨some 3, .mov (.t 5), none⟩] []) <|
 .keep [1, 3] [[1]]) <|
 .cond (.t 3) (.seq (.seq (.reg [⟨some 2, .mov (.c (.v (.int .i64 (-1)))), none⟩] []) <|
 .keep [2] []) <|
 .ret) <|
 .seq (.seq (.reg [⟨some 7, .fad 1 (.t 1), none⟩,
 ⟨some 8, .load none (.t 7), none⟩,
 ⟨some 9, .len (.t 8), none⟩,
 ⟨some 10, .bin .eql (.t 9) (.c (.v (.int .i64 0))), none⟩,
 ⟨some 6, .mov (.t 10), none⟩] []) <|
 .keep [6] []) <|
 .cond (.t 6) (.seq (.seq (.reg [⟨some 2, .mov (.c (.v (.int .i64 0))), none⟩] []) <|
 .keep [2] []) <|
 .ret) <|
 .skip) <|
 .keep [] []) <|
 .seq (.seq (.reg [⟨some 2, .mov (.c (.v (.int .i64 1))), none⟩] []) <|
 .keep [2] []) <|
 .ret, [.t 2]⟩

def gantryref04_Root_l0 : C :=
 .seq (.seq (.seq (.seq (.reg [⟨some 25, .load (some 2) (.t 4), none⟩,
 ⟨some 26, .load (some 2) (.t 6), none⟩,
 ⟨some 27, .call n_gantryref04_Add [(.t 25), (.t 26)] false, none⟩,
 ⟨some 28, .load (some 2) (.t 5), none⟩,
 ⟨some 29, .call n_gantryref04_Compare [(.t 27), (.t 28)] false, none⟩,
 ⟨some 30, .bin .lss (.t 29) (.c (.v (.int .i64 0))), none⟩] []) <|
 .keep [1, 2, 4, 5, 6, 7, 30] [[1], [2], [4], [5], [6], [7]]) <|
 .cond (.t 30) (.skip) <|
 .seq (.keep [1, 2, 4] [[1], [2], [4]]) <|
 .exit 0) <|
 .seq (.blk 1 <|
 .seq (.seq (.reg [⟨some 32, .load (some 2) (.t 4), none⟩,
 ⟨some 33, .load (some 2) (.t 5), none⟩,
 ⟨some 34, .call n_gantryref04_Add [(.t 32), (.t 33)] false, none⟩,
 ⟨some 35, .load (some 2) (.t 7), none⟩,
 ⟨some 36, .call n_gantryref04_Div [(.t 34), (.t 35)] false, none⟩,
 ⟨some 31, .mov (.t 36), none⟩,
 ⟨some 37, .ext (.t 31) 0, none⟩,
 ⟨some 38, .ext (.t 31) 1, none⟩,
 ⟨some 8, .new [.v (.bool false), .z true], none⟩,
 ⟨some 9, .new [.v (.bool false), .z true], none⟩,
 ⟨none, .store 2 (.t 8) (.t 37), none⟩,
 ⟨none, .store 2 (.t 9) (.t 38), none⟩] []) <|
 .keep [1, 2, 4, 5, 6, 7, 8] [[1], [2], [4], [5], [6], [7], [8]]) <|
 .seq (.seq (.reg [⟨some 39, .load (some 2) (.t 8), none⟩,
 ⟨some 40, .load (some 2) (.t 8), none⟩,
 ⟨some 41, .call n_gantryref04_Mul [(.t 39), (.t 40)] false, none⟩,
 ⟨some 42, .load (some 2) (.t 1), none⟩,
 ⟨some 43, .call n_gantryref04_Compare [(.t 41), (.t 42)] false, none⟩,
 ⟨some 44, .bin .leq (.t 43) (.c (.v (.int .i64 0))), none⟩] []) <|
 .keep [1, 2, 4, 5, 6, 7, 8, 44] [[1], [2], [4], [5], [6], [7], [8]]) <|
 .cond (.t 44) (.seq (.reg [⟨some 45, .load (some 2) (.t 8), none⟩,
 ⟨none, .store 2 (.t 4) (.t 45), none⟩] []) <|
 .keep [1, 2, 4, 5, 6, 7] [[1], [2], [4], [5], [6], [7]]) <|
 .seq (.reg [⟨some 46, .load (some 2) (.t 8), none⟩,
 ⟨none, .store 2 (.t 5) (.t 46), none⟩] []) <|
 .keep [1, 2, 4, 5, 6, 7] [[1], [2], [4], [5], [6], [7]]) <|
 .keep [1, 2, 4, 5, 6, 7] [[1], [2], [4], [5], [6], [7]]) <|
 .keep [1, 2, 4, 5, 6, 7] [[1], [2], [4], [5], [6], [7]]
def gantryref04_Root : CF := ⟨1, .seq (.seq (.reg [⟨some 1, .box (.t 0), none⟩,
 ⟨some 2, .new [.v (.bool false), .z true], none⟩,
 ⟨some 3, .mov (.c (.v (.bool false))), none⟩] []) <|
 .keep [1, 2] [[1], [2]]) <|
 .seq (.seq (.seq (.reg [⟨some 10, .fad 0 (.t 1), none⟩,
 ⟨some 11, .load none (.t 10), none⟩] []) <|
 .keep [1, 2, 11] [[1], [2]]) <|
 .cond (.t 11) (.seq (.seq (.reg [⟨some 12, .build [.v (.bool false), .z true] [], none⟩,
 ⟨none, .store 2 (.t 2) (.t 12), none⟩,
 ⟨some 3, .mov (.c (.v (.bool false))), none⟩] []) <|
 .keep [2, 3] [[2]]) <|
 .ret) <|
 .skip) <|
 .seq (.seq (.reg [⟨some 13, .build [.v (.bool false), .z true] [], none⟩,
 ⟨some 4, .new [.v (.bool false), .z true], none⟩,
 ⟨none, .store 2 (.t 4) (.t 13), none⟩] []) <|
 .keep [1, 2, 4] [[1], [2], [4]]) <|
 .seq (.seq (.reg [⟨some 14, .fad 1 (.t 1), none⟩,
 ⟨some 15, .load none (.t 14), none⟩,
 ⟨some 16, .len (.t 15), none⟩,
 ⟨some 17, .bin .quo (.t 16) (.c (.v (.int .i64 2))), none⟩,
 ⟨some 18, .bin .add (.t 17) (.c (.v (.int .i64 1))), none⟩,
 ⟨some 19, .mksl 1 8 [.v (.int .i64 0)] (.t 18) (.t 18), none⟩,
 ⟨some 20, .lit 1 1 [.v (.int .i64 0)] [(0, (.c (.v (.int .i64 1))))] true, none⟩,
 ⟨some 21, .app 1 8 (.t 19) (.t 20) true, none⟩,
 ⟨some 22, .call n_gantryref04_normal [(.c (.v (.bool false))), (.t 21)] false, none⟩,
 ⟨some 5, .new [.v (.bool false), .z true], none⟩,
 ⟨none, .store 2 (.t 5) (.t 22), none⟩] []) <|
 .keep [1, 2, 4, 5] [[1], [2], [4], [5]]) <|
 .seq (.seq (.reg [⟨some 23, .call n_gantryref04_Of [(.c (.v (.int .i64 1)))] false, none⟩,
 ⟨some 6, .new [.v (.bool false), .z true], none⟩,
 ⟨none, .store 2 (.t 6) (.t 23), none⟩] []) <|
 .keep [1, 2, 4, 5, 6] [[1], [2], [4], [5], [6]]) <|
 .seq (.seq (.reg [⟨some 24, .call n_gantryref04_Of [(.c (.v (.int .i64 2)))] false, none⟩,
 ⟨some 7, .new [.v (.bool false), .z true], none⟩,
 ⟨none, .store 2 (.t 7) (.t 24), none⟩] []) <|
 .keep [1, 2, 4, 5, 6, 7] [[1], [2], [4], [5], [6], [7]]) <|
 .seq (.seq (.blk 0 <|
 .seq (.keep [1, 2, 4, 5, 6, 7] [[1], [2], [4], [5], [6], [7]]) <|
 .loop gantryref04_Root_l0) <|
 .keep [1, 2, 4] [[1], [2], [4]]) <|
 .seq (.seq (.reg [⟨some 47, .load (some 2) (.t 4), none⟩,
 ⟨some 48, .load (some 2) (.t 4), none⟩,
 ⟨some 49, .load (some 2) (.t 4), none⟩,
 ⟨some 50, .call n_gantryref04_Mul [(.t 48), (.t 49)] false, none⟩,
 ⟨some 51, .load (some 2) (.t 1), none⟩,
 ⟨some 52, .call n_gantryref04_Compare [(.t 50), (.t 51)] false, none⟩,
 ⟨some 53, .bin .eql (.t 52) (.c (.v (.int .i64 0))), none⟩,
 ⟨none, .store 2 (.t 2) (.t 47), none⟩,
 ⟨some 3, .mov (.t 53), none⟩] []) <|
 .keep [2, 3] [[2]]) <|
 .ret, [.cell 2 (some 2), .t 3]⟩

def gantryref04_Small_l0 : C :=
 .seq (.seq (.seq (.seq (.reg [⟨some 20, .mov (.t 5), none⟩,
 ⟨some 21, .bin .geq (.t 20) (.c (.v (.int .i64 0))), none⟩] []) <|
 .keep [1, 4, 5, 21] [[1]]) <|
 .cond (.t 21) (.skip) <|
 .seq (.keep [4] []) <|
 .exit 0) <|
 .seq (.seq (.blk 1 <|
 .seq (.seq (.reg [⟨some 24, .fad 0 (.t 1), none⟩,
 ⟨some 25, .load none (.t 24), none⟩] []) <|
 .keep [1, 4, 5, 25] [[1]]) <|
 .cond (.t 25) (.seq (.reg [⟨some 26, .mov (.t 4), none⟩,
 ⟨some 27, .bin .mul (.t 26) (.c (.v (.int .i64 1000000000))), none⟩,
 ⟨some 28, .fad 1 (.t 1), none⟩,
 ⟨some 29, .load none (.t 28), none⟩,
 ⟨some 30, .mov (.t 5), none⟩,
 ⟨some 31, .ixa 1 (.t 29) (.t 30), none⟩,
 ⟨some 32, .load none (.t 31), none⟩,
 ⟨some 33, .bin .sub (.t 27) (.t 32), none⟩,
 ⟨some 4, .mov (.t 33), none⟩] []) <|
 .keep [1, 4, 5] [[1]]) <|
 .seq (.reg [⟨some 34, .mov (.t 4), none⟩,
 ⟨some 35, .bin .mul (.t 34) (.c (.v (.int .i64 1000000000))), none⟩,
 ⟨some 36, .fad 1 (.t 1), none⟩,
 ⟨some 37, .load none (.t 36), none⟩,
 ⟨some 38, .mov (.t 5), none⟩,
 ⟨some 39, .ixa 1 (.t 37) (.t 38), none⟩,
 ⟨some 40, .load none (.t 39), none⟩,
 ⟨some 41, .bin .add (.t 35) (.t 40), none⟩,
 ⟨some 4, .mov (.t 41), none⟩] []) <|
 .keep [1, 4, 5] [[1]]) <|
 .keep [1, 4, 5] [[1]]) <|
 .seq (.reg [⟨some 22, .mov (.t 5), none⟩,
 ⟨some 23, .bin .sub (.t 22) (.c (.v (.int .i64 1))), none⟩,
 ⟨some 5, .mov (.t 23), none⟩] []) <|
 .keep [1, 4, 5] [[1]]) <|
 .keep [1, 4, 5] [[1]]
def gantryref04_Small : CF := ⟨1, .seq (.seq (.reg [⟨some 1, .box (.t 0), none⟩,
 ⟨some 2, .mov (.c (.v (.int .i64 0))), none⟩,
 ⟨some 3, .mov (.c (.v (.bool false))), none⟩] []) <|
 .keep [1] [[1]]) <|
 .seq (.seq (.seq (.reg [⟨some 6, .load (some 2) (.t 1), none⟩,
 ⟨some 7, .call n_gantryref04_Of [(.c (.v (.int .i64 9223372036854775807)))] false, none⟩,
 ⟨some 8, .call n_gantryref04_Compare [(.t 6), (.t 7)] false, none⟩,
 ⟨some 9, .bin .gtr (.t 8) (.c (.v (.int .i64 0))), none⟩,
 ⟨some 10, .mov (.t 9), none⟩,
 ⟨some 11, .load (some 2) (.t 1), (some (10, false))⟩,
 ⟨some 12, .call n_gantryref04_Of [(.c (.v (.int .i64 (-9223372036854775808))))] false, (some (10, false))⟩,
 ⟨some 13, .call n_gantryref04_Compare [(.t 11), (.t 12)] false, (some (10, false))⟩,
 ⟨some 14, .bin .lss (.t 13) (.c (.v (.int .i64 0))), (some (10, false))⟩,
 ⟨some 15, .pick (.t 10) (.c (.v (.bool true))) (.t 14), none⟩] []) <|
 .keep [1, 15] [[1]]) <|
 .cond (.t 15) (.seq (.seq (.reg [⟨some 2, .mov (.c (.v (.int .i64 0))), none⟩,
 ⟨some 3, .mov (.c (.v (.bool false))), none⟩] []) <|
 .keep [2, 3] []) <|
 .ret) <|
 .skip) <|
 .seq (.seq (.reg [⟨some 4, .mov (.c (.v (.int .i64 0))), none⟩] []) <|
 .keep [1, 4] [[1]]) <|
 .seq (.seq (.seq (.reg [⟨some 16, .fad 1 (.t 1), none⟩,
 ⟨some 17, .load none (.t 16), none⟩,
 ⟨some 18, .len (.t 17), none⟩,
 ⟨some 19, .bin .sub (.t 18) (.c (.v (.int .i64 1))), none⟩,
 ⟨some 5, .mov (.t 19), none⟩] []) <|
 .keep [1, 4, 5] [[1]]) <|
 .seq (.blk 0 <|
 .seq (.keep [1, 4, 5] [[1]]) <|
 .loop gantryref04_Small_l0) <|
 .keep [4] []) <|
 .seq (.seq (.reg [⟨some 42, .mov (.t 4), none⟩,
 ⟨some 2, .mov (.t 42), none⟩,
 ⟨some 3, .mov (.c (.v (.bool true))), none⟩] []) <|
 .keep [2, 3] []) <|
 .ret, [.t 2, .t 3]⟩
end Go.AM

