/- Part 5 of the proof: a small machine, its soundness against the model, and what the program's functions compute on it. -/
import Derived.Test.YtpcoidklfmaomaaM4
import Derived.Test.YtpcoidklfmaomaaProg
import Derived.KernelRfl
set_option linter.unusedVariables false
set_option linter.unusedSimpArgs false
set_option maxRecDepth 100000
namespace Go.AM
open Go Go.Proofs


def gantryref12_Sides_l0 : C :=
 .seq (.seq (.seq (.seq (.reg [⟨some 16, .mov (.t 6), none⟩,
 ⟨some 17, .mov (.t 0), none⟩,
 ⟨some 18, .len (.t 17), none⟩,
 ⟨some 19, .bin .lss (.t 16) (.t 18), none⟩] []) <|
 .keep [0, 1, 5, 6, 19] [[36], [58]]) <|
 .cond (.t 19) (.skip) <|
 .seq (.keep [0, 1, 5] [[36], [58]]) <|
 .exit 0) <|
 .seq (.seq (.blk 1 <|
 .seq (.seq (.reg [⟨some 23, .mov (.t 0), none⟩,
 ⟨some 24, .mov (.t 6), none⟩,
 ⟨some 25, .ixa 2 (.t 23) (.t 24), none⟩,
 ⟨some 26, .load (some 2) (.t 25), none⟩,
 ⟨some 27, .mov (.t 0), none⟩,
 ⟨some 28, .mov (.t 6), none⟩,
 ⟨some 29, .call n_gantryref12_Next [(.t 27), (.t 28)] false, none⟩,
 ⟨some 30, .call n_gantryref12_Norm [(.t 26), (.t 29)] false, none⟩,
 ⟨some 22, .mov (.t 30), none⟩,
 ⟨some 31, .ext (.t 22) 0, none⟩,
 ⟨some 32, .ext (.t 22) 1, none⟩,
 ⟨some 7, .new [.v (.int .i64 0), .v (.int .i64 0), .v (.int .i64 0)], none⟩,
 ⟨none, .store 3 (.t 7) (.t 31), none⟩,
 ⟨some 8, .mov (.t 32), none⟩] []) <|
 .keep [0, 1, 5, 6, 7] [[7], [36], [58]]) <|
 .seq (.reg [⟨some 33, .mov (.t 5), none⟩,
 ⟨some 34, .load (some 3) (.t 7), none⟩,
 ⟨some 35, .lit 3 1 [.v (.int .i64 0), .v (.int .i64 0), .v (.int .i64 0)] [(0, (.t 34))] true, none⟩,
 ⟨some 36, .app 3 24 (.t 33) (.t 35) false, none⟩,
 ⟨some 5, .mov (.t 36), none⟩] []) <|
 .keep [0, 1, 5, 6] [[36], [58]]) <|
 .keep [0, 1, 5, 6] [[36], [58]]) <|
 .seq (.reg [⟨some 20, .mov (.t 6), none⟩,
 ⟨some 21, .bin .add (.t 20) (.c (.v (.int .i64 1))), none⟩,
 ⟨some 6, .mov (.t 21), none⟩] []) <|
 .keep [0, 1, 5, 6] [[36], [58]]) <|
 .keep [0, 1, 5, 6] [[36], [58]]
def gantryref12_Sides_l1 : C :=
 .seq (.seq (.seq (.seq (.reg [⟨some 37, .mov (.t 9), none⟩,
 ⟨some 38, .mov (.t 1), none⟩,
 ⟨some 39, .len (.t 38), none⟩,
 ⟨some 40, .bin .lss (.t 37) (.t 39), none⟩] []) <|
 .keep [0, 1, 5, 9, 40] [[36], [58]]) <|
 .cond (.t 40) (.skip) <|
 .seq (.keep [0, 1, 5] [[36], [58]]) <|
 .exit 2) <|
 .seq (.seq (.blk 3 <|
 .seq (.seq (.reg [⟨some 44, .mov (.t 1), none⟩,
 ⟨some 45, .mov (.t 9), none⟩,
 ⟨some 46, .ixa 2 (.t 44) (.t 45), none⟩,
 ⟨some 47, .load (some 2) (.t 46), none⟩,
 ⟨some 48, .mov (.t 1), none⟩,
 ⟨some 49, .mov (.t 9), none⟩,
 ⟨some 50, .call n_gantryref12_Next [(.t 48), (.t 49)] false, none⟩,
 ⟨some 51, .call n_gantryref12_Norm [(.t 47), (.t 50)] false, none⟩,
 ⟨some 43, .mov (.t 51), none⟩,
 ⟨some 52, .ext (.t 43) 0, none⟩,
 ⟨some 53, .ext (.t 43) 1, none⟩,
 ⟨some 10, .new [.v (.int .i64 0), .v (.int .i64 0), .v (.int .i64 0)], none⟩,
 ⟨none, .store 3 (.t 10) (.t 52), none⟩,
 ⟨some 11, .mov (.t 53), none⟩] []) <|
 .keep [0, 1, 5, 9, 10] [[10], [36], [58]]) <|
 .seq (.reg [⟨some 54, .mov (.t 5), none⟩,
 ⟨some 55, .load (some 3) (.t 10), none⟩,
 ⟨some 56, .call n_gantryref12_Turn [(.t 55)] false, none⟩,
 ⟨some 57, .lit 3 1 [.v (.int .i64 0), .v (.int .i64 0), .v (.int .i64 0)] [(0, (.t 56))] true, none⟩,
 ⟨some 58, .app 3 24 (.t 54) (.t 57) false, none⟩,
 ⟨some 5, .mov (.t 58), none⟩] []) <|
 .keep [0, 1, 5, 9] [[36], [58]]) <|
 .keep [0, 1, 5, 9] [[36], [58]]) <|
 .seq (.reg [⟨some 41, .mov (.t 9), none⟩,
 ⟨some 42, .bin .add (.t 41) (.c (.v (.int .i64 1))), none⟩,
 ⟨some 9, .mov (.t 42), none⟩] []) <|
 .keep [0, 1, 5, 9] [[36], [58]]) <|
 .keep [0, 1, 5, 9] [[36], [58]]
def gantryref12_Sides_l2 : C :=
 .seq (.seq (.seq (.seq (.reg [⟨some 65, .mov (.t 15), none⟩,
 ⟨some 66, .mov (.t 13), none⟩,
 ⟨some 67, .bin .lss (.t 65) (.t 66), none⟩] []) <|
 .keep [0, 1, 5, 12, 13, 14, 15, 67] [[36], [58], [104]]) <|
 .cond (.t 67) (.skip) <|
 .seq (.keep [0, 1, 5, 12, 13, 14] [[36], [58], [104]]) <|
 .exit 6) <|
 .seq (.seq (.blk 7 <|
 .seq (.reg [⟨some 70, .mov (.t 14), none⟩,
 ⟨some 71, .mov (.t 70), none⟩,
 ⟨some 72, .mov (.t 5), (some (71, true))⟩,
 ⟨some 73, .mov (.t 15), (some (71, true))⟩,
 ⟨some 74, .ixa 3 (.t 72) (.t 73), (some (71, true))⟩,
 ⟨some 75, .load (some 3) (.t 74), (some (71, true))⟩,
 ⟨some 76, .mov (.t 5), (some (71, true))⟩,
 ⟨some 77, .mov (.t 13), (some (71, true))⟩,
 ⟨some 78, .ixa 3 (.t 76) (.t 77), (some (71, true))⟩,
 ⟨some 79, .load (some 3) (.t 78), (some (71, true))⟩,
 ⟨some 80, .eqs 3 true (.t 75) (.t 79), (some (71, true))⟩,
 ⟨some 81, .pick (.t 71) (.t 80) (.c (.v (.bool false))), none⟩,
 ⟨some 14, .mov (.t 81), none⟩] []) <|
 .keep [0, 1, 5, 12, 13, 14, 15] [[36], [58], [104]]) <|
 .keep [0, 1, 5, 12, 13, 14, 15] [[36], [58], [104]]) <|
 .seq (.reg [⟨some 68, .mov (.t 15), none⟩,
 ⟨some 69, .bin .add (.t 68) (.c (.v (.int .i64 1))), none⟩,
 ⟨some 15, .mov (.t 69), none⟩] []) <|
 .keep [0, 1, 5, 12, 13, 14, 15] [[36], [58], [104]]) <|
 .keep [0, 1, 5, 12, 13, 14, 15] [[36], [58], [104]]
def gantryref12_Sides_l3 : C :=
 .seq (.seq (.seq (.seq (.reg [⟨some 59, .mov (.t 13), none⟩,
 ⟨some 60, .mov (.t 5), none⟩,
 ⟨some 61, .len (.t 60), none⟩,
 ⟨some 62, .bin .lss (.t 59) (.t 61), none⟩] []) <|
 .keep [0, 1, 5, 12, 13, 62] [[36], [58], [104]]) <|
 .cond (.t 62) (.skip) <|
 .seq (.keep [12] [[104]]) <|
 .exit 4) <|
 .seq (.seq (.blk 5 <|
 .seq (.seq (.reg [⟨some 14, .mov (.c (.v (.bool true))), none⟩] []) <|
 .keep [0, 1, 5, 12, 13, 14] [[36], [58], [104]]) <|
 .seq (.seq (.seq (.reg [⟨some 15, .mov (.c (.v (.int .i64 0))), none⟩] []) <|
 .keep [0, 1, 5, 12, 13, 14, 15] [[36], [58], [104]]) <|
 .seq (.blk 6 <|
 .seq (.keep [0, 1, 5, 12, 13, 14, 15] [[36], [58], [104]]) <|
 .loop gantryref12_Sides_l2) <|
 .keep [0, 1, 5, 12, 13, 14] [[36], [58], [104]]) <|
 .seq (.seq (.reg [⟨some 82, .mov (.t 14), none⟩] []) <|
 .keep [0, 1, 5, 12, 13, 82] [[36], [58], [104]]) <|
 .cond (.t 82) (.seq (.reg [⟨some 83, .mov (.t 12), none⟩,
 ⟨some 84, .mov (.t 5), none⟩,
 ⟨some 85, .mov (.t 13), none⟩,
 ⟨some 86, .ixa 3 (.t 84) (.t 85), none⟩,
 ⟨some 87, .load (some 3) (.t 86), none⟩,
 ⟨some 88, .mov (.t 0), none⟩,
 ⟨some 89, .mov (.t 5), none⟩,
 ⟨some 90, .mov (.t 13), none⟩,
 ⟨some 91, .ixa 3 (.t 89) (.t 90), none⟩,
 ⟨some 92, .load (some 3) (.t 91), none⟩,
 ⟨some 93, .call n_gantryref12_Most [(.t 88), (.t 92)] false, none⟩,
 ⟨some 94, .mov (.t 1), none⟩,
 ⟨some 95, .mov (.t 5), none⟩,
 ⟨some 96, .mov (.t 13), none⟩,
 ⟨some 97, .ixa 3 (.t 95) (.t 96), none⟩,
 ⟨some 98, .load (some 3) (.t 97), none⟩,
 ⟨some 99, .call n_gantryref12_Turn [(.t 98)] false, none⟩,
 ⟨some 100, .call n_gantryref12_Most [(.t 94), (.t 99)] false, none⟩,
 ⟨some 101, .bin .add (.t 93) (.t 100), none⟩,
 ⟨some 102, .build [.v (.int .i64 0), .v (.int .i64 0), .v (.int .i64 0), .v (.int .i64 0)] [(0, 3, (.t 87)), (3, 1, (.t 101))], none⟩,
 ⟨some 103, .lit 4 1 [.v (.int .i64 0), .v (.int .i64 0), .v (.int .i64 0), .v (.int .i64 0)] [(0, (.t 102))] true, none⟩,
 ⟨some 104, .app 4 32 (.t 83) (.t 103) false, none⟩,
 ⟨some 12, .mov (.t 104), none⟩] []) <|
 .keep [0, 1, 5, 12, 13] [[36], [58], [104]]) <|
 .skip) <|
 .keep [0, 1, 5, 12, 13] [[36], [58], [104]]) <|
 .seq (.reg [⟨some 63, .mov (.t 13), none⟩,
 ⟨some 64, .bin .add (.t 63) (.c (.v (.int .i64 1))), none⟩,
 ⟨some 13, .mov (.t 64), none⟩] []) <|
 .keep [0, 1, 5, 12, 13] [[36], [58], [104]]) <|
 .keep [0, 1, 5, 12, 13] [[36], [58], [104]]
def gantryref12_Sides : CF := ⟨2, .seq (.seq (.reg [⟨some 4, .mov (.c (.z true)), none⟩] []) <|
 .keep [0, 1] []) <|
 .seq (.seq (.reg [⟨some 5, .mov (.c (.z true)), none⟩] []) <|
 .keep [0, 1, 5] [[36], [58]]) <|
 .seq (.seq (.seq (.reg [⟨some 6, .mov (.c (.v (.int .i64 0))), none⟩] []) <|
 .keep [0, 1, 5, 6] [[36], [58]]) <|
 .seq (.blk 0 <|
 .seq (.keep [0, 1, 5, 6] [[36], [58]]) <|
 .loop gantryref12_Sides_l0) <|
 .keep [0, 1, 5] [[36], [58]]) <|
 .seq (.seq (.seq (.reg [⟨some 9, .mov (.c (.v (.int .i64 0))), none⟩] []) <|
 .keep [0, 1, 5, 9] [[36], [58]]) <|
 .seq (.blk 2 <|
 .seq (.keep [0, 1, 5, 9] [[36], [58]]) <|
 .loop gantryref12_Sides_l1) <|
 .keep [0, 1, 5] [[36], [58]]) <|
 .seq (.seq (.reg [⟨some 12, .mov (.c (.z true)), none⟩] []) <|
 .keep [0, 1, 5, 12] [[36], [58], [104]]) <|
 .seq (.seq (.seq (.reg [⟨some 13, .mov (.c (.v (.int .i64 0))), none⟩] []) <|
 .keep [0, 1, 5, 12, 13] [[36], [58], [104]]) <|
 .seq (.blk 4 <|
 .seq (.keep [0, 1, 5, 12, 13] [[36], [58], [104]]) <|
 .loop gantryref12_Sides_l3) <|
 .keep [12] [[104]]) <|
 .seq (.seq (.reg [⟨some 105, .mov (.t 12), none⟩,
 ⟨some 4, .mov (.t 105), none⟩] []) <|
 .keep [4] [[104]]) <|
 .ret, [.t 4]⟩

def gantryref12_Area_l0 : C :=
 .seq (.seq (.seq (.seq (.reg [⟨some 6, .mov (.t 4), none⟩,
 ⟨some 7, .mov (.t 0), none⟩,
 ⟨some 8, .len (.t 7), none⟩,
 ⟨some 9, .bin .lss (.t 6) (.t 8), none⟩] []) <|
 .keep [0, 3, 4, 9] []) <|
 .cond (.t 9) (.skip) <|
 .seq (.keep [3] []) <|
 .exit 0) <|
 .seq (.seq (.blk 1 <|
 .seq (.seq (.reg [⟨some 12, .mov (.t 0), none⟩,
 ⟨some 13, .mov (.t 4), none⟩,
 ⟨some 14, .call n_gantryref12_Next [(.t 12), (.t 13)] false, none⟩,
 ⟨some 5, .new [.v (.int .i64 0), .v (.int .i64 0)], none⟩,
 ⟨none, .store 2 (.t 5) (.t 14), none⟩] []) <|
 .keep [0, 3, 4, 5] [[5]]) <|
 .seq (.reg [⟨some 15, .mov (.t 3), none⟩,
 ⟨some 16, .mov (.t 0), none⟩,
 ⟨some 17, .mov (.t 4), none⟩,
 ⟨some 18, .ixa 2 (.t 16) (.t 17), none⟩,
 ⟨some 19, .fad 0 (.t 18), none⟩,
 ⟨some 20, .load none (.t 19), none⟩,
 ⟨some 21, .fad 1 (.t 5), none⟩,
 ⟨some 22, .load none (.t 21), none⟩,
 ⟨some 23, .bin .mul (.t 20) (.t 22), none⟩,
 ⟨some 24, .bin .add (.t 15) (.t 23), none⟩,
 ⟨some 25, .mov (.t 0), none⟩,
 ⟨some 26, .mov (.t 4), none⟩,
 ⟨some 27, .ixa 2 (.t 25) (.t 26), none⟩,
 ⟨some 28, .fad 1 (.t 27), none⟩,
 ⟨some 29, .load none (.t 28), none⟩,
 ⟨some 30, .fad 0 (.t 5), none⟩,
 ⟨some 31, .load none (.t 30), none⟩,
 ⟨some 32, .bin .mul (.t 29) (.t 31), none⟩,
 ⟨some 33, .bin .sub (.t 24) (.t 32), none⟩,
 ⟨some 3, .mov (.t 33), none⟩] []) <|
 .keep [0, 3, 4] []) <|
 .keep [0, 3, 4] []) <|
 .seq (.reg [⟨some 10, .mov (.t 4), none⟩,
 ⟨some 11, .bin .add (.t 10) (.c (.v (.int .i64 1))), none⟩,
 ⟨some 4, .mov (.t 11), none⟩] []) <|
 .keep [0, 3, 4] []) <|
 .keep [0, 3, 4] []
def gantryref12_Area : CF := ⟨1, .seq (.seq (.reg [⟨some 2, .mov (.c (.v (.int .i64 0))), none⟩] []) <|
 .keep [0] []) <|
 .seq (.seq (.reg [⟨some 3, .mov (.c (.v (.int .i64 0))), none⟩] []) <|
 .keep [0, 3] []) <|
 .seq (.seq (.seq (.reg [⟨some 4, .mov (.c (.v (.int .i64 0))), none⟩] []) <|
 .keep [0, 3, 4] []) <|
 .seq (.blk 0 <|
 .seq (.keep [0, 3, 4] []) <|
 .loop gantryref12_Area_l0) <|
 .keep [3] []) <|
 .seq (.seq (.reg [⟨some 34, .mov (.t 3), none⟩,
 ⟨some 2, .mov (.t 34), none⟩] []) <|
 .keep [2] []) <|
 .ret, [.t 2]⟩

def convex_Box_l0 : C :=
 .seq (.seq (.seq (.reg [⟨some 17, .bin .lss (.t 16) (.t 15), none⟩] []) <|
 .keep [2, 3, 4, 5, 14, 15, 16, 17] [[2], [3], [4], [5]]) <|
 .seq (.cond (.t 17) (.skip) <|
 .seq (.keep [2, 3, 4, 5] [[2], [3], [4], [5]]) <|
 .exit 0) <|
 .seq (.seq (.blk 1 <|
 .seq (.seq (.reg [⟨some 18, .ixa 2 (.t 14) (.t 16), none⟩,
 ⟨some 19, .load (some 2) (.t 18), none⟩,
 ⟨some 7, .new [.v (.int .i64 0), .v (.int .i64 0)], none⟩,
 ⟨none, .store 2 (.t 7) (.t 19), none⟩] []) <|
 .keep [2, 3, 4, 5, 7, 14, 15, 16] [[2], [3], [4], [5], [7]]) <|
 .seq (.seq (.reg [⟨some 20, .fad 0 (.t 4), none⟩,
 ⟨some 21, .load none (.t 20), none⟩,
 ⟨some 22, .fad 0 (.t 7), none⟩,
 ⟨some 23, .load none (.t 22), none⟩,
 ⟨some 24, .mn [(.t 21), (.t 23)], none⟩,
 ⟨some 25, .fad 1 (.t 4), none⟩,
 ⟨some 26, .load none (.t 25), none⟩,
 ⟨some 27, .fad 1 (.t 7), none⟩,
 ⟨some 28, .load none (.t 27), none⟩,
 ⟨some 29, .mn [(.t 26), (.t 28)], none⟩,
 ⟨some 30, .build [.v (.int .i64 0), .v (.int .i64 0)] [(0, 1, (.t 24)), (1, 1, (.t 29))], none⟩,
 ⟨none, .store 2 (.t 4) (.t 30), none⟩] []) <|
 .keep [2, 3, 4, 5, 7, 14, 15, 16] [[2], [3], [4], [5], [7]]) <|
 .seq (.reg [⟨some 31, .fad 0 (.t 5), none⟩,
 ⟨some 32, .load none (.t 31), none⟩,
 ⟨some 33, .fad 0 (.t 7), none⟩,
 ⟨some 34, .load none (.t 33), none⟩,
 ⟨some 35, .mx [(.t 32), (.t 34)], none⟩,
 ⟨some 36, .fad 1 (.t 5), none⟩,
 ⟨some 37, .load none (.t 36), none⟩,
 ⟨some 38, .fad 1 (.t 7), none⟩,
 ⟨some 39, .load none (.t 38), none⟩,
 ⟨some 40, .mx [(.t 37), (.t 39)], none⟩,
 ⟨some 41, .build [.v (.int .i64 0), .v (.int .i64 0)] [(0, 1, (.t 35)), (1, 1, (.t 40))], none⟩,
 ⟨none, .store 2 (.t 5) (.t 41), none⟩] []) <|
 .keep [2, 3, 4, 5, 14, 15, 16] [[2], [3], [4], [5]]) <|
 .keep [2, 3, 4, 5, 14, 15, 16] [[2], [3], [4], [5]]) <|
 .seq (.reg [⟨some 42, .bin .add (.t 16) (.c (.v (.int .i64 1))), none⟩,
 ⟨some 16, .mov (.t 42), none⟩] []) <|
 .keep [2, 3, 4, 5, 14, 15, 16] [[2], [3], [4], [5]]) <|
 .keep [2, 3, 4, 5, 14, 15, 16] [[2], [3], [4], [5]]
def convex_Box : CF := ⟨1, .seq (.seq (.reg [⟨some 2, .new [.v (.int .i64 0), .v (.int .i64 0)], none⟩,
 ⟨some 3, .new [.v (.int .i64 0), .v (.int .i64 0)], none⟩] []) <|
 .keep [0, 2, 3] [[2], [3]]) <|
 .seq (.seq (.reg [⟨some 8, .mov (.t 0), none⟩,
 ⟨some 9, .ixa 2 (.t 8) (.c (.v (.int .i64 0))), none⟩,
 ⟨some 10, .load (some 2) (.t 9), none⟩,
 ⟨some 11, .mov (.t 0), none⟩,
 ⟨some 12, .ixa 2 (.t 11) (.c (.v (.int .i64 0))), none⟩,
 ⟨some 13, .load (some 2) (.t 12), none⟩,
 ⟨some 4, .new [.v (.int .i64 0), .v (.int .i64 0)], none⟩,
 ⟨some 5, .new [.v (.int .i64 0), .v (.int .i64 0)], none⟩,
 ⟨none, .store 2 (.t 4) (.t 10), none⟩,
 ⟨none, .store 2 (.t 5) (.t 13), none⟩] [((.t 12), 2, (.t 4), 2)]) <|
 .keep [0, 2, 3, 4, 5] [[2], [3], [4], [5]]) <|
 .seq (.seq (.seq (.reg [⟨some 14, .mov (.t 0), none⟩,
 ⟨some 15, .len (.t 14), none⟩,
 ⟨some 16, .mov (.c (.v (.int .i64 0))), none⟩] []) <|
 .keep [2, 3, 4, 5, 14, 15, 16] [[2], [3], [4], [5]]) <|
 .seq (.blk 0 <|
 .seq (.keep [2, 3, 4, 5, 14, 15, 16] [[2], [3], [4], [5]]) <|
 .loop convex_Box_l0) <|
 .keep [2, 3, 4, 5] [[2], [3], [4], [5]]) <|
 .seq (.seq (.reg [⟨some 43, .load (some 2) (.t 4), none⟩,
 ⟨some 44, .load (some 2) (.t 5), none⟩,
 ⟨none, .store 2 (.t 2) (.t 43), none⟩,
 ⟨none, .store 2 (.t 3) (.t 44), none⟩] [((.t 5), 2, (.t 2), 2)]) <|
 .keep [2, 3] [[2], [3]]) <|
 .ret, [.cell 2 (some 2), .cell 3 (some 2)]⟩

def gantryref12_Box_l0 : C :=
 .seq (.seq (.seq (.seq (.reg [⟨some 13, .mov (.t 6), none⟩,
 ⟨some 14, .mov (.t 0), none⟩,
 ⟨some 15, .len (.t 14), none⟩,
 ⟨some 16, .bin .lss (.t 13) (.t 15), none⟩] []) <|
 .keep [0, 2, 3, 4, 5, 6, 16] [[2], [3], [4], [5]]) <|
 .cond (.t 16) (.skip) <|
 .seq (.keep [2, 3, 4, 5] [[2], [3], [4], [5]]) <|
 .exit 0) <|
 .seq (.seq (.blk 1 <|
 .seq (.seq (.reg [⟨some 19, .fad 0 (.t 4), none⟩,
 ⟨some 20, .load none (.t 19), none⟩,
 ⟨some 21, .mov (.t 0), none⟩,
 ⟨some 22, .mov (.t 6), none⟩,
 ⟨some 23, .ixa 2 (.t 21) (.t 22), none⟩,
 ⟨some 24, .fad 0 (.t 23), none⟩,
 ⟨some 25, .load none (.t 24), none⟩,
 ⟨some 26, .mn [(.t 20), (.t 25)], none⟩,
 ⟨some 27, .fad 0 (.t 4), none⟩,
 ⟨none, .store 1 (.t 27) (.t 26), none⟩] []) <|
 .keep [0, 2, 3, 4, 5, 6] [[2], [3], [4], [5]]) <|
 .seq (.seq (.reg [⟨some 28, .fad 1 (.t 4), none⟩,
 ⟨some 29, .load none (.t 28), none⟩,
 ⟨some 30, .mov (.t 0), none⟩,
 ⟨some 31, .mov (.t 6), none⟩,
 ⟨some 32, .ixa 2 (.t 30) (.t 31), none⟩,
 ⟨some 33, .fad 1 (.t 32), none⟩,
 ⟨some 34, .load none (.t 33), none⟩,
 ⟨some 35, .mn [(.t 29), (.t 34)], none⟩,
 ⟨some 36, .fad 1 (.t 4), none⟩,
 ⟨none, .store 1 (.t 36) (.t 35), none⟩] []) <|
 .keep [0, 2, 3, 4, 5, 6] [[2], [3], [4], [5]]) <|
 .seq (.seq (.reg [⟨some 37, .fad 0 (.t 5), none⟩,
 ⟨some 38, .load none (.t 37), none⟩,
 ⟨some 39, .mov (.t 0), none⟩,
 ⟨some 40, .mov (.t 6), none⟩,
 ⟨some 41, .ixa 2 (.t 39) (.t 40), none⟩,
 ⟨some 42, .fad 0 (.t 41), none⟩,
 ⟨some 43, .load none (.t 42), none⟩,
 ⟨some 44, .mx [(.t 38), (.t 43)], none⟩,
 ⟨some 45, .fad 0 (.t 5), none⟩,
 ⟨none, .store 1 (.t 45) (.t 44), none⟩] []) <|
 .keep [0, 2, 3, 4, 5, 6] [[2], [3], [4], [5]]) <|
 .seq (.reg [⟨some 46, .fad 1 (.t 5), none⟩,
 ⟨some 47, .load none (.t 46), none⟩,
 ⟨some 48, .mov (.t 0), none⟩,
 ⟨some 49, .mov (.t 6), none⟩,
 ⟨some 50, .ixa 2 (.t 48) (.t 49), none⟩,
 ⟨some 51, .fad 1 (.t 50), none⟩,
 ⟨some 52, .load none (.t 51), none⟩,
 ⟨some 53, .mx [(.t 47), (.t 52)], none⟩,
 ⟨some 54, .fad 1 (.t 5), none⟩,
 ⟨none, .store 1 (.t 54) (.t 53), none⟩] []) <|
 .keep [0, 2, 3, 4, 5, 6] [[2], [3], [4], [5]]) <|
 .keep [0, 2, 3, 4, 5, 6] [[2], [3], [4], [5]]) <|
 .seq (.reg [⟨some 17, .mov (.t 6), none⟩,
 ⟨some 18, .bin .add (.t 17) (.c (.v (.int .i64 1))), none⟩,
 ⟨some 6, .mov (.t 18), none⟩] []) <|
 .keep [0, 2, 3, 4, 5, 6] [[2], [3], [4], [5]]) <|
 .keep [0, 2, 3, 4, 5, 6] [[2], [3], [4], [5]]
def gantryref12_Box : CF := ⟨1, .seq (.seq (.reg [⟨some 2, .new [.v (.int .i64 0), .v (.int .i64 0)], none⟩,
 ⟨some 3, .new [.v (.int .i64 0), .v (.int .i64 0)], none⟩] []) <|
 .keep [0, 2, 3] [[2], [3]]) <|
 .seq (.seq (.reg [⟨some 7, .mov (.t 0), none⟩,
 ⟨some 8, .ixa 2 (.t 7) (.c (.v (.int .i64 0))), none⟩,
 ⟨some 9, .load (some 2) (.t 8), none⟩,
 ⟨some 4, .new [.v (.int .i64 0), .v (.int .i64 0)], none⟩,
 ⟨none, .store 2 (.t 4) (.t 9), none⟩] []) <|
 .keep [0, 2, 3, 4] [[2], [3], [4]]) <|
 .seq (.seq (.reg [⟨some 10, .mov (.t 0), none⟩,
 ⟨some 11, .ixa 2 (.t 10) (.c (.v (.int .i64 0))), none⟩,
 ⟨some 12, .load (some 2) (.t 11), none⟩,
 ⟨some 5, .new [.v (.int .i64 0), .v (.int .i64 0)], none⟩,
 ⟨none, .store 2 (.t 5) (.t 12), none⟩] []) <|
 .keep [0, 2, 3, 4, 5] [[2], [3], [4], [5]]) <|
 .seq (.seq (.seq (.reg [⟨some 6, .mov (.c (.v (.int .i64 0))), none⟩] []) <|
 .keep [0, 2, 3, 4, 5, 6] [[2], [3], [4], [5]]) <|
 .seq (.blk 0 <|
 .seq (.keep [0, 2, 3, 4, 5, 6] [[2], [3], [4], [5]]) <|
 .loop gantryref12_Box_l0) <|
 .keep [2, 3, 4, 5] [[2], [3], [4], [5]]) <|
 .seq (.seq (.reg [⟨some 55, .load (some 2) (.t 4), none⟩,
 ⟨some 56, .load (some 2) (.t 5), none⟩,
 ⟨none, .store 2 (.t 2) (.t 55), none⟩,
 ⟨none, .store 2 (.t 3) (.t 56), none⟩] [((.t 5), 2, (.t 2), 2)]) <|
 .keep [2, 3] [[2], [3]]) <|
 .ret, [.cell 2 (some 2), .cell 3 (some 2)]⟩

def gantryref12_Most_l0 : C :=
 .seq (.seq (.seq (.seq (.reg [⟨some 22, .mov (.t 6), none⟩,
 ⟨some 23, .mov (.t 0), none⟩,
 ⟨some 24, .len (.t 23), none⟩,
 ⟨some 25, .bin .lss (.t 22) (.t 24), none⟩] []) <|
 .keep [0, 3, 5, 6, 25] [[3]]) <|
 .cond (.t 25) (.skip) <|
 .seq (.keep [5] []) <|
 .exit 0) <|
 .seq (.seq (.blk 1 <|
 .seq (.reg [⟨some 28, .mov (.t 5), none⟩,
 ⟨some 29, .fad 0 (.t 3), none⟩,
 ⟨some 30, .load none (.t 29), none⟩,
 ⟨some 31, .mov (.t 0), none⟩,
 ⟨some 32, .mov (.t 6), none⟩,
 ⟨some 33, .ixa 2 (.t 31) (.t 32), none⟩,
 ⟨some 34, .fad 0 (.t 33), none⟩,
 ⟨some 35, .load none (.t 34), none⟩,
 ⟨some 36, .bin .mul (.t 30) (.t 35), none⟩,
 ⟨some 37, .fad 1 (.t 3), none⟩,
 ⟨some 38, .load none (.t 37), none⟩,
 ⟨some 39, .mov (.t 0), none⟩,
 ⟨some 40, .mov (.t 6), none⟩,
 ⟨some 41, .ixa 2 (.t 39) (.t 40), none⟩,
 ⟨some 42, .fad 1 (.t 41), none⟩,
 ⟨some 43, .load none (.t 42), none⟩,
 ⟨some 44, .bin .mul (.t 38) (.t 43), none⟩,
 ⟨some 45, .bin .add (.t 36) (.t 44), none⟩,
 ⟨some 46, .mx [(.t 28), (.t 45)], none⟩,
 ⟨some 5, .mov (.t 46), none⟩] []) <|
 .keep [0, 3, 5, 6] [[3]]) <|
 .keep [0, 3, 5, 6] [[3]]) <|
 .seq (.reg [⟨some 26, .mov (.t 6), none⟩,
 ⟨some 27, .bin .add (.t 26) (.c (.v (.int .i64 1))), none⟩,
 ⟨some 6, .mov (.t 27), none⟩] []) <|
 .keep [0, 3, 5, 6] [[3]]) <|
 .keep [0, 3, 5, 6] [[3]]
def gantryref12_Most : CF := ⟨2, .seq (.seq (.reg [⟨some 3, .box (.t 1), none⟩,
 ⟨some 4, .mov (.c (.v (.int .i64 0))), none⟩] []) <|
 .keep [0, 3] [[3]]) <|
 .seq (.seq (.reg [⟨some 7, .fad 0 (.t 3), none⟩,
 ⟨some 8, .load none (.t 7), none⟩,
 ⟨some 9, .mov (.t 0), none⟩,
 ⟨some 10, .ixa 2 (.t 9) (.c (.v (.int .i64 0))), none⟩,
 ⟨some 11, .fad 0 (.t 10), none⟩,
 ⟨some 12, .load none (.t 11), none⟩,
 ⟨some 13, .bin .mul (.t 8) (.t 12), none⟩,
 ⟨some 14, .fad 1 (.t 3), none⟩,
 ⟨some 15, .load none (.t 14), none⟩,
 ⟨some 16, .mov (.t 0), none⟩,
 ⟨some 17, .ixa 2 (.t 16) (.c (.v (.int .i64 0))), none⟩,
 ⟨some 18, .fad 1 (.t 17), none⟩,
 ⟨some 19, .load none (.t 18), none⟩,
 ⟨some 20, .bin .mul (.t 15) (.t 19), none⟩,
 ⟨some 21, .bin .add (.t 13) (.t 20), none⟩,
 ⟨some 5, .mov (.t 21), none⟩] []) <|
 .keep [0, 3, 5] [[3]]) <|
 .seq (.seq (.seq (.reg [⟨some 6, .mov (.c (.v (.int .i64 0))), none⟩] []) <|
 .keep [0, 3, 5, 6] [[3]]) <|
 .seq (.blk 0 <|
 .seq (.keep [0, 3, 5, 6] [[3]]) <|
 .loop gantryref12_Most_l0) <|
 .keep [5] []) <|
 .seq (.seq (.reg [⟨some 47, .mov (.t 5), none⟩,
 ⟨some 4, .mov (.t 47), none⟩] []) <|
 .keep [4] []) <|
 .ret, [.t 4]⟩

def gantryref01_At : CF := ⟨3, .seq (.seq (.reg [⟨some 6, .mov (.c (.v (.int .i64 0))), none⟩] []) <|
 .keep [0, 1, 2] []) <|
 .seq (.seq (.seq (.reg [⟨some 7, .mov (.t 1), none⟩,
 ⟨some 8, .bin .lss (.t 7) (.c (.v (.int .i64 0))), none⟩,
 ⟨some 9, .mov (.t 8), none⟩,
 ⟨some 10, .mov (.t 1), (some (9, false))⟩,
 ⟨some 11, .mov (.t 0), (some (9, false))⟩,
 ⟨some 12, .len (.t 11), (some (9, false))⟩,
 ⟨some 13, .bin .geq (.t 10) (.t 12), (some (9, false))⟩,
 ⟨some 14, .pick (.t 9) (.c (.v (.bool true))) (.t 13), none⟩] []) <|
 .keep [0, 1, 2, 14] []) <|
 .cond (.t 14) (.seq (.seq (.reg [⟨some 6, .mov (.c (.v (.int .i64 0))), none⟩] []) <|
 .keep [6] []) <|
 .ret) <|
 .skip) <|
 .seq (.seq (.reg [⟨some 15, .mov (.t 0), none⟩,
 ⟨some 16, .mov (.t 1), none⟩,
 ⟨some 17, .ixa 1 (.t 15) (.t 16), none⟩,
 ⟨some 18, .load none (.t 17), none⟩,
 ⟨some 19, .mov (.t 2), none⟩,
 ⟨some 20, .call n_gantryref01_Around [(.t 18), (.t 19)] false, none⟩,
 ⟨some 6, .mov (.t 20), none⟩] []) <|
 .keep [6] []) <|
 .ret, [.t 6]⟩

def slices_MinFunc_api_Point_api_Point_l0 : C :=
 .seq (.seq (.seq (.seq (.reg [⟨some 14, .mov (.t 6), none⟩,
 ⟨some 15, .mov (.t 0), none⟩,
 ⟨some 16, .len (.t 15), none⟩,
 ⟨some 17, .bin .lss (.t 14) (.t 16), none⟩] []) <|
 .keep [0, 1, 4, 5, 6, 17] [[4], [5]]) <|
 .cond (.t 17) (.skip) <|
 .seq (.keep [4, 5] [[4], [5]]) <|
 .exit 0) <|
 .seq (.seq (.blk 1 <|
 .seq (.seq (.reg [⟨some 20, .mov (.t 1), none⟩,
 ⟨some 21, .mov (.t 0), none⟩,
 ⟨some 22, .mov (.t 6), none⟩,
 ⟨some 23, .ixa 2 (.t 21) (.t 22), none⟩,
 ⟨some 24, .load (some 2) (.t 23), none⟩,
 ⟨some 25, .load (some 2) (.t 5), none⟩,
 ⟨some 26, .calv (.t 20) [(.t 24), (.t 25)], none⟩,
 ⟨some 27, .bin .lss (.t 26) (.c (.v (.int .i64 0))), none⟩] []) <|
 .keep [0, 1, 4, 5, 6, 27] [[4], [5]]) <|
 .cond (.t 27) (.seq (.reg [⟨some 28, .mov (.t 0), none⟩,
 ⟨some 29, .mov (.t 6), none⟩,
 ⟨some 30, .ixa 2 (.t 28) (.t 29), none⟩,
 ⟨some 31, .load (some 2) (.t 30), none⟩,
 ⟨none, .store 2 (.t 5) (.t 31), none⟩] []) <|
 .keep [0, 1, 4, 5, 6] [[4], [5]]) <|
 .skip) <|
 .keep [0, 1, 4, 5, 6] [[4], [5]]) <|
 .seq (.reg [⟨some 18, .mov (.t 6), none⟩,
 ⟨some 19, .bin .add (.t 18) (.c (.v (.int .i64 1))), none⟩,
 ⟨some 6, .mov (.t 19), none⟩] []) <|
 .keep [0, 1, 4, 5, 6] [[4], [5]]) <|
 .keep [0, 1, 4, 5, 6] [[4], [5]]
def slices_MinFunc_api_Point_api_Point : CF := ⟨2, .seq (.seq (.reg [⟨some 4, .new [.v (.int .i64 0), .v (.int .i64 0)], none⟩] []) <|
 .keep [0, 1, 4] [[4]]) <|
 .seq (.seq (.seq (.reg [⟨some 7, .mov (.t 0), none⟩,
 ⟨some 8, .len (.t 7), none⟩,
 ⟨some 9, .bin .lss (.t 8) (.c (.v (.int .i64 1))), none⟩] []) <|
 .keep [0, 1, 4, 9] [[4]]) <|
 .cond (.t 9) (.cond (.c (.v (.int .i64 7))) (.skip) <|
 .skip) <|
 .skip) <|
 .seq (.seq (.reg [⟨some 11, .mov (.t 0), none⟩,
 ⟨some 12, .ixa 2 (.t 11) (.c (.v (.int .i64 0))), none⟩,
 ⟨some 13, .load (some 2) (.t 12), none⟩,
 ⟨some 5, .new [.v (.int .i64 0), .v (.int .i64 0)], none⟩,
 ⟨none, .store 2 (.t 5) (.t 13), none⟩] []) <|
 .keep [0, 1, 4, 5] [[4], [5]]) <|
 .seq (.seq (.seq (.reg [⟨some 6, .mov (.c (.v (.int .i64 1))), none⟩] []) <|
 .keep [0, 1, 4, 5, 6] [[4], [5]]) <|
 .seq (.blk 0 <|
 .seq (.keep [0, 1, 4, 5, 6] [[4], [5]]) <|
 .loop slices_MinFunc_api_Point_api_Point_l0) <|
 .keep [4, 5] [[4], [5]]) <|
 .seq (.seq (.reg [⟨some 32, .load (some 2) (.t 5), none⟩,
 ⟨none, .store 2 (.t 4) (.t 32), none⟩] []) <|
 .keep [4] [[4]]) <|
 .ret, [.cell 4 (some 2)]⟩

def convex_Sum_1 : CF := ⟨2, .seq (.seq (.reg [⟨some 2, .box (.t 0), none⟩,
 ⟨some 3, .box (.t 1), none⟩,
 ⟨some 4, .mov (.c (.v (.int .i64 0))), none⟩] []) <|
 .keep [2, 3] [[2], [3]]) <|
 .seq (.seq (.reg [⟨some 5, .fad 1 (.t 2), none⟩,
 ⟨some 6, .load none (.t 5), none⟩,
 ⟨some 7, .fad 1 (.t 3), none⟩,
 ⟨some 8, .load none (.t 7), none⟩,
 ⟨some 9, .call n_cmp_Compare_int [(.t 6), (.t 8)] false, none⟩,
 ⟨some 10, .fad 0 (.t 2), none⟩,
 ⟨some 11, .load none (.t 10), none⟩,
 ⟨some 12, .fad 0 (.t 3), none⟩,
 ⟨some 13, .load none (.t 12), none⟩,
 ⟨some 14, .call n_cmp_Compare_int [(.t 11), (.t 13)] false, none⟩,
 ⟨some 15, .lit 1 2 [.v (.int .i64 0)] [(0, (.t 9)), (1, (.t 14))] true, none⟩,
 ⟨some 16, .call n_cmp_Or_int [(.t 15)] false, none⟩,
 ⟨some 4, .mov (.t 16), none⟩] []) <|
 .keep [4] []) <|
 .ret, [.t 4]⟩

def cmp_Or_int_l0 : C :=
 .seq (.seq (.seq (.reg [⟨some 9, .bin .lss (.t 8) (.t 7), none⟩] []) <|
 .keep [3, 6, 7, 8, 9] []) <|
 .seq (.cond (.t 9) (.skip) <|
 .seq (.keep [3] []) <|
 .exit 0) <|
 .seq (.seq (.blk 1 <|
 .seq (.seq (.reg [⟨some 10, .ixa 1 (.t 6) (.t 8), none⟩,
 ⟨some 11, .load none (.t 10), none⟩,
 ⟨some 5, .mov (.t 11), none⟩] []) <|
 .keep [3, 5, 6, 7, 8] []) <|
 .seq (.seq (.reg [⟨some 12, .mov (.t 5), none⟩,
 ⟨some 13, .mov (.t 3), none⟩,
 ⟨some 14, .bin .neq (.t 12) (.t 13), none⟩] []) <|
 .keep [3, 5, 6, 7, 8, 14] []) <|
 .cond (.t 14) (.seq (.seq (.reg [⟨some 15, .mov (.t 5), none⟩,
 ⟨some 2, .mov (.t 15), none⟩] []) <|
 .keep [2] []) <|
 .ret) <|
 .skip) <|
 .keep [3, 6, 7, 8] []) <|
 .seq (.reg [⟨some 16, .bin .add (.t 8) (.c (.v (.int .i64 1))), none⟩,
 ⟨some 8, .mov (.t 16), none⟩] []) <|
 .keep [3, 6, 7, 8] []) <|
 .keep [3, 6, 7, 8] []
def cmp_Or_int : CF := ⟨1, .seq (.seq (.reg [⟨some 2, .mov (.c (.v (.int .i64 0))), none⟩] []) <|
 .keep [0] []) <|
 .seq (.seq (.reg [⟨some 3, .mov (.c (.v (.int .i64 0))), none⟩] []) <|
 .keep [0, 3] []) <|
 .seq (.seq (.seq (.reg [⟨some 6, .mov (.t 0), none⟩,
 ⟨some 7, .len (.t 6), none⟩,
 ⟨some 8, .mov (.c (.v (.int .i64 0))), none⟩] []) <|
 .keep [3, 6, 7, 8] []) <|
 .seq (.blk 0 <|
 .seq (.keep [3, 6, 7, 8] []) <|
 .loop cmp_Or_int_l0) <|
 .keep [3] []) <|
 .seq (.seq (.reg [⟨some 17, .mov (.t 3), none⟩,
 ⟨some 2, .mov (.t 17), none⟩] []) <|
 .keep [2] []) <|
 .ret, [.t 2]⟩

def cmp_Compare_int : CF := ⟨2, .seq (.seq (.reg [⟨some 4, .mov (.c (.v (.int .i64 0))), none⟩] []) <|
 .keep [0, 1] []) <|
 .seq (.seq (.reg [⟨some 7, .mov (.t 0), none⟩,
 ⟨some 8, .call n_cmp_isNaN_int [(.t 7)] false, none⟩,
 ⟨some 5, .mov (.t 8), none⟩] []) <|
 .keep [0, 1, 5] []) <|
 .seq (.seq (.reg [⟨some 9, .mov (.t 1), none⟩,
 ⟨some 10, .call n_cmp_isNaN_int [(.t 9)] false, none⟩,
 ⟨some 6, .mov (.t 10), none⟩] []) <|
 .keep [0, 1, 5, 6] []) <|
 .seq (.seq (.seq (.reg [⟨some 11, .mov (.t 5), none⟩] []) <|
 .keep [0, 1, 6, 11] []) <|
 .cond (.t 11) (.seq (.seq (.seq (.reg [⟨some 12, .mov (.t 6), none⟩] []) <|
 .keep [12] []) <|
 .cond (.t 12) (.seq (.seq (.reg [⟨some 4, .mov (.c (.v (.int .i64 0))), none⟩] []) <|
 .keep [4] []) <|
 .ret) <|
 .skip) <|
 .seq (.seq (.reg [⟨some 4, .mov (.c (.v (.int .i64 (-1)))), none⟩] []) <|
 .keep [4] []) <|
 .ret) <|
 .skip) <|
 .seq (.seq (.seq (.reg [⟨some 13, .mov (.t 6), none⟩] []) <|
 .keep [0, 1, 13] []) <|
 .cond (.t 13) (.seq (.seq (.reg [⟨some 4, .mov (.c (.v (.int .i64 1))), none⟩] []) <|
 .keep [4] []) <|
 .ret) <|
 .skip) <|
 .seq (.seq (.seq (.reg [⟨some 14, .mov (.t 0), none⟩,
 ⟨some 15, .mov (.t 1), none⟩,
 ⟨some 16, .bin .lss (.t 14) (.t 15), none⟩] []) <|
 .keep [0, 1, 16] []) <|
 .cond (.t 16) (.seq (.seq (.reg [⟨some 4, .mov (.c (.v (.int .i64 (-1)))), none⟩] []) <|
 .keep [4] []) <|
 .ret) <|
 .skip) <|
 .seq (.seq (.seq (.reg [⟨some 17, .mov (.t 0), none⟩,
 ⟨some 18, .mov (.t 1), none⟩,
 ⟨some 19, .bin .gtr (.t 17) (.t 18), none⟩] []) <|
 .keep [19] []) <|
 .cond (.t 19) (.seq (.seq (.reg [⟨some 4, .mov (.c (.v (.int .i64 1))), none⟩] []) <|
 .keep [4] []) <|
 .ret) <|
 .skip) <|
 .seq (.seq (.reg [⟨some 4, .mov (.c (.v (.int .i64 0))), none⟩] []) <|
 .keep [4] []) <|
 .ret, [.t 4]⟩

def convex_cross : CF := ⟨3, .seq (.seq (.reg [⟨some 3, .box (.t 0), none⟩,
 ⟨some 4, .box (.t 1), none⟩,
 ⟨some 5, .box (.t 2), none⟩,
 ⟨some 6, .mov (.c (.v (.int .i64 0))), none⟩] []) <|
 .keep [3, 4, 5] [[3], [4], [5]]) <|
 .seq (.seq (.reg [⟨some 7, .fad 0 (.t 4), none⟩,
 ⟨some 8, .load none (.t 7), none⟩,
 ⟨some 9, .fad 0 (.t 3), none⟩,
 ⟨some 10, .load none (.t 9), none⟩,
 ⟨some 11, .bin .sub (.t 8) (.t 10), none⟩,
 ⟨some 12, .fad 1 (.t 5), none⟩,
 ⟨some 13, .load none (.t 12), none⟩,
 ⟨some 14, .fad 1 (.t 3), none⟩,
 ⟨some 15, .load none (.t 14), none⟩,
 ⟨some 16, .bin .sub (.t 13) (.t 15), none⟩,
 ⟨some 17, .bin .mul (.t 11) (.t 16), none⟩,
 ⟨some 18, .fad 1 (.t 4), none⟩,
 ⟨some 19, .load none (.t 18), none⟩,
 ⟨some 20, .fad 1 (.t 3), none⟩,
 ⟨some 21, .load none (.t 20), none⟩,
 ⟨some 22, .bin .sub (.t 19) (.t 21), none⟩,
 ⟨some 23, .fad 0 (.t 5), none⟩,
 ⟨some 24, .load none (.t 23), none⟩,
 ⟨some 25, .fad 0 (.t 3), none⟩,
 ⟨some 26, .load none (.t 25), none⟩,
 ⟨some 27, .bin .sub (.t 24) (.t 26), none⟩,
 ⟨some 28, .bin .mul (.t 22) (.t 27), none⟩,
 ⟨some 29, .bin .sub (.t 17) (.t 28), none⟩,
 ⟨some 6, .mov (.t 29), none⟩] []) <|
 .keep [6] []) <|
 .ret, [.t 6]⟩

def convex_far : CF := ⟨2, .seq (.seq (.reg [⟨some 2, .box (.t 0), none⟩,
 ⟨some 3, .box (.t 1), none⟩,
 ⟨some 4, .mov (.c (.v (.int .i64 0))), none⟩] []) <|
 .keep [2, 3] [[2], [3]]) <|
 .seq (.seq (.reg [⟨some 5, .fad 0 (.t 2), none⟩,
 ⟨some 6, .load none (.t 5), none⟩,
 ⟨some 7, .fad 0 (.t 3), none⟩,
 ⟨some 8, .load none (.t 7), none⟩,
 ⟨some 9, .bin .sub (.t 6) (.t 8), none⟩,
 ⟨some 10, .fad 0 (.t 2), none⟩,
 ⟨some 11, .load none (.t 10), none⟩,
 ⟨some 12, .fad 0 (.t 3), none⟩,
 ⟨some 13, .load none (.t 12), none⟩,
 ⟨some 14, .bin .sub (.t 11) (.t 13), none⟩,
 ⟨some 15, .bin .mul (.t 9) (.t 14), none⟩,
 ⟨some 16, .fad 1 (.t 2), none⟩,
 ⟨some 17, .load none (.t 16), none⟩,
 ⟨some 18, .fad 1 (.t 3), none⟩,
 ⟨some 19, .load none (.t 18), none⟩,
 ⟨some 20, .bin .sub (.t 17) (.t 19), none⟩,
 ⟨some 21, .fad 1 (.t 2), none⟩,
 ⟨some 22, .load none (.t 21), none⟩,
 ⟨some 23, .fad 1 (.t 3), none⟩,
 ⟨some 24, .load none (.t 23), none⟩,
 ⟨some 25, .bin .sub (.t 22) (.t 24), none⟩,
 ⟨some 26, .bin .mul (.t 20) (.t 25), none⟩,
 ⟨some 27, .bin .add (.t 15) (.t 26), none⟩,
 ⟨some 4, .mov (.t 27), none⟩] []) <|
 .keep [4] []) <|
 .ret, [.t 4]⟩

def gantryref12_Left : CF := ⟨3, .seq (.seq (.reg [⟨some 3, .box (.t 0), none⟩,
 ⟨some 4, .box (.t 1), none⟩,
 ⟨some 5, .box (.t 2), none⟩,
 ⟨some 6, .mov (.c (.v (.int .i64 0))), none⟩] []) <|
 .keep [3, 4, 5] [[3], [4], [5]]) <|
 .seq (.seq (.reg [⟨some 7, .fad 0 (.t 4), none⟩,
 ⟨some 8, .load none (.t 7), none⟩,
 ⟨some 9, .fad 0 (.t 3), none⟩,
 ⟨some 10, .load none (.t 9), none⟩,
 ⟨some 11, .bin .sub (.t 8) (.t 10), none⟩,
 ⟨some 12, .fad 1 (.t 5), none⟩,
 ⟨some 13, .load none (.t 12), none⟩,
 ⟨some 14, .fad 1 (.t 3), none⟩,
 ⟨some 15, .load none (.t 14), none⟩,
 ⟨some 16, .bin .sub (.t 13) (.t 15), none⟩,
 ⟨some 17, .bin .mul (.t 11) (.t 16), none⟩,
 ⟨some 18, .fad 1 (.t 4), none⟩,
 ⟨some 19, .load none (.t 18), none⟩,
 ⟨some 20, .fad 1 (.t 3), none⟩,
 ⟨some 21, .load none (.t 20), none⟩,
 ⟨some 22, .bin .sub (.t 19) (.t 21), none⟩,
 ⟨some 23, .fad 0 (.t 5), none⟩,
 ⟨some 24, .load none (.t 23), none⟩,
 ⟨some 25, .fad 0 (.t 3), none⟩,
 ⟨some 26, .load none (.t 25), none⟩,
 ⟨some 27, .bin .sub (.t 24) (.t 26), none⟩,
 ⟨some 28, .bin .mul (.t 22) (.t 27), none⟩,
 ⟨some 29, .bin .sub (.t 17) (.t 28), none⟩,
 ⟨some 6, .mov (.t 29), none⟩] []) <|
 .keep [6] []) <|
 .ret, [.t 6]⟩

def convex_next : CF := ⟨2, .seq (.seq (.reg [⟨some 4, .new [.v (.int .i64 0), .v (.int .i64 0)], none⟩] []) <|
 .keep [0, 1, 4] [[4]]) <|
 .seq (.seq (.reg [⟨some 5, .mov (.t 0), none⟩,
 ⟨some 6, .mov (.t 1), none⟩,
 ⟨some 7, .bin .add (.t 6) (.c (.v (.int .i64 1))), none⟩,
 ⟨some 8, .mov (.t 0), none⟩,
 ⟨some 9, .len (.t 8), none⟩,
 ⟨some 10, .bin .rem (.t 7) (.t 9), none⟩,
 ⟨some 11, .ixa 2 (.t 5) (.t 10), none⟩,
 ⟨some 12, .load (some 2) (.t 11), none⟩,
 ⟨none, .store 2 (.t 4) (.t 12), none⟩] []) <|
 .keep [4] [[4]]) <|
 .ret, [.cell 4 (some 2)]⟩

def rat_Mul : CF := ⟨2, .seq (.seq (.reg [⟨some 2, .box (.t 0), none⟩,
 ⟨some 3, .box (.t 1), none⟩,
 ⟨some 4, .new [.v (.bool false), .z true, .v (.bool false), .z true], none⟩] []) <|
 .keep [2, 3, 4] [[2], [3], [4]]) <|
 .seq (.seq (.seq (.reg [⟨some 7, .fad 0 (.t 2), none⟩,
 ⟨some 8, .fad 1 (.t 7), none⟩,
 ⟨some 9, .load none (.t 8), none⟩,
 ⟨some 10, .len (.t 9), none⟩,
 ⟨some 11, .bin .eql (.t 10) (.c (.v (.int .i64 0))), none⟩,
 ⟨some 12, .mov (.t 11), none⟩,
 ⟨some 13, .fad 0 (.t 3), (some (12, false))⟩,
 ⟨some 14, .fad 1 (.t 13), (some (12, false))⟩,
 ⟨some 15, .load none (.t 14), (some (12, false))⟩,
 ⟨some 16, .len (.t 15), (some (12, false))⟩,
 ⟨some 17, .bin .eql (.t 16) (.c (.v (.int .i64 0))), (some (12, false))⟩,
 ⟨some 18, .pick (.t 12) (.c (.v (.bool true))) (.t 17), none⟩] []) <|
 .keep [2, 3, 4, 18] [[2], [3], [4]]) <|
 .cond (.t 18) (.seq (.seq (.reg [⟨some 19, .build [.v (.bool false), .z true, .v (.bool false), .z true] [], none⟩,
 ⟨none, .store 4 (.t 4) (.t 19), none⟩] []) <|
 .keep [4] [[4]]) <|
 .ret) <|
 .skip) <|
 .seq (.seq (.seq (.reg [⟨some 20, .fad 2 (.t 2), none⟩,
 ⟨some 21, .fad 1 (.t 20), none⟩,
 ⟨some 22, .load none (.t 21), none⟩,
 ⟨some 23, .len (.t 22), none⟩,
 ⟨some 24, .bin .eql (.t 23) (.c (.v (.int .i64 0))), none⟩,
 ⟨some 25, .mov (.t 24), none⟩,
 ⟨some 26, .fad 2 (.t 3), (some (25, true))⟩,
 ⟨some 27, .fad 1 (.t 26), (some (25, true))⟩,
 ⟨some 28, .load none (.t 27), (some (25, true))⟩,
 ⟨some 29, .len (.t 28), (some (25, true))⟩,
 ⟨some 30, .bin .eql (.t 29) (.c (.v (.int .i64 0))), (some (25, true))⟩,
 ⟨some 31, .pick (.t 25) (.t 30) (.c (.v (.bool false))), none⟩] []) <|
 .keep [2, 3, 4, 31] [[2], [3], [4]]) <|
 .cond (.t 31) (.seq (.seq (.reg [⟨some 32, .fad 0 (.t 2), none⟩,
 ⟨some 33, .load (some 2) (.t 32), none⟩,
 ⟨some 34, .fad 0 (.t 3), none⟩,
 ⟨some 35, .load (some 2) (.t 34), none⟩,
 ⟨some 36, .call n_integer_Mul [(.t 33), (.t 35)] false, none⟩,
 ⟨some 37, .build [.v (.bool false), .z true, .v (.bool false), .z true] [(0, 2, (.t 36))], none⟩,
 ⟨none, .store 4 (.t 4) (.t 37), none⟩] []) <|
 .keep [4] [[4]]) <|
 .ret) <|
 .skip) <|
 .seq (.seq (.reg [⟨some 38, .fad 0 (.t 2), none⟩,
 ⟨some 39, .load (some 2) (.t 38), none⟩,
 ⟨some 40, .load (some 4) (.t 3), none⟩,
 ⟨some 41, .call n_rat_Den [(.t 40)] false, none⟩,
 ⟨some 42, .call n_rat_Make [(.t 39), (.t 41)] false, none⟩,
 ⟨some 43, .fad 0 (.t 3), none⟩,
 ⟨some 44, .load (some 2) (.t 43), none⟩,
 ⟨some 45, .load (some 4) (.t 2), none⟩,
 ⟨some 46, .call n_rat_Den [(.t 45)] false, none⟩,
 ⟨some 47, .call n_rat_Make [(.t 44), (.t 46)] false, none⟩,
 ⟨some 5, .new [.v (.bool false), .z true, .v (.bool false), .z true], none⟩,
 ⟨some 6, .new [.v (.bool false), .z true, .v (.bool false), .z true], none⟩,
 ⟨none, .store 4 (.t 5) (.t 42), none⟩,
 ⟨none, .store 4 (.t 6) (.t 47), none⟩] []) <|
 .keep [4, 5, 6] [[4], [5], [6]]) <|
 .seq (.seq (.reg [⟨some 48, .fad 0 (.t 5), none⟩,
 ⟨some 49, .load (some 2) (.t 48), none⟩,
 ⟨some 50, .fad 0 (.t 6), none⟩,
 ⟨some 51, .load (some 2) (.t 50), none⟩,
 ⟨some 52, .call n_integer_Mul [(.t 49), (.t 51)] false, none⟩,
 ⟨some 53, .load (some 4) (.t 5), none⟩,
 ⟨some 54, .call n_rat_Den [(.t 53)] false, none⟩,
 ⟨some 55, .load (some 4) (.t 6), none⟩,
 ⟨some 56, .call n_rat_Den [(.t 55)] false, none⟩,
 ⟨some 57, .call n_integer_Mul [(.t 54), (.t 56)] false, none⟩,
 ⟨some 58, .call n_rat_lowest [(.t 52), (.t 57)] false, none⟩,
 ⟨none, .store 4 (.t 4) (.t 58), none⟩] []) <|
 .keep [4] [[4]]) <|
 .ret, [.cell 4 (some 4)]⟩

def gantryref05_Sub : CF := ⟨2, .seq (.seq (.reg [⟨some 2, .box (.t 0), none⟩,
 ⟨some 3, .box (.t 1), none⟩,
 ⟨some 4, .new [.v (.bool false), .z true, .v (.bool false), .z true], none⟩] []) <|
 .keep [2, 3, 4] [[2], [3], [4]]) <|
 .seq (.seq (.reg [⟨some 5, .load (some 4) (.t 2), none⟩,
 ⟨some 6, .load (some 4) (.t 3), none⟩,
 ⟨some 7, .call n_gantryref05_Neg [(.t 6)] false, none⟩,
 ⟨some 8, .call n_gantryref05_Add [(.t 5), (.t 7)] false, none⟩,
 ⟨none, .store 4 (.t 4) (.t 8), none⟩] []) <|
 .keep [4] [[4]]) <|
 .ret, [.cell 4 (some 4)]⟩

def gantryref05_Mul : CF := ⟨2, .seq (.seq (.reg [⟨some 2, .box (.t 0), none⟩,
 ⟨some 3, .box (.t 1), none⟩,
 ⟨some 4, .new [.v (.bool false), .z true, .v (.bool false), .z true], none⟩] []) <|
 .keep [2, 3, 4] [[2], [3], [4]]) <|
 .seq (.seq (.reg [⟨some 5, .fad 0 (.t 2), none⟩,
 ⟨some 6, .load (some 2) (.t 5), none⟩,
 ⟨some 7, .fad 0 (.t 3), none⟩,
 ⟨some 8, .load (some 2) (.t 7), none⟩,
 ⟨some 9, .call n_gantryref04_Mul [(.t 6), (.t 8)] false, none⟩,
 ⟨some 10, .load (some 4) (.t 2), none⟩,
 ⟨some 11, .call n_gantryref05_Den [(.t 10)] false, none⟩,
 ⟨some 12, .load (some 4) (.t 3), none⟩,
 ⟨some 13, .call n_gantryref05_Den [(.t 12)] false, none⟩,
 ⟨some 14, .call n_gantryref04_Mul [(.t 11), (.t 13)] false, none⟩,
 ⟨some 15, .call n_gantryref05_Make [(.t 9), (.t 14)] false, none⟩,
 ⟨none, .store 4 (.t 4) (.t 15), none⟩] []) <|
 .keep [4] [[4]]) <|
 .ret, [.cell 4 (some 4)]⟩

def gantryref05_Sign : CF := ⟨1, .seq (.seq (.reg [⟨some 1, .box (.t 0), none⟩,
 ⟨some 2, .mov (.c (.v (.int .i64 0))), none⟩] []) <|
 .keep [1] [[1]]) <|
 .seq (.seq (.reg [⟨some 3, .fad 0 (.t 1), none⟩,
 ⟨some 4, .load (some 2) (.t 3), none⟩,
 ⟨some 5, .call n_gantryref04_Sign [(.t 4)] false, none⟩,
 ⟨some 2, .mov (.t 5), none⟩] []) <|
 .keep [2] []) <|
 .ret, [.t 2]⟩

def convex_Sides_1 : CF := ⟨4, .seq (.seq (.reg [⟨some 4, .box (.t 0), none⟩] []) <|
 .keep [1, 2, 3, 4] [[4]]) <|
 .seq (.seq (.reg [⟨some 5, .load none (.t 1), none⟩,
 ⟨some 6, .mkfn n_convex_Sides_1_1 [(.t 4)] true, none⟩,
 ⟨some 7, .call n_slices_ContainsFunc_api_Edge_api_Edge [(.t 5), (.t 6)] false, none⟩,
 ⟨some 8, .un .not (.t 7), none⟩] []) <|
 .keep [1, 2, 3, 4, 8] [[4]]) <|
 .cond (.t 8) (.seq (.reg [⟨some 9, .load none (.t 1), none⟩,
 ⟨some 10, .load (some 3) (.t 4), none⟩,
 ⟨some 11, .load none (.t 2), none⟩,
 ⟨some 12, .load (some 3) (.t 4), none⟩,
 ⟨some 13, .call n_convex_Most [(.t 11), (.t 12)] false, none⟩,
 ⟨some 14, .load none (.t 3), none⟩,
 ⟨some 15, .load (some 3) (.t 4), none⟩,
 ⟨some 16, .call n_convex_turned [(.t 15)] false, none⟩,
 ⟨some 17, .call n_convex_Most [(.t 14), (.t 16)] false, none⟩,
 ⟨some 18, .bin .add (.t 13) (.t 17), none⟩,
 ⟨some 19, .build [.v (.int .i64 0), .v (.int .i64 0), .v (.int .i64 0), .v (.int .i64 0)] [(0, 3, (.t 10)), (3, 1, (.t 18))], none⟩,
 ⟨some 20, .lit 4 1 [.v (.int .i64 0), .v (.int .i64 0), .v (.int .i64 0), .v (.int .i64 0)] [(0, (.t 19))] true, none⟩,
 ⟨some 21, .app 4 32 (.t 9) (.t 20) false, none⟩,
 ⟨none, .store 1 (.t 1) (.t 21), none⟩] []) <|
 .keep [] []) <|
 .skip, []⟩

def slices_ContainsFunc_api_Edge_api_Edge : CF := ⟨2, .seq (.seq (.reg [⟨some 4, .mov (.c (.v (.bool false))), none⟩] []) <|
 .keep [0, 1] []) <|
 .seq (.seq (.reg [⟨some 5, .mov (.t 0), none⟩,
 ⟨some 6, .mov (.t 1), none⟩,
 ⟨some 7, .call n_slices_IndexFunc_api_Edge_api_Edge [(.t 5), (.t 6)] false, none⟩,
 ⟨some 8, .bin .geq (.t 7) (.c (.v (.int .i64 0))), none⟩,
 ⟨some 4, .mov (.t 8), none⟩] []) <|
 .keep [4] []) <|
 .ret, [.t 4]⟩

def convex_Sides_1_1 : CF := ⟨2, .seq (.seq (.reg [⟨some 2, .box (.t 0), none⟩,
 ⟨some 3, .mov (.c (.v (.bool false))), none⟩] []) <|
 .keep [1, 2] [[2]]) <|
 .seq (.seq (.reg [⟨some 4, .fad 0 (.t 2), none⟩,
 ⟨some 5, .load (some 3) (.t 4), none⟩,
 ⟨some 6, .load (some 3) (.t 1), none⟩,
 ⟨some 7, .eqs 3 false (.t 5) (.t 6), none⟩,
 ⟨some 3, .mov (.t 7), none⟩] []) <|
 .keep [3] []) <|
 .ret, [.t 3]⟩

def convex_turned : CF := ⟨1, .seq (.seq (.reg [⟨some 1, .box (.t 0), none⟩,
 ⟨some 2, .new [.v (.int .i64 0), .v (.int .i64 0), .v (.int .i64 0)], none⟩] []) <|
 .keep [1, 2] [[1], [2]]) <|
 .seq (.seq (.reg [⟨some 3, .fad 0 (.t 1), none⟩,
 ⟨some 4, .load none (.t 3), none⟩,
 ⟨some 5, .un .neg (.t 4), none⟩,
 ⟨some 6, .fad 1 (.t 1), none⟩,
 ⟨some 7, .load none (.t 6), none⟩,
 ⟨some 8, .un .neg (.t 7), none⟩,
 ⟨some 9, .fad 2 (.t 1), none⟩,
 ⟨some 10, .load none (.t 9), none⟩,
 ⟨some 11, .build [.v (.int .i64 0), .v (.int .i64 0), .v (.int .i64 0)] [(0, 1, (.t 5)), (1, 1, (.t 8)), (2, 1, (.t 10))], none⟩,
 ⟨none, .store 3 (.t 2) (.t 11), none⟩] []) <|
 .keep [2] [[2]]) <|
 .ret, [.cell 2 (some 3)]⟩

def rat_Sign : CF := ⟨1, .seq (.seq (.reg [⟨some 1, .box (.t 0), none⟩,
 ⟨some 2, .mov (.c (.v (.int .i64 0))), none⟩] []) <|
 .keep [1] [[1]]) <|
 .seq (.seq (.reg [⟨some 3, .fad 0 (.t 1), none⟩,
 ⟨some 4, .load (some 2) (.t 3), none⟩,
 ⟨some 5, .call n_integer_Sign [(.t 4)] false, none⟩,
 ⟨some 2, .mov (.t 5), none⟩] []) <|
 .keep [2] []) <|
 .ret, [.t 2]⟩

def integer_Compare : CF := ⟨2, .seq (.seq (.reg [⟨some 2, .box (.t 0), none⟩,
 ⟨some 3, .box (.t 1), none⟩,
 ⟨some 4, .mov (.c (.v (.int .i64 0))), none⟩] []) <|
 .keep [2, 3] [[2], [3]]) <|
 .seq (.seq (.blk 0 <|
 .seq (.seq (.reg [⟨some 6, .fad 0 (.t 2), none⟩,
 ⟨some 7, .load none (.t 6), none⟩,
 ⟨some 8, .fad 0 (.t 3), none⟩,
 ⟨some 9, .load none (.t 8), none⟩,
 ⟨some 10, .binb true (.t 7) (.t 9), none⟩,
 ⟨some 11, .mov (.t 10), none⟩,
 ⟨some 12, .fad 0 (.t 2), (some (11, true))⟩,
 ⟨some 13, .load none (.t 12), (some (11, true))⟩,
 ⟨some 14, .pick (.t 11) (.t 13) (.c (.v (.bool false))), none⟩,
 ⟨some 5, .mov (.t 14), none⟩] []) <|
 .keep [2, 3, 5] [[2], [3]]) <|
 .cond (.t 5) (.seq (.seq (.reg [⟨some 4, .mov (.c (.v (.int .i64 (-1)))), none⟩] []) <|
 .keep [4] []) <|
 .ret) <|
 .seq (.seq (.reg [⟨some 16, .fad 0 (.t 2), none⟩,
 ⟨some 17, .load none (.t 16), none⟩,
 ⟨some 18, .fad 0 (.t 3), none⟩,
 ⟨some 19, .load none (.t 18), none⟩,
 ⟨some 20, .binb true (.t 17) (.t 19), none⟩,
 ⟨some 15, .mov (.t 20), none⟩] []) <|
 .keep [2, 3, 15] [[2], [3]]) <|
 .cond (.t 15) (.seq (.seq (.reg [⟨some 4, .mov (.c (.v (.int .i64 1))), none⟩] []) <|
 .keep [4] []) <|
 .ret) <|
 .seq (.seq (.reg [⟨some 22, .fad 0 (.t 2), none⟩,
 ⟨some 23, .load none (.t 22), none⟩,
 ⟨some 21, .mov (.t 23), none⟩] []) <|
 .keep [2, 3, 21] [[2], [3]]) <|
 .cond (.t 21) (.seq (.seq (.reg [⟨some 24, .fad 1 (.t 3), none⟩,
 ⟨some 25, .load none (.t 24), none⟩,
 ⟨some 26, .fad 1 (.t 2), none⟩,
 ⟨some 27, .load none (.t 26), none⟩,
 ⟨some 28, .call n_integer_compare [(.t 25), (.t 27)] false, none⟩,
 ⟨some 4, .mov (.t 28), none⟩] []) <|
 .keep [4] []) <|
 .ret) <|
 .skip) <|
 .keep [2, 3] [[2], [3]]) <|
 .seq (.seq (.reg [⟨some 29, .fad 1 (.t 2), none⟩,
 ⟨some 30, .load none (.t 29), none⟩,
 ⟨some 31, .fad 1 (.t 3), none⟩,
 ⟨some 32, .load none (.t 31), none⟩,
 ⟨some 33, .call n_integer_compare [(.t 30), (.t 32)] false, none⟩,
 ⟨some 4, .mov (.t 33), none⟩] []) <|
 .keep [4] []) <|
 .ret, [.t 4]⟩

def integer_Of : CF := ⟨1, .seq (.seq (.reg [⟨some 2, .new [.v (.bool false), .z true], none⟩] []) <|
 .keep [0, 2] [[2]]) <|
 .seq (.seq (.reg [⟨some 4, .mov (.t 0), none⟩,
 ⟨some 5, .conv (.int .u64) (.t 4), none⟩,
 ⟨some 3, .mov (.t 5), none⟩] []) <|
 .keep [0, 2, 3] [[2]]) <|
 .seq (.seq (.seq (.reg [⟨some 6, .mov (.t 0), none⟩,
 ⟨some 7, .bin .lss (.t 6) (.c (.v (.int .i64 0))), none⟩] []) <|
 .keep [0, 2, 3, 7] [[2]]) <|
 .cond (.t 7) (.seq (.reg [⟨some 8, .mov (.t 3), none⟩,
 ⟨some 9, .un .neg (.t 8), none⟩,
 ⟨some 3, .mov (.t 9), none⟩] []) <|
 .keep [0, 2, 3] [[2]]) <|
 .skip) <|
 .seq (.seq (.reg [⟨some 10, .mov (.t 0), none⟩,
 ⟨some 11, .bin .lss (.t 10) (.c (.v (.int .i64 0))), none⟩,
 ⟨some 12, .mov (.t 3), none⟩,
 ⟨some 13, .call n_integer_unsigned [(.t 11), (.t 12)] false, none⟩,
 ⟨none, .store 2 (.t 2) (.t 13), none⟩] []) <|
 .keep [2] [[2]]) <|
 .ret, [.cell 2 (some 2)]⟩

def integer_Mul_l0 : C :=
 .seq (.seq (.seq (.reg [⟨some 57, .bin .lss (.t 56) (.t 55), none⟩] []) <|
 .keep [2, 3, 4, 6, 7, 8, 9, 10, 47, 48, 49, 54, 55, 56, 57] [[2], [3], [4], [46]]) <|
 .seq (.cond (.t 57) (.skip) <|
 .seq (.keep [2, 3, 4, 6, 7, 8, 10, 47, 48, 49] [[2], [3], [4], [46]]) <|
 .exit 2) <|
 .seq (.seq (.blk 3 <|
 .seq (.seq (.reg [⟨some 58, .mov (.t 56), none⟩,
 ⟨some 59, .ixa 1 (.t 54) (.t 56), none⟩,
 ⟨some 60, .load none (.t 59), none⟩,
 ⟨some 11, .mov (.t 58), none⟩,
 ⟨some 12, .mov (.t 60), none⟩] []) <|
 .keep [2, 3, 4, 6, 7, 8, 9, 10, 11, 12, 47, 48, 49, 54, 55, 56] [[2], [3], [4], [46]]) <|
 .seq (.seq (.reg [⟨some 61, .mov (.t 7), none⟩,
 ⟨some 62, .mov (.t 8), none⟩,
 ⟨some 63, .mov (.t 11), none⟩,
 ⟨some 64, .bin .add (.t 62) (.t 63), none⟩,
 ⟨some 65, .ixa 1 (.t 61) (.t 64), none⟩,
 ⟨some 66, .load none (.t 65), none⟩,
 ⟨some 67, .mov (.t 9), none⟩,
 ⟨some 68, .mov (.t 12), none⟩,
 ⟨some 69, .bin .mul (.t 67) (.t 68), none⟩,
 ⟨some 70, .bin .add (.t 66) (.t 69), none⟩,
 ⟨some 71, .mov (.t 10), none⟩,
 ⟨some 72, .bin .add (.t 70) (.t 71), none⟩,
 ⟨some 13, .mov (.t 72), none⟩] []) <|
 .keep [2, 3, 4, 6, 7, 8, 9, 11, 13, 47, 48, 49, 54, 55, 56] [[2], [3], [4], [46]]) <|
 .seq (.seq (.reg [⟨some 73, .mov (.t 13), none⟩,
 ⟨some 74, .bin .quo (.t 73) (.c (.v (.int .i64 1000000000))), none⟩,
 ⟨some 10, .mov (.t 74), none⟩] []) <|
 .keep [2, 3, 4, 6, 7, 8, 9, 10, 11, 13, 47, 48, 49, 54, 55, 56] [[2], [3], [4], [46]]) <|
 .seq (.reg [⟨some 75, .mov (.t 7), none⟩,
 ⟨some 76, .mov (.t 8), none⟩,
 ⟨some 77, .mov (.t 11), none⟩,
 ⟨some 78, .bin .add (.t 76) (.t 77), none⟩,
 ⟨some 79, .mov (.t 13), none⟩,
 ⟨some 80, .mov (.t 10), none⟩,
 ⟨some 81, .bin .mul (.t 80) (.c (.v (.int .i64 1000000000))), none⟩,
 ⟨some 82, .bin .sub (.t 79) (.t 81), none⟩,
 ⟨some 83, .ixa 1 (.t 75) (.t 78), none⟩,
 ⟨none, .store 1 (.t 83) (.t 82), none⟩] []) <|
 .keep [2, 3, 4, 6, 7, 8, 9, 10, 47, 48, 49, 54, 55, 56] [[2], [3], [4], [46]]) <|
 .keep [2, 3, 4, 6, 7, 8, 9, 10, 47, 48, 49, 54, 55, 56] [[2], [3], [4], [46]]) <|
 .seq (.reg [⟨some 84, .bin .add (.t 56) (.c (.v (.int .i64 1))), none⟩,
 ⟨some 56, .mov (.t 84), none⟩] []) <|
 .keep [2, 3, 4, 6, 7, 8, 9, 10, 47, 48, 49, 54, 55, 56] [[2], [3], [4], [46]]) <|
 .keep [2, 3, 4, 6, 7, 8, 9, 10, 47, 48, 49, 54, 55, 56] [[2], [3], [4], [46]]
def integer_Mul_l1 : C :=
 .seq (.seq (.seq (.reg [⟨some 50, .bin .lss (.t 49) (.t 48), none⟩] []) <|
 .keep [2, 3, 4, 6, 7, 47, 48, 49, 50] [[2], [3], [4], [46]]) <|
 .seq (.cond (.t 50) (.skip) <|
 .seq (.keep [2, 3, 4, 7] [[2], [3], [4], [46]]) <|
 .exit 0) <|
 .seq (.seq (.blk 1 <|
 .seq (.seq (.reg [⟨some 51, .mov (.t 49), none⟩,
 ⟨some 52, .ixa 1 (.t 47) (.t 49), none⟩,
 ⟨some 53, .load none (.t 52), none⟩,
 ⟨some 8, .mov (.t 51), none⟩,
 ⟨some 9, .mov (.t 53), none⟩] []) <|
 .keep [2, 3, 4, 6, 7, 8, 9, 47, 48, 49] [[2], [3], [4], [46]]) <|
 .seq (.seq (.reg [⟨some 10, .mov (.c (.v (.int .i64 0))), none⟩] []) <|
 .keep [2, 3, 4, 6, 7, 8, 9, 10, 47, 48, 49] [[2], [3], [4], [46]]) <|
 .seq (.seq (.seq (.reg [⟨some 54, .mov (.t 6), none⟩,
 ⟨some 55, .len (.t 54), none⟩,
 ⟨some 56, .mov (.c (.v (.int .i64 0))), none⟩] []) <|
 .keep [2, 3, 4, 6, 7, 8, 9, 10, 47, 48, 49, 54, 55, 56] [[2], [3], [4], [46]]) <|
 .seq (.blk 2 <|
 .seq (.keep [2, 3, 4, 6, 7, 8, 9, 10, 47, 48, 49, 54, 55, 56] [[2], [3], [4], [46]]) <|
 .loop integer_Mul_l0) <|
 .keep [2, 3, 4, 6, 7, 8, 10, 47, 48, 49] [[2], [3], [4], [46]]) <|
 .seq (.reg [⟨some 85, .mov (.t 7), none⟩,
 ⟨some 86, .mov (.t 8), none⟩,
 ⟨some 87, .mov (.t 6), none⟩,
 ⟨some 88, .len (.t 87), none⟩,
 ⟨some 89, .bin .add (.t 86) (.t 88), none⟩,
 ⟨some 90, .mov (.t 10), none⟩,
 ⟨some 91, .ixa 1 (.t 85) (.t 89), none⟩,
 ⟨none, .store 1 (.t 91) (.t 90), none⟩] []) <|
 .keep [2, 3, 4, 6, 7, 47, 48, 49] [[2], [3], [4], [46]]) <|
 .keep [2, 3, 4, 6, 7, 47, 48, 49] [[2], [3], [4], [46]]) <|
 .seq (.reg [⟨some 92, .bin .add (.t 49) (.c (.v (.int .i64 1))), none⟩,
 ⟨some 49, .mov (.t 92), none⟩] []) <|
 .keep [2, 3, 4, 6, 7, 47, 48, 49] [[2], [3], [4], [46]]) <|
 .keep [2, 3, 4, 6, 7, 47, 48, 49] [[2], [3], [4], [46]]
def integer_Mul : CF := ⟨2, .seq (.seq (.reg [⟨some 2, .box (.t 0), none⟩,
 ⟨some 3, .box (.t 1), none⟩,
 ⟨some 4, .new [.v (.bool false), .z true], none⟩] []) <|
 .keep [2, 3, 4] [[2], [3], [4]]) <|
 .seq (.seq (.reg [⟨some 14, .fad 1 (.t 2), none⟩,
 ⟨some 15, .load none (.t 14), none⟩,
 ⟨some 16, .fad 1 (.t 3), none⟩,
 ⟨some 17, .load none (.t 16), none⟩,
 ⟨some 5, .mov (.t 15), none⟩,
 ⟨some 6, .mov (.t 17), none⟩] []) <|
 .keep [2, 3, 4, 5, 6] [[2], [3], [4]]) <|
 .seq (.seq (.seq (.reg [⟨some 18, .mov (.t 5), none⟩,
 ⟨some 19, .len (.t 18), none⟩,
 ⟨some 20, .bin .eql (.t 19) (.c (.v (.int .i64 1))), none⟩,
 ⟨some 21, .mov (.t 20), none⟩,
 ⟨some 22, .mov (.t 6), (some (21, true))⟩,
 ⟨some 23, .len (.t 22), (some (21, true))⟩,
 ⟨some 24, .bin .eql (.t 23) (.c (.v (.int .i64 1))), (some (21, true))⟩,
 ⟨some 25, .pick (.t 21) (.t 24) (.c (.v (.bool false))), none⟩] []) <|
 .keep [2, 3, 4, 5, 6, 25] [[2], [3], [4]]) <|
 .cond (.t 25) (.seq (.seq (.reg [⟨some 26, .fad 0 (.t 2), none⟩,
 ⟨some 27, .load none (.t 26), none⟩,
 ⟨some 28, .fad 0 (.t 3), none⟩,
 ⟨some 29, .load none (.t 28), none⟩,
 ⟨some 30, .binb true (.t 27) (.t 29), none⟩,
 ⟨some 31, .mov (.t 5), none⟩,
 ⟨some 32, .ixa 1 (.t 31) (.c (.v (.int .i64 0))), none⟩,
 ⟨some 33, .load none (.t 32), none⟩,
 ⟨some 34, .conv (.int .u64) (.t 33), none⟩,
 ⟨some 35, .mov (.t 6), none⟩,
 ⟨some 36, .ixa 1 (.t 35) (.c (.v (.int .i64 0))), none⟩,
 ⟨some 37, .load none (.t 36), none⟩,
 ⟨some 38, .conv (.int .u64) (.t 37), none⟩,
 ⟨some 39, .bin .mul (.t 34) (.t 38), none⟩,
 ⟨some 40, .call n_integer_unsigned [(.t 30), (.t 39)] false, none⟩,
 ⟨none, .store 2 (.t 4) (.t 40), none⟩] []) <|
 .keep [4] [[4]]) <|
 .ret) <|
 .skip) <|
 .seq (.seq (.reg [⟨some 41, .mov (.t 5), none⟩,
 ⟨some 42, .len (.t 41), none⟩,
 ⟨some 43, .mov (.t 6), none⟩,
 ⟨some 44, .len (.t 43), none⟩,
 ⟨some 45, .bin .add (.t 42) (.t 44), none⟩,
 ⟨some 46, .mksl 1 8 [.v (.int .i64 0)] (.t 45) (.t 45), none⟩,
 ⟨some 7, .mov (.t 46), none⟩] []) <|
 .keep [2, 3, 4, 5, 6, 7] [[2], [3], [4], [46]]) <|
 .seq (.seq (.seq (.reg [⟨some 47, .mov (.t 5), none⟩,
 ⟨some 48, .len (.t 47), none⟩,
 ⟨some 49, .mov (.c (.v (.int .i64 0))), none⟩] []) <|
 .keep [2, 3, 4, 6, 7, 47, 48, 49] [[2], [3], [4], [46]]) <|
 .seq (.blk 0 <|
 .seq (.keep [2, 3, 4, 6, 7, 47, 48, 49] [[2], [3], [4], [46]]) <|
 .loop integer_Mul_l1) <|
 .keep [2, 3, 4, 7] [[2], [3], [4], [46]]) <|
 .seq (.seq (.frz 7) <|
 .seq (.reg [⟨some 93, .fad 0 (.t 2), none⟩,
 ⟨some 94, .load none (.t 93), none⟩,
 ⟨some 95, .fad 0 (.t 3), none⟩,
 ⟨some 96, .load none (.t 95), none⟩,
 ⟨some 97, .binb true (.t 94) (.t 96), none⟩,
 ⟨some 98, .mov (.t 7), none⟩,
 ⟨some 99, .call n_integer_of [(.t 97), (.t 98)] false, none⟩,
 ⟨none, .store 2 (.t 4) (.t 99), none⟩] []) <|
 .keep [4] [[4]]) <|
 .ret, [.cell 4 (some 2)]⟩

def rat_Den : CF := ⟨1, .seq (.seq (.reg [⟨some 1, .box (.t 0), none⟩,
 ⟨some 2, .new [.v (.bool false), .z true], none⟩] []) <|
 .keep [1, 2] [[1], [2]]) <|
 .seq (.seq (.seq (.reg [⟨some 3, .fad 2 (.t 1), none⟩,
 ⟨some 4, .fad 1 (.t 3), none⟩,
 ⟨some 5, .load none (.t 4), none⟩,
 ⟨some 6, .len (.t 5), none⟩,
 ⟨some 7, .bin .eql (.t 6) (.c (.v (.int .i64 0))), none⟩] []) <|
 .keep [1, 2, 7] [[1], [2]]) <|
 .cond (.t 7) (.seq (.seq (.reg [⟨some 8, .call n_rat_one [] false, none⟩,
 ⟨none, .store 2 (.t 2) (.t 8), none⟩] []) <|
 .keep [2] [[2]]) <|
 .ret) <|
 .skip) <|
 .seq (.seq (.reg [⟨some 9, .fad 2 (.t 1), none⟩,
 ⟨some 10, .load (some 2) (.t 9), none⟩,
 ⟨none, .store 2 (.t 2) (.t 10), none⟩] []) <|
 .keep [2] [[2]]) <|
 .ret, [.cell 2 (some 2)]⟩

def gantryref05_Add : CF := ⟨2, .seq (.seq (.reg [⟨some 2, .box (.t 0), none⟩,
 ⟨some 3, .box (.t 1), none⟩,
 ⟨some 4, .new [.v (.bool false), .z true, .v (.bool false), .z true], none⟩] []) <|
 .keep [2, 3, 4] [[2], [3], [4]]) <|
 .seq (.seq (.reg [⟨some 7, .fad 0 (.t 2), none⟩,
 ⟨some 8, .load (some 2) (.t 7), none⟩,
 ⟨some 9, .load (some 4) (.t 3), none⟩,
 ⟨some 10, .call n_gantryref05_Den [(.t 9)] false, none⟩,
 ⟨some 11, .call n_gantryref04_Mul [(.t 8), (.t 10)] false, none⟩,
 ⟨some 5, .new [.v (.bool false), .z true], none⟩,
 ⟨none, .store 2 (.t 5) (.t 11), none⟩] []) <|
 .keep [2, 3, 4, 5] [[2], [3], [4], [5]]) <|
 .seq (.seq (.reg [⟨some 12, .fad 0 (.t 3), none⟩,
 ⟨some 13, .load (some 2) (.t 12), none⟩,
 ⟨some 14, .load (some 4) (.t 2), none⟩,
 ⟨some 15, .call n_gantryref05_Den [(.t 14)] false, none⟩,
 ⟨some 16, .call n_gantryref04_Mul [(.t 13), (.t 15)] false, none⟩,
 ⟨some 6, .new [.v (.bool false), .z true], none⟩,
 ⟨none, .store 2 (.t 6) (.t 16), none⟩] []) <|
 .keep [2, 3, 4, 5, 6] [[2], [3], [4], [5], [6]]) <|
 .seq (.seq (.reg [⟨some 17, .load (some 2) (.t 5), none⟩,
 ⟨some 18, .load (some 2) (.t 6), none⟩,
 ⟨some 19, .call n_gantryref04_Add [(.t 17), (.t 18)] false, none⟩,
 ⟨some 20, .load (some 4) (.t 2), none⟩,
 ⟨some 21, .call n_gantryref05_Den [(.t 20)] false, none⟩,
 ⟨some 22, .load (some 4) (.t 3), none⟩,
 ⟨some 23, .call n_gantryref05_Den [(.t 22)] false, none⟩,
 ⟨some 24, .call n_gantryref04_Mul [(.t 21), (.t 23)] false, none⟩,
 ⟨some 25, .call n_gantryref05_Make [(.t 19), (.t 24)] false, none⟩,
 ⟨none, .store 4 (.t 4) (.t 25), none⟩] []) <|
 .keep [4] [[4]]) <|
 .ret, [.cell 4 (some 4)]⟩

def rat_Make : CF := ⟨2, .seq (.seq (.reg [⟨some 2, .box (.t 0), none⟩,
 ⟨some 3, .box (.t 1), none⟩,
 ⟨some 4, .new [.v (.bool false), .z true, .v (.bool false), .z true], none⟩] []) <|
 .keep [2, 3, 4] [[2], [3], [4]]) <|
 .seq (.seq (.seq (.reg [⟨some 6, .fad 1 (.t 3), none⟩,
 ⟨some 7, .load none (.t 6), none⟩,
 ⟨some 8, .len (.t 7), none⟩,
 ⟨some 9, .bin .eql (.t 8) (.c (.v (.int .i64 0))), none⟩,
 ⟨some 10, .mov (.t 9), none⟩,
 ⟨some 11, .fad 1 (.t 2), (some (10, false))⟩,
 ⟨some 12, .load none (.t 11), (some (10, false))⟩,
 ⟨some 13, .len (.t 12), (some (10, false))⟩,
 ⟨some 14, .bin .eql (.t 13) (.c (.v (.int .i64 0))), (some (10, false))⟩,
 ⟨some 15, .pick (.t 10) (.c (.v (.bool true))) (.t 14), none⟩] []) <|
 .keep [2, 3, 4, 15] [[2], [3], [4]]) <|
 .cond (.t 15) (.seq (.seq (.reg [⟨some 16, .build [.v (.bool false), .z true, .v (.bool false), .z true] [], none⟩,
 ⟨none, .store 4 (.t 4) (.t 16), none⟩] []) <|
 .keep [4] [[4]]) <|
 .ret) <|
 .skip) <|
 .seq (.seq (.seq (.reg [⟨some 17, .load (some 2) (.t 2), none⟩,
 ⟨some 18, .load (some 2) (.t 3), none⟩,
 ⟨some 19, .call n_integer_Gcd [(.t 17), (.t 18)] false, none⟩,
 ⟨some 5, .new [.v (.bool false), .z true], none⟩,
 ⟨none, .store 2 (.t 5) (.t 19), none⟩] []) <|
 .keep [2, 3, 4, 5] [[2], [3], [4], [5]]) <|
 .seq (.seq (.reg [⟨some 20, .load (some 2) (.t 5), none⟩,
 ⟨some 21, .call n_rat_unit [(.t 20)] false, none⟩,
 ⟨some 22, .un .not (.t 21), none⟩] []) <|
 .keep [2, 3, 4, 5, 22] [[2], [3], [4], [5]]) <|
 .cond (.t 22) (.seq (.seq (.reg [⟨some 24, .load (some 2) (.t 2), none⟩,
 ⟨some 25, .load (some 2) (.t 5), none⟩,
 ⟨some 26, .call n_integer_Div [(.t 24), (.t 25)] false, none⟩,
 ⟨some 23, .mov (.t 26), none⟩,
 ⟨some 27, .ext (.t 23) 0, none⟩,
 ⟨some 28, .ext (.t 23) 1, none⟩,
 ⟨none, .store 2 (.t 2) (.t 27), none⟩] []) <|
 .keep [2, 3, 4, 5] [[2], [3], [4], [5]]) <|
 .seq (.reg [⟨some 30, .load (some 2) (.t 3), none⟩,
 ⟨some 31, .load (some 2) (.t 5), none⟩,
 ⟨some 32, .call n_integer_Div [(.t 30), (.t 31)] false, none⟩,
 ⟨some 29, .mov (.t 32), none⟩,
 ⟨some 33, .ext (.t 29) 0, none⟩,
 ⟨some 34, .ext (.t 29) 1, none⟩,
 ⟨none, .store 2 (.t 3) (.t 33), none⟩] []) <|
 .keep [2, 3, 4] [[2], [3], [4]]) <|
 .skip) <|
 .seq (.seq (.reg [⟨some 35, .load (some 2) (.t 2), none⟩,
 ⟨some 36, .load (some 2) (.t 3), none⟩,
 ⟨some 37, .call n_rat_lowest [(.t 35), (.t 36)] false, none⟩,
 ⟨none, .store 4 (.t 4) (.t 37), none⟩] []) <|
 .keep [4] [[4]]) <|
 .ret, [.cell 4 (some 4)]⟩

def rat_Add : CF := ⟨2, .seq (.seq (.reg [⟨some 2, .box (.t 0), none⟩,
 ⟨some 3, .box (.t 1), none⟩,
 ⟨some 4, .new [.v (.bool false), .z true, .v (.bool false), .z true], none⟩] []) <|
 .keep [2, 3, 4] [[2], [3], [4]]) <|
 .seq (.seq (.blk 0 <|
 .seq (.seq (.reg [⟨some 8, .fad 2 (.t 2), none⟩,
 ⟨some 9, .fad 1 (.t 8), none⟩,
 ⟨some 10, .load none (.t 9), none⟩,
 ⟨some 11, .len (.t 10), none⟩,
 ⟨some 12, .bin .eql (.t 11) (.c (.v (.int .i64 0))), none⟩,
 ⟨some 13, .mov (.t 12), none⟩,
 ⟨some 14, .fad 2 (.t 3), (some (13, true))⟩,
 ⟨some 15, .fad 1 (.t 14), (some (13, true))⟩,
 ⟨some 16, .load none (.t 15), (some (13, true))⟩,
 ⟨some 17, .len (.t 16), (some (13, true))⟩,
 ⟨some 18, .bin .eql (.t 17) (.c (.v (.int .i64 0))), (some (13, true))⟩,
 ⟨some 19, .pick (.t 13) (.t 18) (.c (.v (.bool false))), none⟩,
 ⟨some 7, .mov (.t 19), none⟩] []) <|
 .keep [2, 3, 4, 7] [[2], [3], [4]]) <|
 .cond (.t 7) (.seq (.seq (.reg [⟨some 20, .fad 0 (.t 2), none⟩,
 ⟨some 21, .load (some 2) (.t 20), none⟩,
 ⟨some 22, .fad 0 (.t 3), none⟩,
 ⟨some 23, .load (some 2) (.t 22), none⟩,
 ⟨some 24, .call n_integer_Add [(.t 21), (.t 23)] false, none⟩,
 ⟨some 25, .build [.v (.bool false), .z true, .v (.bool false), .z true] [(0, 2, (.t 24))], none⟩,
 ⟨none, .store 4 (.t 4) (.t 25), none⟩] []) <|
 .keep [4] [[4]]) <|
 .ret) <|
 .seq (.seq (.reg [⟨some 27, .fad 0 (.t 2), none⟩,
 ⟨some 28, .fad 1 (.t 27), none⟩,
 ⟨some 29, .load none (.t 28), none⟩,
 ⟨some 30, .len (.t 29), none⟩,
 ⟨some 31, .bin .eql (.t 30) (.c (.v (.int .i64 0))), none⟩,
 ⟨some 26, .mov (.t 31), none⟩] []) <|
 .keep [2, 3, 4, 26] [[2], [3], [4]]) <|
 .cond (.t 26) (.seq (.seq (.reg [⟨some 32, .load (some 4) (.t 3), none⟩,
 ⟨none, .store 4 (.t 4) (.t 32), none⟩] []) <|
 .keep [4] [[4]]) <|
 .ret) <|
 .seq (.seq (.reg [⟨some 34, .fad 0 (.t 3), none⟩,
 ⟨some 35, .fad 1 (.t 34), none⟩,
 ⟨some 36, .load none (.t 35), none⟩,
 ⟨some 37, .len (.t 36), none⟩,
 ⟨some 38, .bin .eql (.t 37) (.c (.v (.int .i64 0))), none⟩,
 ⟨some 33, .mov (.t 38), none⟩] []) <|
 .keep [2, 3, 4, 33] [[2], [3], [4]]) <|
 .cond (.t 33) (.seq (.seq (.reg [⟨some 39, .load (some 4) (.t 2), none⟩,
 ⟨none, .store 4 (.t 4) (.t 39), none⟩] []) <|
 .keep [4] [[4]]) <|
 .ret) <|
 .skip) <|
 .keep [2, 3, 4] [[2], [3], [4]]) <|
 .seq (.seq (.reg [⟨some 40, .load (some 4) (.t 2), none⟩,
 ⟨some 41, .call n_rat_Den [(.t 40)] false, none⟩,
 ⟨some 42, .load (some 4) (.t 3), none⟩,
 ⟨some 43, .call n_rat_Den [(.t 42)] false, none⟩,
 ⟨some 5, .new [.v (.bool false), .z true], none⟩,
 ⟨some 6, .new [.v (.bool false), .z true], none⟩,
 ⟨none, .store 2 (.t 5) (.t 41), none⟩,
 ⟨none, .store 2 (.t 6) (.t 43), none⟩] []) <|
 .keep [2, 3, 4, 5, 6] [[2], [3], [4], [5], [6]]) <|
 .seq (.seq (.reg [⟨some 44, .fad 0 (.t 2), none⟩,
 ⟨some 45, .load (some 2) (.t 44), none⟩,
 ⟨some 46, .load (some 2) (.t 6), none⟩,
 ⟨some 47, .call n_integer_Mul [(.t 45), (.t 46)] false, none⟩,
 ⟨some 48, .fad 0 (.t 3), none⟩,
 ⟨some 49, .load (some 2) (.t 48), none⟩,
 ⟨some 50, .load (some 2) (.t 5), none⟩,
 ⟨some 51, .call n_integer_Mul [(.t 49), (.t 50)] false, none⟩,
 ⟨some 52, .call n_integer_Add [(.t 47), (.t 51)] false, none⟩,
 ⟨some 53, .load (some 2) (.t 5), none⟩,
 ⟨some 54, .load (some 2) (.t 6), none⟩,
 ⟨some 55, .call n_integer_Mul [(.t 53), (.t 54)] false, none⟩,
 ⟨some 56, .call n_rat_Make [(.t 52), (.t 55)] false, none⟩,
 ⟨none, .store 4 (.t 4) (.t 56), none⟩] []) <|
 .keep [4] [[4]]) <|
 .ret, [.cell 4 (some 4)]⟩

def rat_Neg : CF := ⟨1, .seq (.seq (.reg [⟨some 1, .box (.t 0), none⟩,
 ⟨some 2, .new [.v (.bool false), .z true, .v (.bool false), .z true], none⟩] []) <|
 .keep [1, 2] [[1], [2]]) <|
 .seq (.seq (.reg [⟨some 3, .fad 0 (.t 1), none⟩,
 ⟨some 4, .load (some 2) (.t 3), none⟩,
 ⟨some 5, .call n_integer_Neg [(.t 4)] false, none⟩,
 ⟨some 6, .fad 2 (.t 1), none⟩,
 ⟨some 7, .load (some 2) (.t 6), none⟩,
 ⟨some 8, .build [.v (.bool false), .z true, .v (.bool false), .z true] [(0, 2, (.t 5)), (2, 2, (.t 7))], none⟩,
 ⟨none, .store 4 (.t 2) (.t 8), none⟩] []) <|
 .keep [2] [[2]]) <|
 .ret, [.cell 2 (some 4)]⟩

def convex_Valid_1 : CF := ⟨1, .seq (.seq (.reg [⟨some 1, .box (.t 0), none⟩,
 ⟨some 2, .mov (.c (.v (.bool false))), none⟩] []) <|
 .keep [1] [[1]]) <|
 .seq (.seq (.reg [⟨some 3, .fad 0 (.t 1), none⟩,
 ⟨some 4, .load none (.t 3), none⟩,
 ⟨some 5, .fad 1 (.t 1), none⟩,
 ⟨some 6, .load none (.t 5), none⟩,
 ⟨some 7, .mn [(.t 4), (.t 6)], none⟩,
 ⟨some 8, .bin .lss (.t 7) (.c (.v (.int .i64 (-1048576)))), none⟩,
 ⟨some 9, .mov (.t 8), none⟩,
 ⟨some 10, .fad 0 (.t 1), (some (9, false))⟩,
 ⟨some 11, .load none (.t 10), (some (9, false))⟩,
 ⟨some 12, .fad 1 (.t 1), (some (9, false))⟩,
 ⟨some 13, .load none (.t 12), (some (9, false))⟩,
 ⟨some 14, .mx [(.t 11), (.t 13)], (some (9, false))⟩,
 ⟨some 15, .bin .gtr (.t 14) (.c (.v (.int .i64 1048576))), (some (9, false))⟩,
 ⟨some 16, .pick (.t 9) (.c (.v (.bool true))) (.t 15), none⟩,
 ⟨some 2, .mov (.t 16), none⟩] []) <|
 .keep [2] []) <|
 .ret, [.t 2]⟩

def slices_ContainsFunc_api_Point_api_Point : CF := ⟨2, .seq (.seq (.reg [⟨some 4, .mov (.c (.v (.bool false))), none⟩] []) <|
 .keep [0, 1] []) <|
 .seq (.seq (.reg [⟨some 5, .mov (.t 0), none⟩,
 ⟨some 6, .mov (.t 1), none⟩,
 ⟨some 7, .call n_slices_IndexFunc_api_Point_api_Point [(.t 5), (.t 6)] false, none⟩,
 ⟨some 8, .bin .geq (.t 7) (.c (.v (.int .i64 0))), none⟩,
 ⟨some 4, .mov (.t 8), none⟩] []) <|
 .keep [4] []) <|
 .ret, [.t 4]⟩

def convex_dot : CF := ⟨2, .seq (.seq (.reg [⟨some 2, .box (.t 0), none⟩,
 ⟨some 3, .box (.t 1), none⟩,
 ⟨some 4, .mov (.c (.v (.int .i64 0))), none⟩] []) <|
 .keep [2, 3] [[2], [3]]) <|
 .seq (.seq (.reg [⟨some 5, .fad 0 (.t 2), none⟩,
 ⟨some 6, .load none (.t 5), none⟩,
 ⟨some 7, .fad 0 (.t 3), none⟩,
 ⟨some 8, .load none (.t 7), none⟩,
 ⟨some 9, .bin .mul (.t 6) (.t 8), none⟩,
 ⟨some 10, .fad 1 (.t 2), none⟩,
 ⟨some 11, .load none (.t 10), none⟩,
 ⟨some 12, .fad 1 (.t 3), none⟩,
 ⟨some 13, .load none (.t 12), none⟩,
 ⟨some 14, .bin .mul (.t 11) (.t 13), none⟩,
 ⟨some 15, .bin .add (.t 9) (.t 14), none⟩,
 ⟨some 4, .mov (.t 15), none⟩] []) <|
 .keep [4] []) <|
 .ret, [.t 4]⟩

def slices_MaxFunc_api_Point_api_Point_l0 : C :=
 .seq (.seq (.seq (.seq (.reg [⟨some 14, .mov (.t 6), none⟩,
 ⟨some 15, .mov (.t 0), none⟩,
 ⟨some 16, .len (.t 15), none⟩,
 ⟨some 17, .bin .lss (.t 14) (.t 16), none⟩] []) <|
 .keep [0, 1, 4, 5, 6, 17] [[4], [5]]) <|
 .cond (.t 17) (.skip) <|
 .seq (.keep [4, 5] [[4], [5]]) <|
 .exit 0) <|
 .seq (.seq (.blk 1 <|
 .seq (.seq (.reg [⟨some 20, .mov (.t 1), none⟩,
 ⟨some 21, .mov (.t 0), none⟩,
 ⟨some 22, .mov (.t 6), none⟩,
 ⟨some 23, .ixa 2 (.t 21) (.t 22), none⟩,
 ⟨some 24, .load (some 2) (.t 23), none⟩,
 ⟨some 25, .load (some 2) (.t 5), none⟩,
 ⟨some 26, .calv (.t 20) [(.t 24), (.t 25)], none⟩,
 ⟨some 27, .bin .gtr (.t 26) (.c (.v (.int .i64 0))), none⟩] []) <|
 .keep [0, 1, 4, 5, 6, 27] [[4], [5]]) <|
 .cond (.t 27) (.seq (.reg [⟨some 28, .mov (.t 0), none⟩,
 ⟨some 29, .mov (.t 6), none⟩,
 ⟨some 30, .ixa 2 (.t 28) (.t 29), none⟩,
 ⟨some 31, .load (some 2) (.t 30), none⟩,
 ⟨none, .store 2 (.t 5) (.t 31), none⟩] []) <|
 .keep [0, 1, 4, 5, 6] [[4], [5]]) <|
 .skip) <|
 .keep [0, 1, 4, 5, 6] [[4], [5]]) <|
 .seq (.reg [⟨some 18, .mov (.t 6), none⟩,
 ⟨some 19, .bin .add (.t 18) (.c (.v (.int .i64 1))), none⟩,
 ⟨some 6, .mov (.t 19), none⟩] []) <|
 .keep [0, 1, 4, 5, 6] [[4], [5]]) <|
 .keep [0, 1, 4, 5, 6] [[4], [5]]
def slices_MaxFunc_api_Point_api_Point : CF := ⟨2, .seq (.seq (.reg [⟨some 4, .new [.v (.int .i64 0), .v (.int .i64 0)], none⟩] []) <|
 .keep [0, 1, 4] [[4]]) <|
 .seq (.seq (.seq (.reg [⟨some 7, .mov (.t 0), none⟩,
 ⟨some 8, .len (.t 7), none⟩,
 ⟨some 9, .bin .lss (.t 8) (.c (.v (.int .i64 1))), none⟩] []) <|
 .keep [0, 1, 4, 9] [[4]]) <|
 .cond (.t 9) (.cond (.c (.v (.int .i64 7))) (.skip) <|
 .skip) <|
 .skip) <|
 .seq (.seq (.reg [⟨some 11, .mov (.t 0), none⟩,
 ⟨some 12, .ixa 2 (.t 11) (.c (.v (.int .i64 0))), none⟩,
 ⟨some 13, .load (some 2) (.t 12), none⟩,
 ⟨some 5, .new [.v (.int .i64 0), .v (.int .i64 0)], none⟩,
 ⟨none, .store 2 (.t 5) (.t 13), none⟩] []) <|
 .keep [0, 1, 4, 5] [[4], [5]]) <|
 .seq (.seq (.seq (.reg [⟨some 6, .mov (.c (.v (.int .i64 1))), none⟩] []) <|
 .keep [0, 1, 4, 5, 6] [[4], [5]]) <|
 .seq (.blk 0 <|
 .seq (.keep [0, 1, 4, 5, 6] [[4], [5]]) <|
 .loop slices_MaxFunc_api_Point_api_Point_l0) <|
 .keep [4, 5] [[4], [5]]) <|
 .seq (.seq (.reg [⟨some 32, .load (some 2) (.t 5), none⟩,
 ⟨none, .store 2 (.t 4) (.t 32), none⟩] []) <|
 .keep [4] [[4]]) <|
 .ret, [.cell 4 (some 2)]⟩

def convex_Most_1 : CF := ⟨3, .seq (.seq (.reg [⟨some 3, .box (.t 0), none⟩,
 ⟨some 4, .box (.t 1), none⟩,
 ⟨some 5, .mov (.c (.v (.int .i64 0))), none⟩] []) <|
 .keep [2, 3, 4] [[3], [4]]) <|
 .seq (.seq (.reg [⟨some 6, .load (some 3) (.t 2), none⟩,
 ⟨some 7, .load (some 2) (.t 3), none⟩,
 ⟨some 8, .call n_convex_dot [(.t 6), (.t 7)] false, none⟩,
 ⟨some 9, .load (some 3) (.t 2), none⟩,
 ⟨some 10, .load (some 2) (.t 4), none⟩,
 ⟨some 11, .call n_convex_dot [(.t 9), (.t 10)] false, none⟩,
 ⟨some 12, .call n_cmp_Compare_int [(.t 8), (.t 11)] false, none⟩,
 ⟨some 5, .mov (.t 12), none⟩] []) <|
 .keep [5] []) <|
 .ret, [.t 5]⟩

def gantryref04_Compare : CF := ⟨2, .seq (.seq (.reg [⟨some 2, .box (.t 0), none⟩,
 ⟨some 3, .box (.t 1), none⟩,
 ⟨some 4, .mov (.c (.v (.int .i64 0))), none⟩] []) <|
 .keep [2, 3] [[2], [3]]) <|
 .seq (.seq (.seq (.reg [⟨some 5, .fad 0 (.t 2), none⟩,
 ⟨some 6, .load none (.t 5), none⟩,
 ⟨some 7, .fad 0 (.t 3), none⟩,
 ⟨some 8, .load none (.t 7), none⟩,
 ⟨some 9, .binb true (.t 6) (.t 8), none⟩] []) <|
 .keep [2, 3, 9] [[2], [3]]) <|
 .cond (.t 9) (.seq (.seq (.seq (.reg [⟨some 10, .fad 0 (.t 2), none⟩,
 ⟨some 11, .load none (.t 10), none⟩] []) <|
 .keep [11] []) <|
 .cond (.t 11) (.seq (.seq (.reg [⟨some 4, .mov (.c (.v (.int .i64 (-1)))), none⟩] []) <|
 .keep [4] []) <|
 .ret) <|
 .skip) <|
 .seq (.seq (.reg [⟨some 4, .mov (.c (.v (.int .i64 1))), none⟩] []) <|
 .keep [4] []) <|
 .ret) <|
 .skip) <|
 .seq (.seq (.seq (.reg [⟨some 12, .fad 0 (.t 2), none⟩,
 ⟨some 13, .load none (.t 12), none⟩] []) <|
 .keep [2, 3, 13] [[2], [3]]) <|
 .cond (.t 13) (.seq (.seq (.reg [⟨some 14, .fad 1 (.t 3), none⟩,
 ⟨some 15, .load none (.t 14), none⟩,
 ⟨some 16, .fad 1 (.t 2), none⟩,
 ⟨some 17, .load none (.t 16), none⟩,
 ⟨some 18, .call n_gantryref04_compared [(.t 15), (.t 17)] false, none⟩,
 ⟨some 4, .mov (.t 18), none⟩] []) <|
 .keep [4] []) <|
 .ret) <|
 .skip) <|
 .seq (.seq (.reg [⟨some 19, .fad 1 (.t 2), none⟩,
 ⟨some 20, .load none (.t 19), none⟩,
 ⟨some 21, .fad 1 (.t 3), none⟩,
 ⟨some 22, .load none (.t 21), none⟩,
 ⟨some 23, .call n_gantryref04_compared [(.t 20), (.t 22)] false, none⟩,
 ⟨some 4, .mov (.t 23), none⟩] []) <|
 .keep [4] []) <|
 .ret, [.t 4]⟩

def gantryref04_Mul_l0 : C :=
 .seq (.seq (.seq (.seq (.reg [⟨some 25, .mov (.t 8), none⟩,
 ⟨some 26, .fad 1 (.t 3), none⟩,
 ⟨some 27, .load none (.t 26), none⟩,
 ⟨some 28, .len (.t 27), none⟩,
 ⟨some 29, .bin .lss (.t 25) (.t 28), none⟩] []) <|
 .keep [2, 3, 4, 5, 6, 7, 8, 29] [[2], [3], [4], [17]]) <|
 .cond (.t 29) (.skip) <|
 .seq (.keep [2, 3, 4, 5, 6, 7] [[2], [3], [4], [17]]) <|
 .exit 2) <|
 .seq (.seq (.blk 3 <|
 .seq (.seq (.reg [⟨some 32, .mov (.t 5), none⟩,
 ⟨some 33, .mov (.t 6), none⟩,
 ⟨some 34, .mov (.t 8), none⟩,
 ⟨some 35, .bin .add (.t 33) (.t 34), none⟩,
 ⟨some 36, .ixa 1 (.t 32) (.t 35), none⟩,
 ⟨some 37, .load none (.t 36), none⟩,
 ⟨some 38, .fad 1 (.t 2), none⟩,
 ⟨some 39, .load none (.t 38), none⟩,
 ⟨some 40, .mov (.t 6), none⟩,
 ⟨some 41, .ixa 1 (.t 39) (.t 40), none⟩,
 ⟨some 42, .load none (.t 41), none⟩,
 ⟨some 43, .fad 1 (.t 3), none⟩,
 ⟨some 44, .load none (.t 43), none⟩,
 ⟨some 45, .mov (.t 8), none⟩,
 ⟨some 46, .ixa 1 (.t 44) (.t 45), none⟩,
 ⟨some 47, .load none (.t 46), none⟩,
 ⟨some 48, .bin .mul (.t 42) (.t 47), none⟩,
 ⟨some 49, .bin .add (.t 37) (.t 48), none⟩,
 ⟨some 50, .mov (.t 7), none⟩,
 ⟨some 51, .bin .add (.t 49) (.t 50), none⟩,
 ⟨some 9, .mov (.t 51), none⟩] []) <|
 .keep [2, 3, 4, 5, 6, 8, 9] [[2], [3], [4], [17]]) <|
 .seq (.seq (.reg [⟨some 52, .mov (.t 5), none⟩,
 ⟨some 53, .mov (.t 6), none⟩,
 ⟨some 54, .mov (.t 8), none⟩,
 ⟨some 55, .bin .add (.t 53) (.t 54), none⟩,
 ⟨some 56, .mov (.t 9), none⟩,
 ⟨some 57, .bin .rem (.t 56) (.c (.v (.int .i64 1000000000))), none⟩,
 ⟨some 58, .ixa 1 (.t 52) (.t 55), none⟩,
 ⟨none, .store 1 (.t 58) (.t 57), none⟩] []) <|
 .keep [2, 3, 4, 5, 6, 8, 9] [[2], [3], [4], [17]]) <|
 .seq (.reg [⟨some 59, .mov (.t 9), none⟩,
 ⟨some 60, .bin .quo (.t 59) (.c (.v (.int .i64 1000000000))), none⟩,
 ⟨some 7, .mov (.t 60), none⟩] []) <|
 .keep [2, 3, 4, 5, 6, 7, 8] [[2], [3], [4], [17]]) <|
 .keep [2, 3, 4, 5, 6, 7, 8] [[2], [3], [4], [17]]) <|
 .seq (.reg [⟨some 30, .mov (.t 8), none⟩,
 ⟨some 31, .bin .add (.t 30) (.c (.v (.int .i64 1))), none⟩,
 ⟨some 8, .mov (.t 31), none⟩] []) <|
 .keep [2, 3, 4, 5, 6, 7, 8] [[2], [3], [4], [17]]) <|
 .keep [2, 3, 4, 5, 6, 7, 8] [[2], [3], [4], [17]]
def gantryref04_Mul_l1 : C :=
 .seq (.seq (.seq (.seq (.reg [⟨some 18, .mov (.t 6), none⟩,
 ⟨some 19, .fad 1 (.t 2), none⟩,
 ⟨some 20, .load none (.t 19), none⟩,
 ⟨some 21, .len (.t 20), none⟩,
 ⟨some 22, .bin .lss (.t 18) (.t 21), none⟩] []) <|
 .keep [2, 3, 4, 5, 6, 22] [[2], [3], [4], [17]]) <|
 .cond (.t 22) (.skip) <|
 .seq (.keep [2, 3, 4, 5] [[2], [3], [4], [17]]) <|
 .exit 0) <|
 .seq (.seq (.blk 1 <|
 .seq (.seq (.reg [⟨some 7, .mov (.c (.v (.int .i64 0))), none⟩] []) <|
 .keep [2, 3, 4, 5, 6, 7] [[2], [3], [4], [17]]) <|
 .seq (.seq (.seq (.reg [⟨some 8, .mov (.c (.v (.int .i64 0))), none⟩] []) <|
 .keep [2, 3, 4, 5, 6, 7, 8] [[2], [3], [4], [17]]) <|
 .seq (.blk 2 <|
 .seq (.keep [2, 3, 4, 5, 6, 7, 8] [[2], [3], [4], [17]]) <|
 .loop gantryref04_Mul_l0) <|
 .keep [2, 3, 4, 5, 6, 7] [[2], [3], [4], [17]]) <|
 .seq (.reg [⟨some 61, .mov (.t 5), none⟩,
 ⟨some 62, .mov (.t 6), none⟩,
 ⟨some 63, .fad 1 (.t 3), none⟩,
 ⟨some 64, .load none (.t 63), none⟩,
 ⟨some 65, .len (.t 64), none⟩,
 ⟨some 66, .bin .add (.t 62) (.t 65), none⟩,
 ⟨some 67, .mov (.t 7), none⟩,
 ⟨some 68, .ixa 1 (.t 61) (.t 66), none⟩,
 ⟨none, .store 1 (.t 68) (.t 67), none⟩] []) <|
 .keep [2, 3, 4, 5, 6] [[2], [3], [4], [17]]) <|
 .keep [2, 3, 4, 5, 6] [[2], [3], [4], [17]]) <|
 .seq (.reg [⟨some 23, .mov (.t 6), none⟩,
 ⟨some 24, .bin .add (.t 23) (.c (.v (.int .i64 1))), none⟩,
 ⟨some 6, .mov (.t 24), none⟩] []) <|
 .keep [2, 3, 4, 5, 6] [[2], [3], [4], [17]]) <|
 .keep [2, 3, 4, 5, 6] [[2], [3], [4], [17]]
def gantryref04_Mul : CF := ⟨2, .seq (.seq (.reg [⟨some 2, .box (.t 0), none⟩,
 ⟨some 3, .box (.t 1), none⟩,
 ⟨some 4, .new [.v (.bool false), .z true], none⟩] []) <|
 .keep [2, 3, 4] [[2], [3], [4]]) <|
 .seq (.seq (.reg [⟨some 10, .fad 1 (.t 2), none⟩,
 ⟨some 11, .load none (.t 10), none⟩,
 ⟨some 12, .len (.t 11), none⟩,
 ⟨some 13, .fad 1 (.t 3), none⟩,
 ⟨some 14, .load none (.t 13), none⟩,
 ⟨some 15, .len (.t 14), none⟩,
 ⟨some 16, .bin .add (.t 12) (.t 15), none⟩,
 ⟨some 17, .mksl 1 8 [.v (.int .i64 0)] (.t 16) (.t 16), none⟩,
 ⟨some 5, .mov (.t 17), none⟩] []) <|
 .keep [2, 3, 4, 5] [[2], [3], [4], [17]]) <|
 .seq (.seq (.seq (.reg [⟨some 6, .mov (.c (.v (.int .i64 0))), none⟩] []) <|
 .keep [2, 3, 4, 5, 6] [[2], [3], [4], [17]]) <|
 .seq (.blk 0 <|
 .seq (.keep [2, 3, 4, 5, 6] [[2], [3], [4], [17]]) <|
 .loop gantryref04_Mul_l1) <|
 .keep [2, 3, 4, 5] [[2], [3], [4], [17]]) <|
 .seq (.seq (.frz 5) <|
 .seq (.reg [⟨some 69, .fad 0 (.t 2), none⟩,
 ⟨some 70, .load none (.t 69), none⟩,
 ⟨some 71, .fad 0 (.t 3), none⟩,
 ⟨some 72, .load none (.t 71), none⟩,
 ⟨some 73, .binb true (.t 70) (.t 72), none⟩,
 ⟨some 74, .mov (.t 5), none⟩,
 ⟨some 75, .call n_gantryref04_normal [(.t 73), (.t 74)] false, none⟩,
 ⟨none, .store 2 (.t 4) (.t 75), none⟩] []) <|
 .keep [4] [[4]]) <|
 .ret, [.cell 4 (some 2)]⟩

def gantryref05_Den : CF := ⟨1, .seq (.seq (.reg [⟨some 1, .box (.t 0), none⟩,
 ⟨some 2, .new [.v (.bool false), .z true], none⟩] []) <|
 .keep [1, 2] [[1], [2]]) <|
 .seq (.seq (.seq (.reg [⟨some 3, .fad 2 (.t 1), none⟩,
 ⟨some 4, .fad 1 (.t 3), none⟩,
 ⟨some 5, .load none (.t 4), none⟩,
 ⟨some 6, .len (.t 5), none⟩,
 ⟨some 7, .bin .eql (.t 6) (.c (.v (.int .i64 0))), none⟩] []) <|
 .keep [1, 2, 7] [[1], [2]]) <|
 .cond (.t 7) (.seq (.seq (.reg [⟨some 8, .call n_gantryref04_Of [(.c (.v (.int .i64 1)))] false, none⟩,
 ⟨none, .store 2 (.t 2) (.t 8), none⟩] []) <|
 .keep [2] [[2]]) <|
 .ret) <|
 .skip) <|
 .seq (.seq (.reg [⟨some 9, .fad 2 (.t 1), none⟩,
 ⟨some 10, .load (some 2) (.t 9), none⟩,
 ⟨none, .store 2 (.t 2) (.t 10), none⟩] []) <|
 .keep [2] [[2]]) <|
 .ret, [.cell 2 (some 2)]⟩

def gantryref05_Make : CF := ⟨2, .seq (.seq (.reg [⟨some 2, .box (.t 0), none⟩,
 ⟨some 3, .box (.t 1), none⟩,
 ⟨some 4, .new [.v (.bool false), .z true, .v (.bool false), .z true], none⟩] []) <|
 .keep [2, 3, 4] [[2], [3], [4]]) <|
 .seq (.seq (.seq (.reg [⟨some 10, .fad 1 (.t 3), none⟩,
 ⟨some 11, .load none (.t 10), none⟩,
 ⟨some 12, .len (.t 11), none⟩,
 ⟨some 13, .bin .eql (.t 12) (.c (.v (.int .i64 0))), none⟩,
 ⟨some 14, .mov (.t 13), none⟩,
 ⟨some 15, .fad 1 (.t 2), (some (14, false))⟩,
 ⟨some 16, .load none (.t 15), (some (14, false))⟩,
 ⟨some 17, .len (.t 16), (some (14, false))⟩,
 ⟨some 18, .bin .eql (.t 17) (.c (.v (.int .i64 0))), (some (14, false))⟩,
 ⟨some 19, .pick (.t 14) (.c (.v (.bool true))) (.t 18), none⟩] []) <|
 .keep [2, 3, 4, 19] [[2], [3], [4]]) <|
 .cond (.t 19) (.seq (.seq (.reg [⟨some 20, .build [.v (.bool false), .z true, .v (.bool false), .z true] [], none⟩,
 ⟨none, .store 4 (.t 4) (.t 20), none⟩] []) <|
 .keep [4] [[4]]) <|
 .ret) <|
 .skip) <|
 .seq (.seq (.reg [⟨some 21, .load (some 2) (.t 2), none⟩,
 ⟨some 22, .load (some 2) (.t 3), none⟩,
 ⟨some 23, .call n_gantryref04_Gcd [(.t 21), (.t 22)] false, none⟩,
 ⟨some 5, .new [.v (.bool false), .z true], none⟩,
 ⟨none, .store 2 (.t 5) (.t 23), none⟩] []) <|
 .keep [2, 3, 4, 5] [[2], [3], [4], [5]]) <|
 .seq (.seq (.reg [⟨some 25, .load (some 2) (.t 2), none⟩,
 ⟨some 26, .load (some 2) (.t 5), none⟩,
 ⟨some 27, .call n_gantryref04_Div [(.t 25), (.t 26)] false, none⟩,
 ⟨some 24, .mov (.t 27), none⟩,
 ⟨some 28, .ext (.t 24) 0, none⟩,
 ⟨some 29, .ext (.t 24) 1, none⟩,
 ⟨some 6, .new [.v (.bool false), .z true], none⟩,
 ⟨some 7, .new [.v (.bool false), .z true], none⟩,
 ⟨none, .store 2 (.t 6) (.t 28), none⟩,
 ⟨none, .store 2 (.t 7) (.t 29), none⟩] []) <|
 .keep [3, 4, 5, 6] [[3], [4], [5], [6]]) <|
 .seq (.seq (.reg [⟨some 31, .load (some 2) (.t 3), none⟩,
 ⟨some 32, .load (some 2) (.t 5), none⟩,
 ⟨some 33, .call n_gantryref04_Div [(.t 31), (.t 32)] false, none⟩,
 ⟨some 30, .mov (.t 33), none⟩,
 ⟨some 34, .ext (.t 30) 0, none⟩,
 ⟨some 35, .ext (.t 30) 1, none⟩,
 ⟨some 8, .new [.v (.bool false), .z true], none⟩,
 ⟨some 9, .new [.v (.bool false), .z true], none⟩,
 ⟨none, .store 2 (.t 8) (.t 34), none⟩,
 ⟨none, .store 2 (.t 9) (.t 35), none⟩] []) <|
 .keep [4, 6, 8] [[4], [6], [8]]) <|
 .seq (.seq (.seq (.reg [⟨some 36, .fad 0 (.t 8), none⟩,
 ⟨some 37, .load none (.t 36), none⟩] []) <|
 .keep [4, 6, 8, 37] [[4], [6], [8]]) <|
 .cond (.t 37) (.seq (.seq (.reg [⟨some 38, .load (some 2) (.t 6), none⟩,
 ⟨some 39, .call n_gantryref04_Neg [(.t 38)] false, none⟩,
 ⟨none, .store 2 (.t 6) (.t 39), none⟩] []) <|
 .keep [4, 6, 8] [[4], [6], [8]]) <|
 .seq (.reg [⟨some 40, .load (some 2) (.t 8), none⟩,
 ⟨some 41, .call n_gantryref04_Neg [(.t 40)] false, none⟩,
 ⟨none, .store 2 (.t 8) (.t 41), none⟩] []) <|
 .keep [4, 6, 8] [[4], [6], [8]]) <|
 .skip) <|
 .seq (.seq (.seq (.reg [⟨some 42, .load (some 2) (.t 8), none⟩,
 ⟨some 43, .call n_gantryref05_one [(.t 42)] false, none⟩] []) <|
 .keep [4, 6, 8, 43] [[4], [6], [8]]) <|
 .cond (.t 43) (.seq (.seq (.reg [⟨some 44, .load (some 2) (.t 6), none⟩,
 ⟨some 45, .build [.v (.bool false), .z true, .v (.bool false), .z true] [(0, 2, (.t 44))], none⟩,
 ⟨none, .store 4 (.t 4) (.t 45), none⟩] []) <|
 .keep [4] [[4]]) <|
 .ret) <|
 .skip) <|
 .seq (.seq (.reg [⟨some 46, .load (some 2) (.t 6), none⟩,
 ⟨some 47, .load (some 2) (.t 8), none⟩,
 ⟨some 48, .build [.v (.bool false), .z true, .v (.bool false), .z true] [(0, 2, (.t 46)), (2, 2, (.t 47))], none⟩,
 ⟨none, .store 4 (.t 4) (.t 48), none⟩] []) <|
 .keep [4] [[4]]) <|
 .ret, [.cell 4 (some 4)]⟩

def gantryref04_Of_l0 : C :=
 .seq (.seq (.seq (.seq (.reg [⟨some 8, .mov (.t 0), none⟩,
 ⟨some 9, .bin .neq (.t 8) (.c (.v (.int .i64 0))), none⟩] []) <|
 .keep [0, 2, 3, 4, 9] [[2], [19]]) <|
 .cond (.t 9) (.skip) <|
 .seq (.keep [2, 3, 4] [[2], [19]]) <|
 .exit 0) <|
 .seq (.blk 1 <|
 .seq (.seq (.reg [⟨some 10, .mov (.t 0), none⟩,
 ⟨some 11, .bin .rem (.t 10) (.c (.v (.int .i64 1000000000))), none⟩,
 ⟨some 5, .mov (.t 11), none⟩] []) <|
 .keep [0, 2, 3, 4, 5] [[2], [19]]) <|
 .seq (.seq (.seq (.reg [⟨some 12, .mov (.t 5), none⟩,
 ⟨some 13, .bin .lss (.t 12) (.c (.v (.int .i64 0))), none⟩] []) <|
 .keep [0, 2, 3, 4, 5, 13] [[2], [19]]) <|
 .cond (.t 13) (.seq (.reg [⟨some 14, .mov (.t 5), none⟩,
 ⟨some 15, .un .neg (.t 14), none⟩,
 ⟨some 5, .mov (.t 15), none⟩] []) <|
 .keep [0, 2, 3, 4, 5] [[2], [19]]) <|
 .skip) <|
 .seq (.seq (.reg [⟨some 16, .mov (.t 3), none⟩,
 ⟨some 17, .mov (.t 5), none⟩,
 ⟨some 18, .lit 1 1 [.v (.int .i64 0)] [(0, (.t 17))] true, none⟩,
 ⟨some 19, .app 1 8 (.t 16) (.t 18) false, none⟩,
 ⟨some 3, .mov (.t 19), none⟩] []) <|
 .keep [0, 2, 3, 4] [[2], [19]]) <|
 .seq (.reg [⟨some 20, .mov (.t 0), none⟩,
 ⟨some 21, .bin .quo (.t 20) (.c (.v (.int .i64 1000000000))), none⟩,
 ⟨some 0, .mov (.t 21), none⟩] []) <|
 .keep [0, 2, 3, 4] [[2], [19]]) <|
 .keep [0, 2, 3, 4] [[2], [19]]) <|
 .keep [0, 2, 3, 4] [[2], [19]]
def gantryref04_Of : CF := ⟨1, .seq (.seq (.reg [⟨some 2, .new [.v (.bool false), .z true], none⟩] []) <|
 .keep [0, 2] [[2]]) <|
 .seq (.seq (.reg [⟨some 3, .mov (.c (.z true)), none⟩] []) <|
 .keep [0, 2, 3] [[2], [19]]) <|
 .seq (.seq (.reg [⟨some 6, .mov (.t 0), none⟩,
 ⟨some 7, .bin .lss (.t 6) (.c (.v (.int .i64 0))), none⟩,
 ⟨some 4, .mov (.t 7), none⟩] []) <|
 .keep [0, 2, 3, 4] [[2], [19]]) <|
 .seq (.seq (.blk 0 <|
 .seq (.keep [0, 2, 3, 4] [[2], [19]]) <|
 .loop gantryref04_Of_l0) <|
 .keep [2, 3, 4] [[2], [19]]) <|
 .seq (.seq (.frz 3) <|
 .seq (.reg [⟨some 22, .mov (.t 4), none⟩,
 ⟨some 23, .mov (.t 3), none⟩,
 ⟨some 24, .call n_gantryref04_normal [(.t 22), (.t 23)] false, none⟩,
 ⟨none, .store 2 (.t 2) (.t 24), none⟩] []) <|
 .keep [2] [[2]]) <|
 .ret, [.cell 2 (some 2)]⟩

def integer_Root_l0 : C :=
 .seq (.seq (.blk 1 <|
 .seq (.seq (.reg [⟨some 31, .load (some 2) (.t 1), none⟩,
 ⟨some 32, .load (some 2) (.t 4), none⟩,
 ⟨some 33, .call n_integer_Div [(.t 31), (.t 32)] false, none⟩,
 ⟨some 30, .mov (.t 33), none⟩,
 ⟨some 34, .ext (.t 30) 0, none⟩,
 ⟨some 35, .ext (.t 30) 1, none⟩,
 ⟨some 5, .new [.v (.bool false), .z true], none⟩,
 ⟨some 6, .new [.v (.bool false), .z true], none⟩,
 ⟨none, .store 2 (.t 5) (.t 34), none⟩,
 ⟨none, .store 2 (.t 6) (.t 35), none⟩] []) <|
 .keep [1, 2, 4, 5] [[1], [2], [4], [5]]) <|
 .seq (.seq (.reg [⟨some 37, .load (some 2) (.t 4), none⟩,
 ⟨some 38, .load (some 2) (.t 5), none⟩,
 ⟨some 39, .call n_integer_Add [(.t 37), (.t 38)] false, none⟩,
 ⟨some 40, .call n_integer_Of [(.c (.v (.int .i64 2)))] false, none⟩,
 ⟨some 41, .call n_integer_Div [(.t 39), (.t 40)] false, none⟩,
 ⟨some 36, .mov (.t 41), none⟩,
 ⟨some 42, .ext (.t 36) 0, none⟩,
 ⟨some 43, .ext (.t 36) 1, none⟩,
 ⟨some 7, .new [.v (.bool false), .z true], none⟩,
 ⟨some 8, .new [.v (.bool false), .z true], none⟩,
 ⟨none, .store 2 (.t 7) (.t 42), none⟩,
 ⟨none, .store 2 (.t 8) (.t 43), none⟩] []) <|
 .keep [1, 2, 4, 7] [[1], [2], [4], [7]]) <|
 .seq (.seq (.seq (.reg [⟨some 44, .load (some 2) (.t 7), none⟩,
 ⟨some 45, .load (some 2) (.t 4), none⟩,
 ⟨some 46, .call n_integer_Compare [(.t 44), (.t 45)] false, none⟩,
 ⟨some 47, .bin .geq (.t 46) (.c (.v (.int .i64 0))), none⟩] []) <|
 .keep [1, 2, 4, 7, 47] [[1], [2], [4], [7]]) <|
 .cond (.t 47) (.seq (.keep [1, 2, 4] [[1], [2], [4]]) <|
 .exit 0) <|
 .skip) <|
 .seq (.reg [⟨some 48, .load (some 2) (.t 7), none⟩,
 ⟨none, .store 2 (.t 4) (.t 48), none⟩] []) <|
 .keep [1, 2, 4] [[1], [2], [4]]) <|
 .keep [1, 2, 4] [[1], [2], [4]]) <|
 .keep [1, 2, 4] [[1], [2], [4]]
def integer_Root : CF := ⟨1, .seq (.seq (.reg [⟨some 1, .box (.t 0), none⟩,
 ⟨some 2, .new [.v (.bool false), .z true], none⟩,
 ⟨some 3, .mov (.c (.v (.bool false))), none⟩] []) <|
 .keep [1, 2] [[1], [2]]) <|
 .seq (.seq (.seq (.reg [⟨some 9, .fad 0 (.t 1), none⟩,
 ⟨some 10, .load none (.t 9), none⟩,
 ⟨some 11, .mov (.t 10), none⟩,
 ⟨some 12, .fad 1 (.t 1), (some (11, false))⟩,
 ⟨some 13, .load none (.t 12), (some (11, false))⟩,
 ⟨some 14, .len (.t 13), (some (11, false))⟩,
 ⟨some 15, .bin .eql (.t 14) (.c (.v (.int .i64 0))), (some (11, false))⟩,
 ⟨some 16, .pick (.t 11) (.c (.v (.bool true))) (.t 15), none⟩] []) <|
 .keep [1, 2, 16] [[1], [2]]) <|
 .cond (.t 16) (.seq (.seq (.reg [⟨some 17, .build [.v (.bool false), .z true] [], none⟩,
 ⟨some 18, .fad 0 (.t 1), none⟩,
 ⟨some 19, .load none (.t 18), none⟩,
 ⟨some 20, .un .not (.t 19), none⟩,
 ⟨none, .store 2 (.t 2) (.t 17), none⟩,
 ⟨some 3, .mov (.t 20), none⟩] [((.t 18), 1, (.t 2), 2)]) <|
 .keep [2, 3] [[2]]) <|
 .ret) <|
 .skip) <|
 .seq (.seq (.reg [⟨some 21, .fad 1 (.t 1), none⟩,
 ⟨some 22, .load none (.t 21), none⟩,
 ⟨some 23, .len (.t 22), none⟩,
 ⟨some 24, .bin .add (.t 23) (.c (.v (.int .i64 1))), none⟩,
 ⟨some 25, .bin .quo (.t 24) (.c (.v (.int .i64 2))), none⟩,
 ⟨some 26, .mksl 1 8 [.v (.int .i64 0)] (.t 25) (.t 25), none⟩,
 ⟨some 27, .lit 1 1 [.v (.int .i64 0)] [(0, (.c (.v (.int .i64 1))))] true, none⟩,
 ⟨some 28, .app 1 8 (.t 26) (.t 27) true, none⟩,
 ⟨some 29, .call n_integer_of [(.c (.v (.bool false))), (.t 28)] false, none⟩,
 ⟨some 4, .new [.v (.bool false), .z true], none⟩,
 ⟨none, .store 2 (.t 4) (.t 29), none⟩] []) <|
 .keep [1, 2, 4] [[1], [2], [4]]) <|
 .seq (.seq (.blk 0 <|
 .seq (.keep [1, 2, 4] [[1], [2], [4]]) <|
 .loop integer_Root_l0) <|
 .keep [1, 2, 4] [[1], [2], [4]]) <|
 .seq (.seq (.reg [⟨some 49, .load (some 2) (.t 4), none⟩,
 ⟨some 50, .load (some 2) (.t 4), none⟩,
 ⟨some 51, .load (some 2) (.t 4), none⟩,
 ⟨some 52, .call n_integer_Mul [(.t 50), (.t 51)] false, none⟩,
 ⟨some 53, .load (some 2) (.t 1), none⟩,
 ⟨some 54, .call n_integer_Compare [(.t 52), (.t 53)] false, none⟩,
 ⟨some 55, .bin .eql (.t 54) (.c (.v (.int .i64 0))), none⟩,
 ⟨none, .store 2 (.t 2) (.t 49), none⟩,
 ⟨some 3, .mov (.t 55), none⟩] []) <|
 .keep [2, 3] [[2]]) <|
 .ret, [.cell 2 (some 2), .t 3]⟩

def integer_Small_l0 : C :=
 .seq (.seq (.seq (.seq (.reg [⟨some 27, .mov (.t 5), none⟩,
 ⟨some 28, .bin .geq (.t 27) (.c (.v (.int .i64 0))), none⟩] []) <|
 .keep [1, 4, 5, 28] [[1]]) <|
 .cond (.t 28) (.skip) <|
 .seq (.keep [1, 4] [[1]]) <|
 .exit 0) <|
 .seq (.seq (.blk 1 <|
 .seq (.reg [⟨some 31, .mov (.t 4), none⟩,
 ⟨some 32, .bin .mul (.t 31) (.c (.v (.int .u64 1000000000))), none⟩,
 ⟨some 33, .fad 1 (.t 1), none⟩,
 ⟨some 34, .load none (.t 33), none⟩,
 ⟨some 35, .mov (.t 5), none⟩,
 ⟨some 36, .ixa 1 (.t 34) (.t 35), none⟩,
 ⟨some 37, .load none (.t 36), none⟩,
 ⟨some 38, .conv (.int .u64) (.t 37), none⟩,
 ⟨some 39, .bin .add (.t 32) (.t 38), none⟩,
 ⟨some 4, .mov (.t 39), none⟩] []) <|
 .keep [1, 4, 5] [[1]]) <|
 .keep [1, 4, 5] [[1]]) <|
 .seq (.reg [⟨some 29, .mov (.t 5), none⟩,
 ⟨some 30, .bin .sub (.t 29) (.c (.v (.int .i64 1))), none⟩,
 ⟨some 5, .mov (.t 30), none⟩] []) <|
 .keep [1, 4, 5] [[1]]) <|
 .keep [1, 4, 5] [[1]]
def integer_Small : CF := ⟨1, .seq (.seq (.reg [⟨some 1, .box (.t 0), none⟩,
 ⟨some 2, .mov (.c (.v (.int .i64 0))), none⟩,
 ⟨some 3, .mov (.c (.v (.bool false))), none⟩] []) <|
 .keep [1] [[1]]) <|
 .seq (.seq (.seq (.reg [⟨some 6, .fad 1 (.t 1), none⟩,
 ⟨some 7, .load none (.t 6), none⟩,
 ⟨some 8, .len (.t 7), none⟩,
 ⟨some 9, .bin .gtr (.t 8) (.c (.v (.int .i64 3))), none⟩,
 ⟨some 10, .mov (.t 9), none⟩,
 ⟨some 11, .fad 1 (.t 1), (some (10, false))⟩,
 ⟨some 12, .load none (.t 11), (some (10, false))⟩,
 ⟨some 13, .len (.t 12), (some (10, false))⟩,
 ⟨some 14, .bin .eql (.t 13) (.c (.v (.int .i64 3))), (some (10, false))⟩,
 ⟨some 15, .mov (.t 14), (some (10, false))⟩,
 ⟨some 16, .fad 1 (.t 1), (some (15, true))⟩,
 ⟨some 17, .load none (.t 16), (some (15, true))⟩,
 ⟨some 18, .ixa 1 (.t 17) (.c (.v (.int .i64 2))), (some (15, true))⟩,
 ⟨some 19, .load none (.t 18), (some (15, true))⟩,
 ⟨some 20, .bin .gtr (.t 19) (.c (.v (.int .i64 9))), (some (15, true))⟩,
 ⟨some 21, .pick (.t 15) (.t 20) (.c (.v (.bool false))), (some (10, false))⟩,
 ⟨some 22, .pick (.t 10) (.c (.v (.bool true))) (.t 21), none⟩] []) <|
 .keep [1, 22] [[1]]) <|
 .cond (.t 22) (.seq (.seq (.reg [⟨some 2, .mov (.c (.v (.int .i64 0))), none⟩,
 ⟨some 3, .mov (.c (.v (.bool false))), none⟩] []) <|
 .keep [2, 3] []) <|
 .ret) <|
 .skip) <|
 .seq (.seq (.reg [⟨some 4, .mov (.c (.v (.int .u64 0))), none⟩] []) <|
 .keep [1, 4] [[1]]) <|
 .seq (.seq (.seq (.reg [⟨some 23, .fad 1 (.t 1), none⟩,
 ⟨some 24, .load none (.t 23), none⟩,
 ⟨some 25, .len (.t 24), none⟩,
 ⟨some 26, .bin .sub (.t 25) (.c (.v (.int .i64 1))), none⟩,
 ⟨some 5, .mov (.t 26), none⟩] []) <|
 .keep [1, 4, 5] [[1]]) <|
 .seq (.blk 0 <|
 .seq (.keep [1, 4, 5] [[1]]) <|
 .loop integer_Small_l0) <|
 .keep [1, 4] [[1]]) <|
 .seq (.seq (.blk 2 <|
 .seq (.seq (.reg [⟨some 41, .fad 0 (.t 1), none⟩,
 ⟨some 42, .load none (.t 41), none⟩,
 ⟨some 43, .mov (.t 42), none⟩,
 ⟨some 44, .mov (.t 4), (some (43, true))⟩,
 ⟨some 45, .bin .leq (.t 44) (.c (.v (.int .u64 9223372036854775808))), (some (43, true))⟩,
 ⟨some 46, .pick (.t 43) (.t 45) (.c (.v (.bool false))), none⟩,
 ⟨some 40, .mov (.t 46), none⟩] []) <|
 .keep [1, 4, 40] [[1]]) <|
 .cond (.t 40) (.seq (.seq (.reg [⟨some 47, .mov (.t 4), none⟩,
 ⟨some 48, .un .neg (.t 47), none⟩,
 ⟨some 49, .conv (.int .i64) (.t 48), none⟩,
 ⟨some 2, .mov (.t 49), none⟩,
 ⟨some 3, .mov (.c (.v (.bool true))), none⟩] []) <|
 .keep [2, 3] []) <|
 .ret) <|
 .seq (.seq (.reg [⟨some 51, .fad 0 (.t 1), none⟩,
 ⟨some 52, .load none (.t 51), none⟩,
 ⟨some 53, .un .not (.t 52), none⟩,
 ⟨some 54, .mov (.t 53), none⟩,
 ⟨some 55, .mov (.t 4), (some (54, true))⟩,
 ⟨some 56, .bin .lss (.t 55) (.c (.v (.int .u64 9223372036854775808))), (some (54, true))⟩,
 ⟨some 57, .pick (.t 54) (.t 56) (.c (.v (.bool false))), none⟩,
 ⟨some 50, .mov (.t 57), none⟩] []) <|
 .keep [4, 50] []) <|
 .cond (.t 50) (.seq (.seq (.reg [⟨some 58, .mov (.t 4), none⟩,
 ⟨some 59, .conv (.int .i64) (.t 58), none⟩,
 ⟨some 2, .mov (.t 59), none⟩,
 ⟨some 3, .mov (.c (.v (.bool true))), none⟩] []) <|
 .keep [2, 3] []) <|
 .ret) <|
 .skip) <|
 .keep [] []) <|
 .seq (.seq (.reg [⟨some 2, .mov (.c (.v (.int .i64 0))), none⟩,
 ⟨some 3, .mov (.c (.v (.bool false))), none⟩] []) <|
 .keep [2, 3] []) <|
 .ret, [.t 2, .t 3]⟩

def convex_gcd_l0 : C :=
 .seq (.seq (.seq (.seq (.reg [⟨some 5, .mov (.t 1), none⟩,
 ⟨some 6, .bin .neq (.t 5) (.c (.v (.int .i64 0))), none⟩] []) <|
 .keep [0, 1, 6] []) <|
 .cond (.t 6) (.skip) <|
 .seq (.keep [0] []) <|
 .exit 0) <|
 .seq (.blk 1 <|
 .seq (.reg [⟨some 7, .mov (.t 1), none⟩,
 ⟨some 8, .mov (.t 0), none⟩,
 ⟨some 9, .mov (.t 1), none⟩,
 ⟨some 10, .bin .rem (.t 8) (.t 9), none⟩,
 ⟨some 0, .mov (.t 7), none⟩,
 ⟨some 1, .mov (.t 10), none⟩] []) <|
 .keep [0, 1] []) <|
 .keep [0, 1] []) <|
 .keep [0, 1] []
def convex_gcd : CF := ⟨2, .seq (.seq (.reg [⟨some 4, .mov (.c (.v (.int .i64 0))), none⟩] []) <|
 .keep [0, 1] []) <|
 .seq (.seq (.blk 0 <|
 .seq (.keep [0, 1] []) <|
 .loop convex_gcd_l0) <|
 .keep [0] []) <|
 .seq (.seq (.reg [⟨some 11, .mov (.t 0), none⟩,
 ⟨some 12, .mov (.t 0), none⟩,
 ⟨some 13, .un .neg (.t 12), none⟩,
 ⟨some 14, .mx [(.t 11), (.t 13)], none⟩,
 ⟨some 4, .mov (.t 14), none⟩] []) <|
 .keep [4] []) <|
 .ret, [.t 4]⟩

def gantryref12_Norm : CF := ⟨2, .seq (.seq (.reg [⟨some 2, .box (.t 0), none⟩,
 ⟨some 3, .box (.t 1), none⟩,
 ⟨some 4, .new [.v (.int .i64 0), .v (.int .i64 0), .v (.int .i64 0)], none⟩,
 ⟨some 5, .mov (.c (.v (.bool false))), none⟩] []) <|
 .keep [2, 3, 4] [[2], [3], [4]]) <|
 .seq (.seq (.reg [⟨some 13, .fad 0 (.t 3), none⟩,
 ⟨some 14, .load none (.t 13), none⟩,
 ⟨some 15, .fad 0 (.t 2), none⟩,
 ⟨some 16, .load none (.t 15), none⟩,
 ⟨some 17, .bin .sub (.t 14) (.t 16), none⟩,
 ⟨some 6, .mov (.t 17), none⟩] []) <|
 .keep [2, 3, 4, 6] [[2], [3], [4]]) <|
 .seq (.seq (.reg [⟨some 18, .fad 1 (.t 3), none⟩,
 ⟨some 19, .load none (.t 18), none⟩,
 ⟨some 20, .fad 1 (.t 2), none⟩,
 ⟨some 21, .load none (.t 20), none⟩,
 ⟨some 22, .bin .sub (.t 19) (.t 21), none⟩,
 ⟨some 7, .mov (.t 22), none⟩] []) <|
 .keep [4, 6, 7] [[4]]) <|
 .seq (.seq (.reg [⟨some 24, .mov (.t 6), none⟩,
 ⟨some 25, .mov (.t 6), none⟩,
 ⟨some 26, .bin .mul (.t 24) (.t 25), none⟩,
 ⟨some 27, .mov (.t 7), none⟩,
 ⟨some 28, .mov (.t 7), none⟩,
 ⟨some 29, .bin .mul (.t 27) (.t 28), none⟩,
 ⟨some 30, .bin .add (.t 26) (.t 29), none⟩,
 ⟨some 31, .call n_gantryref04_Of [(.t 30)] false, none⟩,
 ⟨some 32, .call n_gantryref04_Root [(.t 31)] false, none⟩,
 ⟨some 23, .mov (.t 32), none⟩,
 ⟨some 33, .ext (.t 23) 0, none⟩,
 ⟨some 34, .ext (.t 23) 1, none⟩,
 ⟨some 8, .new [.v (.bool false), .z true], none⟩,
 ⟨none, .store 2 (.t 8) (.t 33), none⟩,
 ⟨some 9, .mov (.t 34), none⟩] []) <|
 .keep [4, 6, 7, 8, 9] [[4], [8]]) <|
 .seq (.seq (.reg [⟨some 36, .load (some 2) (.t 8), none⟩,
 ⟨some 37, .call n_gantryref04_Small [(.t 36)] false, none⟩,
 ⟨some 35, .mov (.t 37), none⟩,
 ⟨some 38, .ext (.t 35) 0, none⟩,
 ⟨some 39, .ext (.t 35) 1, none⟩,
 ⟨some 10, .mov (.t 38), none⟩,
 ⟨some 11, .mov (.t 39), none⟩] []) <|
 .keep [4, 6, 7, 9, 10] [[4]]) <|
 .seq (.seq (.seq (.reg [⟨some 40, .mov (.t 9), none⟩,
 ⟨some 41, .un .not (.t 40), none⟩,
 ⟨some 42, .mov (.t 41), none⟩,
 ⟨some 43, .mov (.t 10), (some (42, false))⟩,
 ⟨some 44, .bin .eql (.t 43) (.c (.v (.int .i64 0))), (some (42, false))⟩,
 ⟨some 45, .pick (.t 42) (.c (.v (.bool true))) (.t 44), none⟩] []) <|
 .keep [4, 6, 7, 10, 45] [[4]]) <|
 .cond (.t 45) (.seq (.seq (.reg [⟨some 46, .build [.v (.int .i64 0), .v (.int .i64 0), .v (.int .i64 0)] [], none⟩,
 ⟨none, .store 3 (.t 4) (.t 46), none⟩,
 ⟨some 5, .mov (.c (.v (.bool false))), none⟩] []) <|
 .keep [4, 5] [[4]]) <|
 .ret) <|
 .skip) <|
 .seq (.seq (.reg [⟨some 47, .mov (.t 6), none⟩,
 ⟨some 48, .call n_gantryref12_size [(.t 47)] false, none⟩,
 ⟨some 49, .mov (.t 7), none⟩,
 ⟨some 50, .call n_gantryref12_size [(.t 49)] false, none⟩,
 ⟨some 51, .call n_gantryref12_divisor [(.t 48), (.t 50)] false, none⟩,
 ⟨some 52, .mov (.t 10), none⟩,
 ⟨some 53, .call n_gantryref12_divisor [(.t 51), (.t 52)] false, none⟩,
 ⟨some 12, .mov (.t 53), none⟩] []) <|
 .keep [4, 6, 7, 10, 12] [[4]]) <|
 .seq (.seq (.reg [⟨some 54, .mov (.t 7), none⟩,
 ⟨some 55, .mov (.t 12), none⟩,
 ⟨some 56, .bin .quo (.t 54) (.t 55), none⟩,
 ⟨some 57, .mov (.t 6), none⟩,
 ⟨some 58, .un .neg (.t 57), none⟩,
 ⟨some 59, .mov (.t 12), none⟩,
 ⟨some 60, .bin .quo (.t 58) (.t 59), none⟩,
 ⟨some 61, .mov (.t 10), none⟩,
 ⟨some 62, .mov (.t 12), none⟩,
 ⟨some 63, .bin .quo (.t 61) (.t 62), none⟩,
 ⟨some 64, .build [.v (.int .i64 0), .v (.int .i64 0), .v (.int .i64 0)] [(0, 1, (.t 56)), (1, 1, (.t 60)), (2, 1, (.t 63))], none⟩,
 ⟨none, .store 3 (.t 4) (.t 64), none⟩,
 ⟨some 5, .mov (.c (.v (.bool true))), none⟩] []) <|
 .keep [4, 5] [[4]]) <|
 .ret, [.cell 4 (some 3), .t 5]⟩

def cmp_isNaN_int : CF := ⟨1, .seq (.seq (.reg [⟨some 2, .mov (.c (.v (.bool false))), none⟩] []) <|
 .keep [0] []) <|
 .seq (.seq (.reg [⟨some 3, .mov (.t 0), none⟩,
 ⟨some 4, .mov (.t 0), none⟩,
 ⟨some 5, .bin .neq (.t 3) (.t 4), none⟩,
 ⟨some 2, .mov (.t 5), none⟩] []) <|
 .keep [2] []) <|
 .ret, [.t 2]⟩

def rat_lowest : CF := ⟨2, .seq (.seq (.reg [⟨some 2, .box (.t 0), none⟩,
 ⟨some 3, .box (.t 1), none⟩,
 ⟨some 4, .new [.v (.bool false), .z true, .v (.bool false), .z true], none⟩] []) <|
 .keep [2, 3, 4] [[2], [3], [4]]) <|
 .seq (.seq (.seq (.reg [⟨some 5, .fad 0 (.t 3), none⟩,
 ⟨some 6, .load none (.t 5), none⟩] []) <|
 .keep [2, 3, 4, 6] [[2], [3], [4]]) <|
 .cond (.t 6) (.seq (.reg [⟨some 7, .load (some 2) (.t 2), none⟩,
 ⟨some 8, .call n_integer_Neg [(.t 7)] false, none⟩,
 ⟨some 9, .load (some 2) (.t 3), none⟩,
 ⟨some 10, .call n_integer_Neg [(.t 9)] false, none⟩,
 ⟨none, .store 2 (.t 2) (.t 8), none⟩,
 ⟨none, .store 2 (.t 3) (.t 10), none⟩] []) <|
 .keep [2, 3, 4] [[2], [3], [4]]) <|
 .skip) <|
 .seq (.seq (.seq (.reg [⟨some 11, .load (some 2) (.t 3), none⟩,
 ⟨some 12, .call n_rat_unit [(.t 11)] false, none⟩] []) <|
 .keep [2, 3, 4, 12] [[2], [3], [4]]) <|
 .cond (.t 12) (.seq (.seq (.reg [⟨some 13, .load (some 2) (.t 2), none⟩,
 ⟨some 14, .build [.v (.bool false), .z true, .v (.bool false), .z true] [(0, 2, (.t 13))], none⟩,
 ⟨none, .store 4 (.t 4) (.t 14), none⟩] []) <|
 .keep [4] [[4]]) <|
 .ret) <|
 .skip) <|
 .seq (.seq (.reg [⟨some 15, .load (some 2) (.t 2), none⟩,
 ⟨some 16, .load (some 2) (.t 3), none⟩,
 ⟨some 17, .build [.v (.bool false), .z true, .v (.bool false), .z true] [(0, 2, (.t 15)), (2, 2, (.t 16))], none⟩,
 ⟨none, .store 4 (.t 4) (.t 17), none⟩] []) <|
 .keep [4] [[4]]) <|
 .ret, [.cell 4 (some 4)]⟩

def gantryref05_Neg : CF := ⟨1, .seq (.seq (.reg [⟨some 1, .box (.t 0), none⟩,
 ⟨some 2, .new [.v (.bool false), .z true, .v (.bool false), .z true], none⟩] []) <|
 .keep [1, 2] [[1], [2]]) <|
 .seq (.seq (.reg [⟨some 3, .fad 0 (.t 1), none⟩,
 ⟨some 4, .load (some 2) (.t 3), none⟩,
 ⟨some 5, .call n_gantryref04_Neg [(.t 4)] false, none⟩,
 ⟨some 6, .fad 2 (.t 1), none⟩,
 ⟨some 7, .load (some 2) (.t 6), none⟩,
 ⟨some 8, .build [.v (.bool false), .z true, .v (.bool false), .z true] [(0, 2, (.t 5)), (2, 2, (.t 7))], none⟩,
 ⟨none, .store 4 (.t 2) (.t 8), none⟩] []) <|
 .keep [2] [[2]]) <|
 .ret, [.cell 2 (some 4)]⟩

def gantryref04_Sign : CF := ⟨1, .seq (.seq (.reg [⟨some 1, .box (.t 0), none⟩,
 ⟨some 2, .mov (.c (.v (.int .i64 0))), none⟩] []) <|
 .keep [1] [[1]]) <|
 .seq (.seq (.reg [⟨some 3, .load (some 2) (.t 1), none⟩,
 ⟨some 4, .build [.v (.bool false), .z true] [], none⟩,
 ⟨some 5, .call n_gantryref04_Compare [(.t 3), (.t 4)] false, none⟩,
 ⟨some 2, .mov (.t 5), none⟩] []) <|
 .keep [2] []) <|
 .ret, [.t 2]⟩

def slices_IndexFunc_api_Edge_api_Edge_l0 : C :=
 .seq (.seq (.seq (.reg [⟨some 9, .bin .lss (.t 8) (.t 7), none⟩] []) <|
 .keep [0, 1, 7, 8, 9] []) <|
 .seq (.cond (.t 9) (.skip) <|
 .seq (.keep [] []) <|
 .exit 0) <|
 .seq (.seq (.blk 1 <|
 .seq (.seq (.reg [⟨some 10, .mov (.t 8), none⟩,
 ⟨some 5, .mov (.t 10), none⟩] []) <|
 .keep [0, 1, 5, 7, 8] []) <|
 .seq (.seq (.reg [⟨some 11, .mov (.t 1), none⟩,
 ⟨some 12, .mov (.t 0), none⟩,
 ⟨some 13, .mov (.t 5), none⟩,
 ⟨some 14, .ixa 4 (.t 12) (.t 13), none⟩,
 ⟨some 15, .load (some 4) (.t 14), none⟩,
 ⟨some 16, .calv (.t 11) [(.t 15)], none⟩] []) <|
 .keep [0, 1, 5, 7, 8, 16] []) <|
 .cond (.t 16) (.seq (.seq (.reg [⟨some 17, .mov (.t 5), none⟩,
 ⟨some 4, .mov (.t 17), none⟩] []) <|
 .keep [4] []) <|
 .ret) <|
 .skip) <|
 .keep [0, 1, 7, 8] []) <|
 .seq (.reg [⟨some 18, .bin .add (.t 8) (.c (.v (.int .i64 1))), none⟩,
 ⟨some 8, .mov (.t 18), none⟩] []) <|
 .keep [0, 1, 7, 8] []) <|
 .keep [0, 1, 7, 8] []
def slices_IndexFunc_api_Edge_api_Edge : CF := ⟨2, .seq (.seq (.reg [⟨some 4, .mov (.c (.v (.int .i64 0))), none⟩] []) <|
 .keep [0, 1] []) <|
 .seq (.seq (.seq (.reg [⟨some 6, .mov (.t 0), none⟩,
 ⟨some 7, .len (.t 6), none⟩,
 ⟨some 8, .mov (.c (.v (.int .i64 0))), none⟩] []) <|
 .keep [0, 1, 7, 8] []) <|
 .seq (.blk 0 <|
 .seq (.keep [0, 1, 7, 8] []) <|
 .loop slices_IndexFunc_api_Edge_api_Edge_l0) <|
 .keep [] []) <|
 .seq (.seq (.reg [⟨some 4, .mov (.c (.v (.int .i64 (-1)))), none⟩] []) <|
 .keep [4] []) <|
 .ret, [.t 4]⟩

def integer_Sign : CF := ⟨1, .seq (.seq (.reg [⟨some 1, .box (.t 0), none⟩,
 ⟨some 2, .mov (.c (.v (.int .i64 0))), none⟩] []) <|
 .keep [1] [[1]]) <|
 .seq (.seq (.blk 0 <|
 .seq (.seq (.reg [⟨some 4, .fad 0 (.t 1), none⟩,
 ⟨some 5, .load none (.t 4), none⟩,
 ⟨some 3, .mov (.t 5), none⟩] []) <|
 .keep [1, 3] [[1]]) <|
 .cond (.t 3) (.seq (.seq (.reg [⟨some 2, .mov (.c (.v (.int .i64 (-1)))), none⟩] []) <|
 .keep [2] []) <|
 .ret) <|
 .seq (.seq (.reg [⟨some 7, .fad 1 (.t 1), none⟩,
 ⟨some 8, .load none (.t 7), none⟩,
 ⟨some 9, .len (.t 8), none⟩,
 ⟨some 10, .bin .eql (.t 9) (.c (.v (.int .i64 0))), none⟩,
 ⟨some 6, .mov (.t 10), none⟩] []) <|
 .keep [6] []) <|
 .cond (.t 6) (.seq (.seq (.reg [⟨some 2, .mov (.c (.v (.int .i64 0))), none⟩] []) <|
 .keep [2] []) <|
 .ret) <|
 .skip) <|
 .keep [] []) <|
 .seq (.seq (.reg [⟨some 2, .mov (.c (.v (.int .i64 1))), none⟩] []) <|
 .keep [2] []) <|
 .ret, [.t 2]⟩

def integer_compare_l0 : C :=
 .seq (.seq (.seq (.seq (.reg [⟨some 19, .mov (.t 5), none⟩,
 ⟨some 20, .bin .geq (.t 19) (.c (.v (.int .i64 0))), none⟩] []) <|
 .keep [0, 1, 5, 20] []) <|
 .cond (.t 20) (.skip) <|
 .seq (.keep [] []) <|
 .exit 0) <|
 .seq (.seq (.blk 1 <|
 .seq (.seq (.reg [⟨some 23, .mov (.t 0), none⟩,
 ⟨some 24, .mov (.t 5), none⟩,
 ⟨some 25, .ixa 1 (.t 23) (.t 24), none⟩,
 ⟨some 26, .load none (.t 25), none⟩,
 ⟨some 27, .mov (.t 1), none⟩,
 ⟨some 28, .mov (.t 5), none⟩,
 ⟨some 29, .ixa 1 (.t 27) (.t 28), none⟩,
 ⟨some 30, .load none (.t 29), none⟩,
 ⟨some 31, .bin .neq (.t 26) (.t 30), none⟩] []) <|
 .keep [0, 1, 5, 31] []) <|
 .cond (.t 31) (.seq (.seq (.reg [⟨some 32, .mov (.t 0), none⟩,
 ⟨some 33, .mov (.t 5), none⟩,
 ⟨some 34, .ixa 1 (.t 32) (.t 33), none⟩,
 ⟨some 35, .load none (.t 34), none⟩,
 ⟨some 36, .mov (.t 1), none⟩,
 ⟨some 37, .mov (.t 5), none⟩,
 ⟨some 38, .ixa 1 (.t 36) (.t 37), none⟩,
 ⟨some 39, .load none (.t 38), none⟩,
 ⟨some 40, .call n_cmp_Compare_int [(.t 35), (.t 39)] false, none⟩,
 ⟨some 4, .mov (.t 40), none⟩] []) <|
 .keep [4] []) <|
 .ret) <|
 .skip) <|
 .keep [0, 1, 5] []) <|
 .seq (.reg [⟨some 21, .mov (.t 5), none⟩,
 ⟨some 22, .bin .sub (.t 21) (.c (.v (.int .i64 1))), none⟩,
 ⟨some 5, .mov (.t 22), none⟩] []) <|
 .keep [0, 1, 5] []) <|
 .keep [0, 1, 5] []
def integer_compare : CF := ⟨2, .seq (.seq (.reg [⟨some 4, .mov (.c (.v (.int .i64 0))), none⟩] []) <|
 .keep [0, 1] []) <|
 .seq (.seq (.seq (.reg [⟨some 6, .mov (.t 0), none⟩,
 ⟨some 7, .len (.t 6), none⟩,
 ⟨some 8, .mov (.t 1), none⟩,
 ⟨some 9, .len (.t 8), none⟩,
 ⟨some 10, .bin .neq (.t 7) (.t 9), none⟩] []) <|
 .keep [0, 1, 10] []) <|
 .cond (.t 10) (.seq (.seq (.reg [⟨some 11, .mov (.t 0), none⟩,
 ⟨some 12, .len (.t 11), none⟩,
 ⟨some 13, .mov (.t 1), none⟩,
 ⟨some 14, .len (.t 13), none⟩,
 ⟨some 15, .call n_cmp_Compare_int [(.t 12), (.t 14)] false, none⟩,
 ⟨some 4, .mov (.t 15), none⟩] []) <|
 .keep [4] []) <|
 .ret) <|
 .skip) <|
 .seq (.seq (.seq (.reg [⟨some 16, .mov (.t 0), none⟩,
 ⟨some 17, .len (.t 16), none⟩,
 ⟨some 18, .bin .sub (.t 17) (.c (.v (.int .i64 1))), none⟩,
 ⟨some 5, .mov (.t 18), none⟩] []) <|
 .keep [0, 1, 5] []) <|
 .seq (.blk 0 <|
 .seq (.keep [0, 1, 5] []) <|
 .loop integer_compare_l0) <|
 .keep [] []) <|
 .seq (.seq (.reg [⟨some 4, .mov (.c (.v (.int .i64 0))), none⟩] []) <|
 .keep [4] []) <|
 .ret, [.t 4]⟩

def integer_unsigned : CF := ⟨2, .seq (.seq (.reg [⟨some 4, .new [.v (.bool false), .z true], none⟩] []) <|
 .keep [0, 1, 4] [[4]]) <|
 .seq (.seq (.blk 0 <|
 .seq (.seq (.reg [⟨some 6, .mov (.t 1), none⟩,
 ⟨some 7, .bin .eql (.t 6) (.c (.v (.int .u64 0))), none⟩,
 ⟨some 5, .mov (.t 7), none⟩] []) <|
 .keep [0, 1, 4, 5] [[4]]) <|
 .cond (.t 5) (.seq (.seq (.reg [⟨some 8, .build [.v (.bool false), .z true] [], none⟩,
 ⟨none, .store 2 (.t 4) (.t 8), none⟩] []) <|
 .keep [4] [[4]]) <|
 .ret) <|
 .seq (.seq (.reg [⟨some 10, .mov (.t 1), none⟩,
 ⟨some 11, .bin .lss (.t 10) (.c (.v (.int .u64 1000000000))), none⟩,
 ⟨some 9, .mov (.t 11), none⟩] []) <|
 .keep [0, 1, 4, 9] [[4]]) <|
 .cond (.t 9) (.seq (.seq (.reg [⟨some 12, .mov (.t 0), none⟩,
 ⟨some 13, .mov (.t 1), none⟩,
 ⟨some 14, .conv (.int .i64) (.t 13), none⟩,
 ⟨some 15, .lit 1 1 [.v (.int .i64 0)] [(0, (.t 14))] true, none⟩,
 ⟨some 16, .build [.v (.bool false), .z true] [(0, 1, (.t 12)), (1, 1, (.t 15))], none⟩,
 ⟨none, .store 2 (.t 4) (.t 16), none⟩] []) <|
 .keep [4] [[4]]) <|
 .ret) <|
 .seq (.seq (.reg [⟨some 18, .mov (.t 1), none⟩,
 ⟨some 19, .bin .lss (.t 18) (.c (.v (.int .u64 1000000000000000000))), none⟩,
 ⟨some 17, .mov (.t 19), none⟩] []) <|
 .keep [0, 1, 4, 17] [[4]]) <|
 .cond (.t 17) (.seq (.seq (.reg [⟨some 20, .mov (.t 0), none⟩,
 ⟨some 21, .mov (.t 1), none⟩,
 ⟨some 22, .bin .rem (.t 21) (.c (.v (.int .u64 1000000000))), none⟩,
 ⟨some 23, .conv (.int .i64) (.t 22), none⟩,
 ⟨some 24, .mov (.t 1), none⟩,
 ⟨some 25, .bin .quo (.t 24) (.c (.v (.int .u64 1000000000))), none⟩,
 ⟨some 26, .conv (.int .i64) (.t 25), none⟩,
 ⟨some 27, .lit 1 2 [.v (.int .i64 0)] [(0, (.t 23)), (1, (.t 26))] true, none⟩,
 ⟨some 28, .build [.v (.bool false), .z true] [(0, 1, (.t 20)), (1, 1, (.t 27))], none⟩,
 ⟨none, .store 2 (.t 4) (.t 28), none⟩] []) <|
 .keep [4] [[4]]) <|
 .ret) <|
 .skip) <|
 .keep [0, 1, 4] [[4]]) <|
 .seq (.seq (.reg [⟨some 29, .mov (.t 0), none⟩,
 ⟨some 30, .mov (.t 1), none⟩,
 ⟨some 31, .bin .rem (.t 30) (.c (.v (.int .u64 1000000000))), none⟩,
 ⟨some 32, .conv (.int .i64) (.t 31), none⟩,
 ⟨some 33, .mov (.t 1), none⟩,
 ⟨some 34, .bin .quo (.t 33) (.c (.v (.int .u64 1000000000))), none⟩,
 ⟨some 35, .bin .rem (.t 34) (.c (.v (.int .u64 1000000000))), none⟩,
 ⟨some 36, .conv (.int .i64) (.t 35), none⟩,
 ⟨some 37, .mov (.t 1), none⟩,
 ⟨some 38, .bin .quo (.t 37) (.c (.v (.int .u64 1000000000))), none⟩,
 ⟨some 39, .bin .quo (.t 38) (.c (.v (.int .u64 1000000000))), none⟩,
 ⟨some 40, .conv (.int .i64) (.t 39), none⟩,
 ⟨some 41, .lit 1 3 [.v (.int .i64 0)] [(0, (.t 32)), (1, (.t 36)), (2, (.t 40))] true, none⟩,
 ⟨some 42, .build [.v (.bool false), .z true] [(0, 1, (.t 29)), (1, 1, (.t 41))], none⟩,
 ⟨none, .store 2 (.t 4) (.t 42), none⟩] []) <|
 .keep [4] [[4]]) <|
 .ret, [.cell 4 (some 2)]⟩

def integer_of_l0 : C :=
 .seq (.seq (.seq (.seq (.reg [⟨some 8, .mov (.t 5), none⟩,
 ⟨some 9, .bin .gtr (.t 8) (.c (.v (.int .i64 0))), none⟩,
 ⟨some 10, .mov (.t 9), none⟩,
 ⟨some 11, .mov (.t 1), (some (10, true))⟩,
 ⟨some 12, .mov (.t 5), (some (10, true))⟩,
 ⟨some 13, .bin .sub (.t 12) (.c (.v (.int .i64 1))), (some (10, true))⟩,
 ⟨some 14, .ixa 1 (.t 11) (.t 13), (some (10, true))⟩,
 ⟨some 15, .load none (.t 14), (some (10, true))⟩,
 ⟨some 16, .bin .eql (.t 15) (.c (.v (.int .i64 0))), (some (10, true))⟩,
 ⟨some 17, .pick (.t 10) (.t 16) (.c (.v (.bool false))), none⟩] []) <|
 .keep [0, 1, 4, 5, 17] [[4]]) <|
 .cond (.t 17) (.skip) <|
 .seq (.keep [0, 1, 4, 5] [[4]]) <|
 .exit 0) <|
 .seq (.blk 1 <|
 .seq (.reg [⟨some 18, .mov (.t 5), none⟩,
 ⟨some 19, .bin .sub (.t 18) (.c (.v (.int .i64 1))), none⟩,
 ⟨some 5, .mov (.t 19), none⟩] []) <|
 .keep [0, 1, 4, 5] [[4]]) <|
 .keep [0, 1, 4, 5] [[4]]) <|
 .keep [0, 1, 4, 5] [[4]]
def integer_of : CF := ⟨2, .seq (.seq (.reg [⟨some 4, .new [.v (.bool false), .z true], none⟩] []) <|
 .keep [0, 1, 4] [[4]]) <|
 .seq (.seq (.reg [⟨some 6, .mov (.t 1), none⟩,
 ⟨some 7, .len (.t 6), none⟩,
 ⟨some 5, .mov (.t 7), none⟩] []) <|
 .keep [0, 1, 4, 5] [[4]]) <|
 .seq (.seq (.blk 0 <|
 .seq (.keep [0, 1, 4, 5] [[4]]) <|
 .loop integer_of_l0) <|
 .keep [0, 1, 4, 5] [[4]]) <|
 .seq (.seq (.seq (.reg [⟨some 20, .mov (.t 5), none⟩,
 ⟨some 21, .bin .eql (.t 20) (.c (.v (.int .i64 0))), none⟩] []) <|
 .keep [0, 1, 4, 5, 21] [[4]]) <|
 .cond (.t 21) (.seq (.seq (.reg [⟨some 22, .build [.v (.bool false), .z true] [], none⟩,
 ⟨none, .store 2 (.t 4) (.t 22), none⟩] []) <|
 .keep [4] [[4]]) <|
 .ret) <|
 .skip) <|
 .seq (.seq (.reg [⟨some 23, .mov (.t 0), none⟩,
 ⟨some 24, .mov (.t 1), none⟩,
 ⟨some 25, .mov (.t 5), none⟩,
 ⟨some 26, .mov (.t 5), none⟩,
 ⟨some 27, .slc 1 (.t 24) none (some (.t 25)) (some (.t 26)), none⟩,
 ⟨some 28, .build [.v (.bool false), .z true] [(0, 1, (.t 23)), (1, 1, (.t 27))], none⟩,
 ⟨none, .store 2 (.t 4) (.t 28), none⟩] []) <|
 .keep [4] [[4]]) <|
 .ret, [.cell 4 (some 2)]⟩

def rat_one : CF := ⟨0, .seq (.seq (.reg [⟨some 0, .new [.v (.bool false), .z true], none⟩] []) <|
 .keep [0] [[0]]) <|
 .seq (.seq (.reg [⟨some 1, .call n_integer_Of [(.c (.v (.int .i64 1)))] false, none⟩,
 ⟨none, .store 2 (.t 0) (.t 1), none⟩] []) <|
 .keep [0] [[0]]) <|
 .ret, [.cell 0 (some 2)]⟩

def gantryref04_Add : CF := ⟨2, .seq (.seq (.reg [⟨some 2, .box (.t 0), none⟩,
 ⟨some 3, .box (.t 1), none⟩,
 ⟨some 4, .new [.v (.bool false), .z true], none⟩] []) <|
 .keep [2, 3, 4] [[2], [3], [4]]) <|
 .seq (.seq (.seq (.reg [⟨some 5, .fad 0 (.t 2), none⟩,
 ⟨some 6, .load none (.t 5), none⟩,
 ⟨some 7, .fad 0 (.t 3), none⟩,
 ⟨some 8, .load none (.t 7), none⟩,
 ⟨some 9, .binb false (.t 6) (.t 8), none⟩] []) <|
 .keep [2, 3, 4, 9] [[2], [3], [4]]) <|
 .cond (.t 9) (.seq (.seq (.reg [⟨some 10, .fad 0 (.t 2), none⟩,
 ⟨some 11, .load none (.t 10), none⟩,
 ⟨some 12, .fad 1 (.t 2), none⟩,
 ⟨some 13, .load none (.t 12), none⟩,
 ⟨some 14, .fad 1 (.t 3), none⟩,
 ⟨some 15, .load none (.t 14), none⟩,
 ⟨some 16, .call n_gantryref04_plus [(.t 13), (.t 15)] false, none⟩,
 ⟨some 17, .call n_gantryref04_normal [(.t 11), (.t 16)] false, none⟩,
 ⟨none, .store 2 (.t 4) (.t 17), none⟩] []) <|
 .keep [4] [[4]]) <|
 .ret) <|
 .skip) <|
 .seq (.seq (.seq (.reg [⟨some 18, .fad 1 (.t 2), none⟩,
 ⟨some 19, .load none (.t 18), none⟩,
 ⟨some 20, .fad 1 (.t 3), none⟩,
 ⟨some 21, .load none (.t 20), none⟩,
 ⟨some 22, .call n_gantryref04_compared [(.t 19), (.t 21)] false, none⟩,
 ⟨some 23, .bin .lss (.t 22) (.c (.v (.int .i64 0))), none⟩] []) <|
 .keep [2, 3, 4, 23] [[2], [3], [4]]) <|
 .cond (.t 23) (.seq (.seq (.reg [⟨some 24, .fad 0 (.t 3), none⟩,
 ⟨some 25, .load none (.t 24), none⟩,
 ⟨some 26, .fad 1 (.t 3), none⟩,
 ⟨some 27, .load none (.t 26), none⟩,
 ⟨some 28, .fad 1 (.t 2), none⟩,
 ⟨some 29, .load none (.t 28), none⟩,
 ⟨some 30, .call n_gantryref04_minus [(.t 27), (.t 29)] false, none⟩,
 ⟨some 31, .call n_gantryref04_normal [(.t 25), (.t 30)] false, none⟩,
 ⟨none, .store 2 (.t 4) (.t 31), none⟩] []) <|
 .keep [4] [[4]]) <|
 .ret) <|
 .skip) <|
 .seq (.seq (.reg [⟨some 32, .fad 0 (.t 2), none⟩,
 ⟨some 33, .load none (.t 32), none⟩,
 ⟨some 34, .fad 1 (.t 2), none⟩,
 ⟨some 35, .load none (.t 34), none⟩,
 ⟨some 36, .fad 1 (.t 3), none⟩,
 ⟨some 37, .load none (.t 36), none⟩,
 ⟨some 38, .call n_gantryref04_minus [(.t 35), (.t 37)] false, none⟩,
 ⟨some 39, .call n_gantryref04_normal [(.t 33), (.t 38)] false, none⟩,
 ⟨none, .store 2 (.t 4) (.t 39), none⟩] []) <|
 .keep [4] [[4]]) <|
 .ret, [.cell 4 (some 2)]⟩

def integer_Gcd_l0 : C :=
 .seq (.seq (.seq (.seq (.reg [⟨some 39, .mov (.t 9), none⟩,
 ⟨some 40, .bin .gtr (.t 39) (.c (.v (.int .i64 0))), none⟩] []) <|
 .keep [4, 7, 9, 40] [[4]]) <|
 .cond (.t 40) (.skip) <|
 .seq (.keep [4, 7] [[4]]) <|
 .exit 2) <|
 .seq (.blk 3 <|
 .seq (.reg [⟨some 41, .mov (.t 9), none⟩,
 ⟨some 42, .mov (.t 7), none⟩,
 ⟨some 43, .mov (.t 9), none⟩,
 ⟨some 44, .bin .rem (.t 42) (.t 43), none⟩,
 ⟨some 7, .mov (.t 41), none⟩,
 ⟨some 9, .mov (.t 44), none⟩] []) <|
 .keep [4, 7, 9] [[4]]) <|
 .keep [4, 7, 9] [[4]]) <|
 .keep [4, 7, 9] [[4]]
def integer_Gcd_l1 : C :=
 .seq (.seq (.seq (.seq (.reg [⟨some 19, .fad 1 (.t 6), none⟩,
 ⟨some 20, .load none (.t 19), none⟩,
 ⟨some 21, .len (.t 20), none⟩,
 ⟨some 22, .bin .gtr (.t 21) (.c (.v (.int .i64 0))), none⟩] []) <|
 .keep [4, 5, 6, 22] [[4], [5], [6]]) <|
 .cond (.t 22) (.skip) <|
 .seq (.keep [4, 5] [[4], [5]]) <|
 .exit 0) <|
 .seq (.blk 1 <|
 .seq (.seq (.reg [⟨some 24, .fad 1 (.t 5), none⟩,
 ⟨some 25, .load none (.t 24), none⟩,
 ⟨some 26, .call n_integer_two [(.t 25)] false, none⟩,
 ⟨some 23, .mov (.t 26), none⟩,
 ⟨some 27, .ext (.t 23) 0, none⟩,
 ⟨some 28, .ext (.t 23) 1, none⟩,
 ⟨some 7, .mov (.t 27), none⟩,
 ⟨some 8, .mov (.t 28), none⟩] []) <|
 .keep [4, 5, 6, 7, 8] [[4], [5], [6]]) <|
 .seq (.seq (.reg [⟨some 30, .fad 1 (.t 6), none⟩,
 ⟨some 31, .load none (.t 30), none⟩,
 ⟨some 32, .call n_integer_two [(.t 31)] false, none⟩,
 ⟨some 29, .mov (.t 32), none⟩,
 ⟨some 33, .ext (.t 29) 0, none⟩,
 ⟨some 34, .ext (.t 29) 1, none⟩,
 ⟨some 9, .mov (.t 33), none⟩,
 ⟨some 10, .mov (.t 34), none⟩] []) <|
 .keep [4, 5, 6, 7, 8, 9, 10] [[4], [5], [6]]) <|
 .seq (.seq (.seq (.reg [⟨some 35, .mov (.t 8), none⟩,
 ⟨some 36, .mov (.t 35), none⟩,
 ⟨some 37, .mov (.t 10), (some (36, true))⟩,
 ⟨some 38, .pick (.t 36) (.t 37) (.c (.v (.bool false))), none⟩] []) <|
 .keep [4, 5, 6, 7, 9, 38] [[4], [5], [6]]) <|
 .cond (.t 38) (.seq (.seq (.blk 2 <|
 .seq (.keep [4, 7, 9] [[4]]) <|
 .loop integer_Gcd_l0) <|
 .keep [4, 7] [[4]]) <|
 .seq (.seq (.reg [⟨some 45, .mov (.t 7), none⟩,
 ⟨some 46, .conv (.int .u64) (.t 45), none⟩,
 ⟨some 47, .call n_integer_unsigned [(.c (.v (.bool false))), (.t 46)] false, none⟩,
 ⟨none, .store 2 (.t 4) (.t 47), none⟩] []) <|
 .keep [4] [[4]]) <|
 .ret) <|
 .skip) <|
 .seq (.seq (.reg [⟨some 49, .fad 1 (.t 5), none⟩,
 ⟨some 50, .load none (.t 49), none⟩,
 ⟨some 51, .fad 1 (.t 6), none⟩,
 ⟨some 52, .load none (.t 51), none⟩,
 ⟨some 53, .call n_integer_divide [(.t 50), (.t 52)] false, none⟩,
 ⟨some 48, .mov (.t 53), none⟩,
 ⟨some 54, .ext (.t 48) 0, none⟩,
 ⟨some 55, .ext (.t 48) 1, none⟩,
 ⟨some 11, .new [.v (.bool false), .z true], none⟩,
 ⟨some 12, .new [.v (.bool false), .z true], none⟩,
 ⟨none, .store 2 (.t 11) (.t 54), none⟩,
 ⟨none, .store 2 (.t 12) (.t 55), none⟩] []) <|
 .keep [4, 5, 6, 12] [[4], [5], [6], [12]]) <|
 .seq (.reg [⟨some 56, .load (some 2) (.t 6), none⟩,
 ⟨some 57, .load (some 2) (.t 12), none⟩,
 ⟨none, .store 2 (.t 5) (.t 56), none⟩,
 ⟨none, .store 2 (.t 6) (.t 57), none⟩] [((.t 12), 2, (.t 5), 2)]) <|
 .keep [4, 5, 6] [[4], [5], [6]]) <|
 .keep [4, 5, 6] [[4], [5], [6]]) <|
 .keep [4, 5, 6] [[4], [5], [6]]
def integer_Gcd : CF := ⟨2, .seq (.seq (.reg [⟨some 2, .box (.t 0), none⟩,
 ⟨some 3, .box (.t 1), none⟩,
 ⟨some 4, .new [.v (.bool false), .z true], none⟩] []) <|
 .keep [2, 3, 4] [[2], [3], [4]]) <|
 .seq (.seq (.reg [⟨some 13, .fad 1 (.t 2), none⟩,
 ⟨some 14, .load none (.t 13), none⟩,
 ⟨some 15, .call n_integer_of [(.c (.v (.bool false))), (.t 14)] false, none⟩,
 ⟨some 16, .fad 1 (.t 3), none⟩,
 ⟨some 17, .load none (.t 16), none⟩,
 ⟨some 18, .call n_integer_of [(.c (.v (.bool false))), (.t 17)] false, none⟩,
 ⟨some 5, .new [.v (.bool false), .z true], none⟩,
 ⟨some 6, .new [.v (.bool false), .z true], none⟩,
 ⟨none, .store 2 (.t 5) (.t 15), none⟩,
 ⟨none, .store 2 (.t 6) (.t 18), none⟩] []) <|
 .keep [4, 5, 6] [[4], [5], [6]]) <|
 .seq (.seq (.blk 0 <|
 .seq (.keep [4, 5, 6] [[4], [5], [6]]) <|
 .loop integer_Gcd_l1) <|
 .keep [4, 5] [[4], [5]]) <|
 .seq (.seq (.reg [⟨some 58, .load (some 2) (.t 5), none⟩,
 ⟨none, .store 2 (.t 4) (.t 58), none⟩] []) <|
 .keep [4] [[4]]) <|
 .ret, [.cell 4 (some 2)]⟩

def rat_unit : CF := ⟨1, .seq (.seq (.reg [⟨some 1, .box (.t 0), none⟩,
 ⟨some 2, .mov (.c (.v (.bool false))), none⟩] []) <|
 .keep [1] [[1]]) <|
 .seq (.seq (.reg [⟨some 3, .fad 0 (.t 1), none⟩,
 ⟨some 4, .load none (.t 3), none⟩,
 ⟨some 5, .un .not (.t 4), none⟩,
 ⟨some 6, .mov (.t 5), none⟩,
 ⟨some 7, .fad 1 (.t 1), (some (6, true))⟩,
 ⟨some 8, .load none (.t 7), (some (6, true))⟩,
 ⟨some 9, .len (.t 8), (some (6, true))⟩,
 ⟨some 10, .bin .eql (.t 9) (.c (.v (.int .i64 1))), (some (6, true))⟩,
 ⟨some 11, .pick (.t 6) (.t 10) (.c (.v (.bool false))), none⟩,
 ⟨some 12, .mov (.t 11), none⟩,
 ⟨some 13, .fad 1 (.t 1), (some (12, true))⟩,
 ⟨some 14, .load none (.t 13), (some (12, true))⟩,
 ⟨some 15, .ixa 1 (.t 14) (.c (.v (.int .i64 0))), (some (12, true))⟩,
 ⟨some 16, .load none (.t 15), (some (12, true))⟩,
 ⟨some 17, .bin .eql (.t 16) (.c (.v (.int .i64 1))), (some (12, true))⟩,
 ⟨some 18, .pick (.t 12) (.t 17) (.c (.v (.bool false))), none⟩,
 ⟨some 2, .mov (.t 18), none⟩] []) <|
 .keep [2] []) <|
 .ret, [.t 2]⟩

def integer_Div : CF := ⟨2, .seq (.seq (.reg [⟨some 2, .box (.t 0), none⟩,
 ⟨some 3, .box (.t 1), none⟩,
 ⟨some 4, .new [.v (.bool false), .z true], none⟩,
 ⟨some 5, .new [.v (.bool false), .z true], none⟩] []) <|
 .keep [2, 3, 4, 5] [[2], [3], [4], [5]]) <|
 .seq (.seq (.seq (.reg [⟨some 8, .fad 1 (.t 3), none⟩,
 ⟨some 9, .load none (.t 8), none⟩,
 ⟨some 10, .len (.t 9), none⟩,
 ⟨some 11, .bin .eql (.t 10) (.c (.v (.int .i64 0))), none⟩] []) <|
 .keep [2, 3, 4, 5, 11] [[2], [3], [4], [5]]) <|
 .cond (.t 11) (.seq (.seq (.reg [⟨some 12, .build [.v (.bool false), .z true] [], none⟩,
 ⟨some 13, .build [.v (.bool false), .z true] [], none⟩,
 ⟨none, .store 2 (.t 4) (.t 12), none⟩,
 ⟨none, .store 2 (.t 5) (.t 13), none⟩] []) <|
 .keep [4, 5] [[4], [5]]) <|
 .ret) <|
 .skip) <|
 .seq (.seq (.reg [⟨some 15, .fad 1 (.t 2), none⟩,
 ⟨some 16, .load none (.t 15), none⟩,
 ⟨some 17, .fad 1 (.t 3), none⟩,
 ⟨some 18, .load none (.t 17), none⟩,
 ⟨some 19, .call n_integer_divide [(.t 16), (.t 18)] false, none⟩,
 ⟨some 14, .mov (.t 19), none⟩,
 ⟨some 20, .ext (.t 14) 0, none⟩,
 ⟨some 21, .ext (.t 14) 1, none⟩,
 ⟨some 6, .new [.v (.bool false), .z true], none⟩,
 ⟨some 7, .new [.v (.bool false), .z true], none⟩,
 ⟨none, .store 2 (.t 6) (.t 20), none⟩,
 ⟨none, .store 2 (.t 7) (.t 21), none⟩] []) <|
 .keep [2, 3, 4, 5, 6, 7] [[2], [3], [4], [5], [6], [7]]) <|
 .seq (.seq (.seq (.reg [⟨some 22, .fad 0 (.t 2), none⟩,
 ⟨some 23, .load none (.t 22), none⟩,
 ⟨some 24, .mov (.t 23), none⟩,
 ⟨some 25, .fad 1 (.t 7), (some (24, true))⟩,
 ⟨some 26, .load none (.t 25), (some (24, true))⟩,
 ⟨some 27, .len (.t 26), (some (24, true))⟩,
 ⟨some 28, .bin .gtr (.t 27) (.c (.v (.int .i64 0))), (some (24, true))⟩,
 ⟨some 29, .pick (.t 24) (.t 28) (.c (.v (.bool false))), none⟩] []) <|
 .keep [2, 3, 4, 5, 6, 7, 29] [[2], [3], [4], [5], [6], [7]]) <|
 .cond (.t 29) (.seq (.seq (.reg [⟨some 30, .fad 1 (.t 6), none⟩,
 ⟨some 31, .load none (.t 30), none⟩,
 ⟨some 32, .lit 1 1 [.v (.int .i64 0)] [(0, (.c (.v (.int .i64 1))))] true, none⟩,
 ⟨some 33, .call n_integer_plus [(.t 31), (.t 32)] false, none⟩,
 ⟨some 34, .call n_integer_of [(.c (.v (.bool false))), (.t 33)] false, none⟩,
 ⟨none, .store 2 (.t 6) (.t 34), none⟩] []) <|
 .keep [2, 3, 4, 5, 6, 7] [[2], [3], [4], [5], [6], [7]]) <|
 .seq (.reg [⟨some 35, .fad 1 (.t 3), none⟩,
 ⟨some 36, .load none (.t 35), none⟩,
 ⟨some 37, .fad 1 (.t 7), none⟩,
 ⟨some 38, .load none (.t 37), none⟩,
 ⟨some 39, .call n_integer_minus [(.t 36), (.t 38)] false, none⟩,
 ⟨some 40, .call n_integer_of [(.c (.v (.bool false))), (.t 39)] false, none⟩,
 ⟨none, .store 2 (.t 7) (.t 40), none⟩] []) <|
 .keep [2, 3, 4, 5, 6, 7] [[2], [3], [4], [5], [6], [7]]) <|
 .skip) <|
 .seq (.seq (.reg [⟨some 41, .fad 0 (.t 2), none⟩,
 ⟨some 42, .load none (.t 41), none⟩,
 ⟨some 43, .fad 0 (.t 3), none⟩,
 ⟨some 44, .load none (.t 43), none⟩,
 ⟨some 45, .binb true (.t 42) (.t 44), none⟩,
 ⟨some 46, .mov (.t 45), none⟩,
 ⟨some 47, .fad 1 (.t 6), (some (46, true))⟩,
 ⟨some 48, .load none (.t 47), (some (46, true))⟩,
 ⟨some 49, .len (.t 48), (some (46, true))⟩,
 ⟨some 50, .bin .gtr (.t 49) (.c (.v (.int .i64 0))), (some (46, true))⟩,
 ⟨some 51, .pick (.t 46) (.t 50) (.c (.v (.bool false))), none⟩,
 ⟨some 52, .fad 0 (.t 6), none⟩,
 ⟨none, .store 1 (.t 52) (.t 51), none⟩] []) <|
 .keep [4, 5, 6, 7] [[4], [5], [6], [7]]) <|
 .seq (.seq (.reg [⟨some 53, .load (some 2) (.t 6), none⟩,
 ⟨some 54, .load (some 2) (.t 7), none⟩,
 ⟨none, .store 2 (.t 4) (.t 53), none⟩,
 ⟨none, .store 2 (.t 5) (.t 54), none⟩] [((.t 7), 2, (.t 4), 2)]) <|
 .keep [4, 5] [[4], [5]]) <|
 .ret, [.cell 4 (some 2), .cell 5 (some 2)]⟩

def integer_Add : CF := ⟨2, .seq (.seq (.reg [⟨some 2, .box (.t 0), none⟩,
 ⟨some 3, .box (.t 1), none⟩,
 ⟨some 4, .new [.v (.bool false), .z true], none⟩] []) <|
 .keep [2, 3, 4] [[2], [3], [4]]) <|
 .seq (.seq (.blk 0 <|
 .seq (.seq (.reg [⟨some 6, .fad 0 (.t 2), none⟩,
 ⟨some 7, .load none (.t 6), none⟩,
 ⟨some 8, .fad 0 (.t 3), none⟩,
 ⟨some 9, .load none (.t 8), none⟩,
 ⟨some 10, .binb false (.t 7) (.t 9), none⟩,
 ⟨some 5, .mov (.t 10), none⟩] []) <|
 .keep [2, 3, 4, 5] [[2], [3], [4]]) <|
 .cond (.t 5) (.seq (.seq (.reg [⟨some 11, .fad 0 (.t 2), none⟩,
 ⟨some 12, .load none (.t 11), none⟩,
 ⟨some 13, .fad 1 (.t 2), none⟩,
 ⟨some 14, .load none (.t 13), none⟩,
 ⟨some 15, .fad 1 (.t 3), none⟩,
 ⟨some 16, .load none (.t 15), none⟩,
 ⟨some 17, .call n_integer_plus [(.t 14), (.t 16)] false, none⟩,
 ⟨some 18, .call n_integer_of [(.t 12), (.t 17)] false, none⟩,
 ⟨none, .store 2 (.t 4) (.t 18), none⟩] []) <|
 .keep [4] [[4]]) <|
 .ret) <|
 .seq (.seq (.reg [⟨some 20, .fad 1 (.t 2), none⟩,
 ⟨some 21, .load none (.t 20), none⟩,
 ⟨some 22, .fad 1 (.t 3), none⟩,
 ⟨some 23, .load none (.t 22), none⟩,
 ⟨some 24, .call n_integer_compare [(.t 21), (.t 23)] false, none⟩,
 ⟨some 25, .bin .lss (.t 24) (.c (.v (.int .i64 0))), none⟩,
 ⟨some 19, .mov (.t 25), none⟩] []) <|
 .keep [2, 3, 4, 19] [[2], [3], [4]]) <|
 .cond (.t 19) (.seq (.seq (.reg [⟨some 26, .fad 0 (.t 3), none⟩,
 ⟨some 27, .load none (.t 26), none⟩,
 ⟨some 28, .fad 1 (.t 3), none⟩,
 ⟨some 29, .load none (.t 28), none⟩,
 ⟨some 30, .fad 1 (.t 2), none⟩,
 ⟨some 31, .load none (.t 30), none⟩,
 ⟨some 32, .call n_integer_minus [(.t 29), (.t 31)] false, none⟩,
 ⟨some 33, .call n_integer_of [(.t 27), (.t 32)] false, none⟩,
 ⟨none, .store 2 (.t 4) (.t 33), none⟩] []) <|
 .keep [4] [[4]]) <|
 .ret) <|
 .skip) <|
 .keep [2, 3, 4] [[2], [3], [4]]) <|
 .seq (.seq (.reg [⟨some 34, .fad 0 (.t 2), none⟩,
 ⟨some 35, .load none (.t 34), none⟩,
 ⟨some 36, .fad 1 (.t 2), none⟩,
 ⟨some 37, .load none (.t 36), none⟩,
 ⟨some 38, .fad 1 (.t 3), none⟩,
 ⟨some 39, .load none (.t 38), none⟩,
 ⟨some 40, .call n_integer_minus [(.t 37), (.t 39)] false, none⟩,
 ⟨some 41, .call n_integer_of [(.t 35), (.t 40)] false, none⟩,
 ⟨none, .store 2 (.t 4) (.t 41), none⟩] []) <|
 .keep [4] [[4]]) <|
 .ret, [.cell 4 (some 2)]⟩

def integer_Neg : CF := ⟨1, .seq (.seq (.reg [⟨some 1, .box (.t 0), none⟩,
 ⟨some 2, .new [.v (.bool false), .z true], none⟩] []) <|
 .keep [1, 2] [[1], [2]]) <|
 .seq (.seq (.reg [⟨some 3, .fad 0 (.t 1), none⟩,
 ⟨some 4, .load none (.t 3), none⟩,
 ⟨some 5, .un .not (.t 4), none⟩,
 ⟨some 6, .mov (.t 5), none⟩,
 ⟨some 7, .fad 1 (.t 1), (some (6, true))⟩,
 ⟨some 8, .load none (.t 7), (some (6, true))⟩,
 ⟨some 9, .len (.t 8), (some (6, true))⟩,
 ⟨some 10, .bin .gtr (.t 9) (.c (.v (.int .i64 0))), (some (6, true))⟩,
 ⟨some 11, .pick (.t 6) (.t 10) (.c (.v (.bool false))), none⟩,
 ⟨some 12, .fad 0 (.t 1), none⟩,
 ⟨none, .store 1 (.t 12) (.t 11), none⟩] []) <|
 .keep [1, 2] [[1], [2]]) <|
 .seq (.seq (.reg [⟨some 13, .load (some 2) (.t 1), none⟩,
 ⟨none, .store 2 (.t 2) (.t 13), none⟩] []) <|
 .keep [2] [[2]]) <|
 .ret, [.cell 2 (some 2)]⟩

def slices_IndexFunc_api_Point_api_Point_l0 : C :=
 .seq (.seq (.seq (.reg [⟨some 9, .bin .lss (.t 8) (.t 7), none⟩] []) <|
 .keep [0, 1, 7, 8, 9] []) <|
 .seq (.cond (.t 9) (.skip) <|
 .seq (.keep [] []) <|
 .exit 0) <|
 .seq (.seq (.blk 1 <|
 .seq (.seq (.reg [⟨some 10, .mov (.t 8), none⟩,
 ⟨some 5, .mov (.t 10), none⟩] []) <|
 .keep [0, 1, 5, 7, 8] []) <|
 .seq (.seq (.reg [⟨some 11, .mov (.t 1), none⟩,
 ⟨some 12, .mov (.t 0), none⟩,
 ⟨some 13, .mov (.t 5), none⟩,
 ⟨some 14, .ixa 2 (.t 12) (.t 13), none⟩,
 ⟨some 15, .load (some 2) (.t 14), none⟩,
 ⟨some 16, .calv (.t 11) [(.t 15)], none⟩] []) <|
 .keep [0, 1, 5, 7, 8, 16] []) <|
 .cond (.t 16) (.seq (.seq (.reg [⟨some 17, .mov (.t 5), none⟩,
 ⟨some 4, .mov (.t 17), none⟩] []) <|
 .keep [4] []) <|
 .ret) <|
 .skip) <|
 .keep [0, 1, 7, 8] []) <|
 .seq (.reg [⟨some 18, .bin .add (.t 8) (.c (.v (.int .i64 1))), none⟩,
 ⟨some 8, .mov (.t 18), none⟩] []) <|
 .keep [0, 1, 7, 8] []) <|
 .keep [0, 1, 7, 8] []
def slices_IndexFunc_api_Point_api_Point : CF := ⟨2, .seq (.seq (.reg [⟨some 4, .mov (.c (.v (.int .i64 0))), none⟩] []) <|
 .keep [0, 1] []) <|
 .seq (.seq (.seq (.reg [⟨some 6, .mov (.t 0), none⟩,
 ⟨some 7, .len (.t 6), none⟩,
 ⟨some 8, .mov (.c (.v (.int .i64 0))), none⟩] []) <|
 .keep [0, 1, 7, 8] []) <|
 .seq (.blk 0 <|
 .seq (.keep [0, 1, 7, 8] []) <|
 .loop slices_IndexFunc_api_Point_api_Point_l0) <|
 .keep [] []) <|
 .seq (.seq (.reg [⟨some 4, .mov (.c (.v (.int .i64 (-1)))), none⟩] []) <|
 .keep [4] []) <|
 .ret, [.t 4]⟩

def gantryref04_compared_l0 : C :=
 .seq (.seq (.seq (.seq (.reg [⟨some 19, .mov (.t 5), none⟩,
 ⟨some 20, .bin .geq (.t 19) (.c (.v (.int .i64 0))), none⟩] []) <|
 .keep [0, 1, 5, 20] []) <|
 .cond (.t 20) (.skip) <|
 .seq (.keep [] []) <|
 .exit 0) <|
 .seq (.seq (.blk 1 <|
 .seq (.seq (.seq (.reg [⟨some 23, .mov (.t 0), none⟩,
 ⟨some 24, .mov (.t 5), none⟩,
 ⟨some 25, .ixa 1 (.t 23) (.t 24), none⟩,
 ⟨some 26, .load none (.t 25), none⟩,
 ⟨some 27, .mov (.t 1), none⟩,
 ⟨some 28, .mov (.t 5), none⟩,
 ⟨some 29, .ixa 1 (.t 27) (.t 28), none⟩,
 ⟨some 30, .load none (.t 29), none⟩,
 ⟨some 31, .bin .lss (.t 26) (.t 30), none⟩] []) <|
 .keep [0, 1, 5, 31] []) <|
 .cond (.t 31) (.seq (.seq (.reg [⟨some 4, .mov (.c (.v (.int .i64 (-1)))), none⟩] []) <|
 .keep [4] []) <|
 .ret) <|
 .skip) <|
 .seq (.seq (.reg [⟨some 32, .mov (.t 0), none⟩,
 ⟨some 33, .mov (.t 5), none⟩,
 ⟨some 34, .ixa 1 (.t 32) (.t 33), none⟩,
 ⟨some 35, .load none (.t 34), none⟩,
 ⟨some 36, .mov (.t 1), none⟩,
 ⟨some 37, .mov (.t 5), none⟩,
 ⟨some 38, .ixa 1 (.t 36) (.t 37), none⟩,
 ⟨some 39, .load none (.t 38), none⟩,
 ⟨some 40, .bin .gtr (.t 35) (.t 39), none⟩] []) <|
 .keep [0, 1, 5, 40] []) <|
 .cond (.t 40) (.seq (.seq (.reg [⟨some 4, .mov (.c (.v (.int .i64 1))), none⟩] []) <|
 .keep [4] []) <|
 .ret) <|
 .skip) <|
 .keep [0, 1, 5] []) <|
 .seq (.reg [⟨some 21, .mov (.t 5), none⟩,
 ⟨some 22, .bin .sub (.t 21) (.c (.v (.int .i64 1))), none⟩,
 ⟨some 5, .mov (.t 22), none⟩] []) <|
 .keep [0, 1, 5] []) <|
 .keep [0, 1, 5] []
def gantryref04_compared : CF := ⟨2, .seq (.seq (.reg [⟨some 4, .mov (.c (.v (.int .i64 0))), none⟩] []) <|
 .keep [0, 1] []) <|
 .seq (.seq (.seq (.reg [⟨some 6, .mov (.t 0), none⟩,
 ⟨some 7, .len (.t 6), none⟩,
 ⟨some 8, .mov (.t 1), none⟩,
 ⟨some 9, .len (.t 8), none⟩,
 ⟨some 10, .bin .lss (.t 7) (.t 9), none⟩] []) <|
 .keep [0, 1, 10] []) <|
 .cond (.t 10) (.seq (.seq (.reg [⟨some 4, .mov (.c (.v (.int .i64 (-1)))), none⟩] []) <|
 .keep [4] []) <|
 .ret) <|
 .skip) <|
 .seq (.seq (.seq (.reg [⟨some 11, .mov (.t 0), none⟩,
 ⟨some 12, .len (.t 11), none⟩,
 ⟨some 13, .mov (.t 1), none⟩,
 ⟨some 14, .len (.t 13), none⟩,
 ⟨some 15, .bin .gtr (.t 12) (.t 14), none⟩] []) <|
 .keep [0, 1, 15] []) <|
 .cond (.t 15) (.seq (.seq (.reg [⟨some 4, .mov (.c (.v (.int .i64 1))), none⟩] []) <|
 .keep [4] []) <|
 .ret) <|
 .skip) <|
 .seq (.seq (.seq (.reg [⟨some 16, .mov (.t 0), none⟩,
 ⟨some 17, .len (.t 16), none⟩,
 ⟨some 18, .bin .sub (.t 17) (.c (.v (.int .i64 1))), none⟩,
 ⟨some 5, .mov (.t 18), none⟩] []) <|
 .keep [0, 1, 5] []) <|
 .seq (.blk 0 <|
 .seq (.keep [0, 1, 5] []) <|
 .loop gantryref04_compared_l0) <|
 .keep [] []) <|
 .seq (.seq (.reg [⟨some 4, .mov (.c (.v (.int .i64 0))), none⟩] []) <|
 .keep [4] []) <|
 .ret, [.t 4]⟩

def gantryref04_normal_l0 : C :=
 .seq (.seq (.seq (.seq (.reg [⟨some 8, .mov (.t 5), none⟩,
 ⟨some 9, .bin .gtr (.t 8) (.c (.v (.int .i64 0))), none⟩,
 ⟨some 10, .mov (.t 9), none⟩,
 ⟨some 11, .mov (.t 1), (some (10, true))⟩,
 ⟨some 12, .mov (.t 5), (some (10, true))⟩,
 ⟨some 13, .bin .sub (.t 12) (.c (.v (.int .i64 1))), (some (10, true))⟩,
 ⟨some 14, .mx [(.t 13), (.c (.v (.int .i64 0)))], (some (10, true))⟩,
 ⟨some 15, .ixa 1 (.t 11) (.t 14), (some (10, true))⟩,
 ⟨some 16, .load none (.t 15), (some (10, true))⟩,
 ⟨some 17, .bin .eql (.t 16) (.c (.v (.int .i64 0))), (some (10, true))⟩,
 ⟨some 18, .pick (.t 10) (.t 17) (.c (.v (.bool false))), none⟩] []) <|
 .keep [0, 1, 4, 5, 18] [[4]]) <|
 .cond (.t 18) (.skip) <|
 .seq (.keep [0, 1, 4, 5] [[4]]) <|
 .exit 0) <|
 .seq (.blk 1 <|
 .seq (.reg [⟨some 19, .mov (.t 5), none⟩,
 ⟨some 20, .bin .sub (.t 19) (.c (.v (.int .i64 1))), none⟩,
 ⟨some 5, .mov (.t 20), none⟩] []) <|
 .keep [0, 1, 4, 5] [[4]]) <|
 .keep [0, 1, 4, 5] [[4]]) <|
 .keep [0, 1, 4, 5] [[4]]
def gantryref04_normal : CF := ⟨2, .seq (.seq (.reg [⟨some 4, .new [.v (.bool false), .z true], none⟩] []) <|
 .keep [0, 1, 4] [[4]]) <|
 .seq (.seq (.reg [⟨some 6, .mov (.t 1), none⟩,
 ⟨some 7, .len (.t 6), none⟩,
 ⟨some 5, .mov (.t 7), none⟩] []) <|
 .keep [0, 1, 4, 5] [[4]]) <|
 .seq (.seq (.blk 0 <|
 .seq (.keep [0, 1, 4, 5] [[4]]) <|
 .loop gantryref04_normal_l0) <|
 .keep [0, 1, 4, 5] [[4]]) <|
 .seq (.seq (.seq (.reg [⟨some 21, .mov (.t 5), none⟩,
 ⟨some 22, .bin .eql (.t 21) (.c (.v (.int .i64 0))), none⟩] []) <|
 .keep [0, 1, 4, 5, 22] [[4]]) <|
 .cond (.t 22) (.seq (.seq (.reg [⟨some 23, .build [.v (.bool false), .z true] [], none⟩,
 ⟨none, .store 2 (.t 4) (.t 23), none⟩] []) <|
 .keep [4] [[4]]) <|
 .ret) <|
 .skip) <|
 .seq (.seq (.reg [⟨some 24, .mov (.t 0), none⟩,
 ⟨some 25, .mov (.t 1), none⟩,
 ⟨some 26, .mov (.t 5), none⟩,
 ⟨some 27, .slc 1 (.t 25) none (some (.t 26)) none, none⟩,
 ⟨some 28, .build [.v (.bool false), .z true] [(0, 1, (.t 24)), (1, 1, (.t 27))], none⟩,
 ⟨none, .store 2 (.t 4) (.t 28), none⟩] []) <|
 .keep [4] [[4]]) <|
 .ret, [.cell 4 (some 2)]⟩

def gantryref04_Gcd_l0 : C :=
 .seq (.seq (.seq (.seq (.reg [⟨some 38, .mov (.t 8), none⟩,
 ⟨some 39, .bin .gtr (.t 38) (.c (.v (.int .i64 0))), none⟩] []) <|
 .keep [4, 7, 8, 39] [[4]]) <|
 .cond (.t 39) (.skip) <|
 .seq (.keep [4, 7] [[4]]) <|
 .exit 2) <|
 .seq (.blk 3 <|
 .seq (.seq (.reg [⟨some 40, .mov (.t 7), none⟩,
 ⟨some 41, .mov (.t 8), none⟩,
 ⟨some 42, .bin .rem (.t 40) (.t 41), none⟩,
 ⟨some 9, .mov (.t 42), none⟩] []) <|
 .keep [4, 8, 9] [[4]]) <|
 .seq (.seq (.reg [⟨some 43, .mov (.t 8), none⟩,
 ⟨some 7, .mov (.t 43), none⟩] []) <|
 .keep [4, 7, 9] [[4]]) <|
 .seq (.reg [⟨some 44, .mov (.t 9), none⟩,
 ⟨some 8, .mov (.t 44), none⟩] []) <|
 .keep [4, 7, 8] [[4]]) <|
 .keep [4, 7, 8] [[4]]) <|
 .keep [4, 7, 8] [[4]]
def gantryref04_Gcd_l1 : C :=
 .seq (.seq (.seq (.seq (.reg [⟨some 18, .fad 1 (.t 6), none⟩,
 ⟨some 19, .load none (.t 18), none⟩,
 ⟨some 20, .len (.t 19), none⟩,
 ⟨some 21, .bin .gtr (.t 20) (.c (.v (.int .i64 0))), none⟩] []) <|
 .keep [4, 5, 6, 21] [[4], [5], [6]]) <|
 .cond (.t 21) (.skip) <|
 .seq (.keep [4, 5] [[4], [5]]) <|
 .exit 0) <|
 .seq (.blk 1 <|
 .seq (.seq (.seq (.reg [⟨some 22, .fad 1 (.t 5), none⟩,
 ⟨some 23, .load none (.t 22), none⟩,
 ⟨some 24, .len (.t 23), none⟩,
 ⟨some 25, .bin .leq (.t 24) (.c (.v (.int .i64 2))), none⟩,
 ⟨some 26, .mov (.t 25), none⟩,
 ⟨some 27, .fad 1 (.t 6), (some (26, true))⟩,
 ⟨some 28, .load none (.t 27), (some (26, true))⟩,
 ⟨some 29, .len (.t 28), (some (26, true))⟩,
 ⟨some 30, .bin .leq (.t 29) (.c (.v (.int .i64 2))), (some (26, true))⟩,
 ⟨some 31, .pick (.t 26) (.t 30) (.c (.v (.bool false))), none⟩] []) <|
 .keep [4, 5, 6, 31] [[4], [5], [6]]) <|
 .cond (.t 31) (.seq (.seq (.reg [⟨some 32, .fad 1 (.t 5), none⟩,
 ⟨some 33, .load none (.t 32), none⟩,
 ⟨some 34, .call n_gantryref04_tiny [(.t 33)] false, none⟩,
 ⟨some 7, .mov (.t 34), none⟩] []) <|
 .keep [4, 6, 7] [[4], [6]]) <|
 .seq (.seq (.reg [⟨some 35, .fad 1 (.t 6), none⟩,
 ⟨some 36, .load none (.t 35), none⟩,
 ⟨some 37, .call n_gantryref04_tiny [(.t 36)] false, none⟩,
 ⟨some 8, .mov (.t 37), none⟩] []) <|
 .keep [4, 7, 8] [[4]]) <|
 .seq (.seq (.blk 2 <|
 .seq (.keep [4, 7, 8] [[4]]) <|
 .loop gantryref04_Gcd_l0) <|
 .keep [4, 7] [[4]]) <|
 .seq (.seq (.reg [⟨some 45, .mov (.t 7), none⟩,
 ⟨some 46, .call n_gantryref04_Of [(.t 45)] false, none⟩,
 ⟨none, .store 2 (.t 4) (.t 46), none⟩] []) <|
 .keep [4] [[4]]) <|
 .ret) <|
 .skip) <|
 .seq (.seq (.reg [⟨some 48, .load (some 2) (.t 5), none⟩,
 ⟨some 49, .load (some 2) (.t 6), none⟩,
 ⟨some 50, .call n_gantryref04_Div [(.t 48), (.t 49)] false, none⟩,
 ⟨some 47, .mov (.t 50), none⟩,
 ⟨some 51, .ext (.t 47) 0, none⟩,
 ⟨some 52, .ext (.t 47) 1, none⟩,
 ⟨some 10, .new [.v (.bool false), .z true], none⟩,
 ⟨some 11, .new [.v (.bool false), .z true], none⟩,
 ⟨none, .store 2 (.t 10) (.t 51), none⟩,
 ⟨none, .store 2 (.t 11) (.t 52), none⟩] []) <|
 .keep [4, 5, 6, 11] [[4], [5], [6], [11]]) <|
 .seq (.seq (.reg [⟨some 53, .load (some 2) (.t 6), none⟩,
 ⟨none, .store 2 (.t 5) (.t 53), none⟩] []) <|
 .keep [4, 5, 6, 11] [[4], [5], [6], [11]]) <|
 .seq (.reg [⟨some 54, .load (some 2) (.t 11), none⟩,
 ⟨none, .store 2 (.t 6) (.t 54), none⟩] []) <|
 .keep [4, 5, 6] [[4], [5], [6]]) <|
 .keep [4, 5, 6] [[4], [5], [6]]) <|
 .keep [4, 5, 6] [[4], [5], [6]]
def gantryref04_Gcd : CF := ⟨2, .seq (.seq (.reg [⟨some 2, .box (.t 0), none⟩,
 ⟨some 3, .box (.t 1), none⟩,
 ⟨some 4, .new [.v (.bool false), .z true], none⟩] []) <|
 .keep [2, 3, 4] [[2], [3], [4]]) <|
 .seq (.seq (.reg [⟨some 12, .fad 1 (.t 2), none⟩,
 ⟨some 13, .load none (.t 12), none⟩,
 ⟨some 14, .call n_gantryref04_normal [(.c (.v (.bool false))), (.t 13)] false, none⟩,
 ⟨some 5, .new [.v (.bool false), .z true], none⟩,
 ⟨none, .store 2 (.t 5) (.t 14), none⟩] []) <|
 .keep [3, 4, 5] [[3], [4], [5]]) <|
 .seq (.seq (.reg [⟨some 15, .fad 1 (.t 3), none⟩,
 ⟨some 16, .load none (.t 15), none⟩,
 ⟨some 17, .call n_gantryref04_normal [(.c (.v (.bool false))), (.t 16)] false, none⟩,
 ⟨some 6, .new [.v (.bool false), .z true], none⟩,
 ⟨none, .store 2 (.t 6) (.t 17), none⟩] []) <|
 .keep [4, 5, 6] [[4], [5], [6]]) <|
 .seq (.seq (.blk 0 <|
 .seq (.keep [4, 5, 6] [[4], [5], [6]]) <|
 .loop gantryref04_Gcd_l1) <|
 .keep [4, 5] [[4], [5]]) <|
 .seq (.seq (.reg [⟨some 55, .load (some 2) (.t 5), none⟩,
 ⟨none, .store 2 (.t 4) (.t 55), none⟩] []) <|
 .keep [4] [[4]]) <|
 .ret, [.cell 4 (some 2)]⟩
end Go.AM

