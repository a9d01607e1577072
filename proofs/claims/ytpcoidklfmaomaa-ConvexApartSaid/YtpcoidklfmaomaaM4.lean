/- Part 4 of the proof: a small machine, its soundness against the model, and what the program's functions compute on it. -/
import Derived.Test.YtpcoidklfmaomaaM0
import Derived.Test.YtpcoidklfmaomaaProg
import Derived.KernelRfl
import Derived.Test.YtpcoidklfmaomaaM3
set_option linter.unusedVariables false
set_option linter.unusedSimpArgs false
set_option maxRecDepth 100000
namespace Go.AM
open Go Go.Proofs
abbrev n_gantrylaw12_ConvexPoints : Nat := 3
abbrev n_gantrylaw12_ConvexApart : Nat := 4
abbrev n_gantrylaw12_ConvexMoved : Nat := 5
abbrev n_gantrylaw12_ConvexTurned : Nat := 6
abbrev n_gantrylaw12_ConvexSupports : Nat := 7
abbrev n_gantrylaw12_ConvexSides : Nat := 8
abbrev n_gantryref12_Shape : Nat := 9
abbrev n_convex_Sum : Nat := 10
abbrev n_gantryref12_SamePoints : Nat := 11
abbrev n_gantryref12_Sum : Nat := 12
abbrev n_gantryref12_Vec : Nat := 13
abbrev n_convex_Has : Nat := 14
abbrev n_gantryref12_Has : Nat := 15
abbrev n_gantrylaw12_lives : Nat := 16
abbrev n_convex_Sides : Nat := 17
abbrev n_rat_Compare : Nat := 18
abbrev n_gantryref12_Dot : Nat := 19
abbrev n_rat_Of : Nat := 20
abbrev n_rat_Sub : Nat := 21
abbrev n_gantryref01_Around : Nat := 22
abbrev n_gantryref12_Move : Nat := 23
abbrev n_convex_Area : Nat := 24
abbrev n_convex_Valid : Nat := 25
abbrev n_gantryref12_Turn : Nat := 26
abbrev n_convex_Most : Nat := 27
abbrev n_gantryref05_Compare : Nat := 28
abbrev n_gantryref05_Of : Nat := 29
abbrev n_convex_Norm : Nat := 30
abbrev n_gantryref12_Next : Nat := 31
abbrev n_gantryref12_SameEdges : Nat := 32
abbrev n_gantryref12_Sides : Nat := 33
abbrev n_gantryref12_Area : Nat := 34
abbrev n_convex_Box : Nat := 35
abbrev n_gantryref12_Box : Nat := 36
abbrev n_gantryref12_Most : Nat := 37
abbrev n_gantryref01_At : Nat := 38
abbrev n_slices_MinFunc_api_Point_api_Point : Nat := 39
abbrev n_convex_Sum_1 : Nat := 40
abbrev n_cmp_Or_int : Nat := 41
abbrev n_cmp_Compare_int : Nat := 42
abbrev n_convex_cross : Nat := 43
abbrev n_convex_far : Nat := 44
abbrev n_gantryref12_Left : Nat := 45
abbrev n_convex_next : Nat := 46
abbrev n_rat_Mul : Nat := 47
abbrev n_gantryref05_Sub : Nat := 48
abbrev n_gantryref05_Mul : Nat := 49
abbrev n_gantryref05_Sign : Nat := 50
abbrev n_convex_Sides_1 : Nat := 51
abbrev n_slices_ContainsFunc_api_Edge_api_Edge : Nat := 52
abbrev n_convex_Sides_1_1 : Nat := 53
abbrev n_convex_turned : Nat := 54
abbrev n_rat_Sign : Nat := 55
abbrev n_integer_Compare : Nat := 56
abbrev n_integer_Of : Nat := 57
abbrev n_integer_Mul : Nat := 58
abbrev n_rat_Den : Nat := 59
abbrev n_gantryref05_Add : Nat := 60
abbrev n_rat_Make : Nat := 61
abbrev n_rat_Add : Nat := 62
abbrev n_rat_Neg : Nat := 63
abbrev n_convex_Valid_1 : Nat := 64
abbrev n_slices_ContainsFunc_api_Point_api_Point : Nat := 65
abbrev n_convex_dot : Nat := 66
abbrev n_slices_MaxFunc_api_Point_api_Point : Nat := 67
abbrev n_convex_Most_1 : Nat := 68
abbrev n_gantryref04_Compare : Nat := 69
abbrev n_gantryref04_Mul : Nat := 70
abbrev n_gantryref05_Den : Nat := 71
abbrev n_gantryref05_Make : Nat := 72
abbrev n_gantryref04_Of : Nat := 73
abbrev n_integer_Root : Nat := 74
abbrev n_integer_Small : Nat := 75
abbrev n_convex_gcd : Nat := 76
abbrev n_gantryref12_Norm : Nat := 77
abbrev n_cmp_isNaN_int : Nat := 78
abbrev n_rat_lowest : Nat := 79
abbrev n_gantryref05_Neg : Nat := 80
abbrev n_gantryref04_Sign : Nat := 81
abbrev n_slices_IndexFunc_api_Edge_api_Edge : Nat := 82
abbrev n_integer_Sign : Nat := 83
abbrev n_integer_compare : Nat := 84
abbrev n_integer_unsigned : Nat := 85
abbrev n_integer_of : Nat := 86
abbrev n_rat_one : Nat := 87
abbrev n_gantryref04_Add : Nat := 88
abbrev n_integer_Gcd : Nat := 89
abbrev n_rat_unit : Nat := 90
abbrev n_integer_Div : Nat := 91
abbrev n_integer_Add : Nat := 92
abbrev n_integer_Neg : Nat := 93
abbrev n_slices_IndexFunc_api_Point_api_Point : Nat := 94
abbrev n_gantryref04_compared : Nat := 95
abbrev n_gantryref04_normal : Nat := 96
abbrev n_gantryref04_Gcd : Nat := 97
abbrev n_gantryref04_Div : Nat := 98
abbrev n_gantryref04_Neg : Nat := 99
abbrev n_gantryref05_one : Nat := 100
abbrev n_gantryref04_Root : Nat := 101
abbrev n_gantryref04_Small : Nat := 102
abbrev n_gantryref12_divisor : Nat := 103
abbrev n_gantryref12_size : Nat := 104
abbrev n_gantryref04_plus : Nat := 105
abbrev n_gantryref04_minus : Nat := 106
abbrev n_integer_two : Nat := 107
abbrev n_integer_divide : Nat := 108
abbrev n_integer_plus : Nat := 109
abbrev n_integer_minus : Nat := 110
abbrev n_gantryref04_tiny : Nat := 111
abbrev n_gantryref04_divided : Nat := 112
abbrev n_gantryref04_digit : Nat := 113
abbrev n_integer_short : Nat := 114
abbrev n_integer_long : Nat := 115
abbrev n_gantryref04_times : Nat := 116
abbrev n_integer_scaled : Nat := 117
abbrev n_runtime_boundsError_Error : Nat := 118
abbrev n_runtime_boundsError_RuntimeError : Nat := 119
abbrev n_runtime_errorString_Error : Nat := 120
abbrev n_runtime_errorString_RuntimeError : Nat := 121
abbrev n_runtime_plainError_Error : Nat := 122
abbrev n_runtime_plainError_RuntimeError : Nat := 123
abbrev n_runtime_errorAddressString_Error : Nat := 124
abbrev n_runtime_errorAddressString_RuntimeError : Nat := 125
abbrev n_runtime_TypeAssertionError_Error : Nat := 126
abbrev n_runtime_TypeAssertionError_RuntimeError : Nat := 127
abbrev n_runtime_PanicNilError_Error : Nat := 128
abbrev n_runtime_PanicNilError_RuntimeError : Nat := 129
abbrev n_internal_abi_Type_Align : Nat := 130
abbrev n_internal_runtime_maps_unhashableTypeError_Error : Nat := 131
abbrev n_internal_runtime_maps_unhashableTypeError_RuntimeError : Nat := 132
abbrev n_internal_abi_Kind_String : Nat := 133

def gantrylaw12_ConvexPoints_l0 : C :=
 .seq (.seq (.seq (.seq (.reg [⟨some 25, .mov (.t 10), none⟩,
 ⟨some 26, .bin .add (.t 25) (.c (.v (.int .i64 1))), none⟩,
 ⟨some 27, .mov (.t 2), none⟩,
 ⟨some 28, .len (.t 27), none⟩,
 ⟨some 29, .bin .lss (.t 26) (.t 28), none⟩,
 ⟨some 30, .mov (.t 29), none⟩,
 ⟨some 31, .mov (.t 10), (some (30, true))⟩,
 ⟨some 32, .bin .lss (.t 31) (.c (.v (.int .i64 20))), (some (30, true))⟩,
 ⟨some 33, .pick (.t 30) (.t 32) (.c (.v (.bool false))), none⟩] []) <|
 .keep [2, 7, 9, 10, 33] []) <|
 .cond (.t 33) (.skip) <|
 .seq (.keep [] []) <|
 .exit 0) <|
 .seq (.seq (.blk 1 <|
 .seq (.seq (.reg [⟨some 36, .mov (.t 2), none⟩,
 ⟨some 37, .mov (.t 10), none⟩,
 ⟨some 38, .ixa 1 (.t 36) (.t 37), none⟩,
 ⟨some 39, .load none (.t 38), none⟩,
 ⟨some 40, .mov (.t 2), none⟩,
 ⟨some 41, .mov (.t 10), none⟩,
 ⟨some 42, .bin .add (.t 41) (.c (.v (.int .i64 1))), none⟩,
 ⟨some 43, .ixa 1 (.t 40) (.t 42), none⟩,
 ⟨some 44, .load none (.t 43), none⟩,
 ⟨some 45, .call n_gantryref12_Vec [(.t 39), (.t 44)] false, none⟩,
 ⟨some 11, .new [.v (.bool false), .z true, .v (.bool false), .z true, .v (.bool false), .z true, .v (.bool false), .z true], none⟩,
 ⟨none, .store 8 (.t 11) (.t 45), none⟩] []) <|
 .keep [2, 7, 9, 10, 11] [[11]]) <|
 .seq (.seq (.reg [⟨some 46, .mov (.t 7), none⟩,
 ⟨some 47, .load (some 8) (.t 11), none⟩,
 ⟨some 48, .call n_convex_Has [(.t 46), (.t 47)] false, none⟩,
 ⟨some 49, .mov (.t 7), none⟩,
 ⟨some 50, .load (some 8) (.t 11), none⟩,
 ⟨some 51, .call n_gantryref12_Has [(.t 49), (.t 50)] false, none⟩,
 ⟨some 52, .binb true (.t 48) (.t 51), none⟩,
 ⟨some 53, .mov (.t 52), none⟩,
 ⟨some 54, .mov (.t 9), (some (53, false))⟩,
 ⟨some 55, .load (some 8) (.t 11), (some (53, false))⟩,
 ⟨some 56, .call n_convex_Has [(.t 54), (.t 55)] false, (some (53, false))⟩,
 ⟨some 57, .mov (.t 9), (some (53, false))⟩,
 ⟨some 58, .load (some 8) (.t 11), (some (53, false))⟩,
 ⟨some 59, .call n_gantryref12_Has [(.t 57), (.t 58)] false, (some (53, false))⟩,
 ⟨some 60, .binb true (.t 56) (.t 59), (some (53, false))⟩,
 ⟨some 61, .pick (.t 53) (.c (.v (.bool true))) (.t 60), none⟩] []) <|
 .keep [2, 7, 9, 10, 61] []) <|
 .cond (.t 61) (.seq (.seq (.reg [⟨some 6, .mov (.c (.v (.bool false))), none⟩] []) <|
 .keep [6] []) <|
 .ret) <|
 .skip) <|
 .keep [2, 7, 9, 10] []) <|
 .seq (.reg [⟨some 34, .mov (.t 10), none⟩,
 ⟨some 35, .bin .add (.t 34) (.c (.v (.int .i64 2))), none⟩,
 ⟨some 10, .mov (.t 35), none⟩] []) <|
 .keep [2, 7, 9, 10] []) <|
 .keep [2, 7, 9, 10] []
def gantrylaw12_ConvexPoints : CF := ⟨3, .seq (.seq (.reg [⟨some 6, .mov (.c (.v (.bool false))), none⟩] []) <|
 .keep [0, 1, 2] []) <|
 .seq (.seq (.reg [⟨some 12, .mov (.t 0), none⟩,
 ⟨some 13, .call n_gantryref12_Shape [(.t 12)] false, none⟩,
 ⟨some 7, .mov (.t 13), none⟩] []) <|
 .keep [1, 2, 7] []) <|
 .seq (.seq (.reg [⟨some 14, .mov (.t 1), none⟩,
 ⟨some 15, .call n_gantryref12_Shape [(.t 14)] false, none⟩,
 ⟨some 8, .mov (.t 15), none⟩] []) <|
 .keep [2, 7, 8] []) <|
 .seq (.seq (.reg [⟨some 16, .mov (.t 7), none⟩,
 ⟨some 17, .mov (.t 8), none⟩,
 ⟨some 18, .call n_convex_Sum [(.t 16), (.t 17)] false, none⟩,
 ⟨some 9, .mov (.t 18), none⟩] []) <|
 .keep [2, 7, 8, 9] []) <|
 .seq (.seq (.seq (.reg [⟨some 19, .mov (.t 9), none⟩,
 ⟨some 20, .mov (.t 7), none⟩,
 ⟨some 21, .mov (.t 8), none⟩,
 ⟨some 22, .call n_gantryref12_Sum [(.t 20), (.t 21)] false, none⟩,
 ⟨some 23, .call n_gantryref12_SamePoints [(.t 19), (.t 22)] false, none⟩,
 ⟨some 24, .un .not (.t 23), none⟩] []) <|
 .keep [2, 7, 9, 24] []) <|
 .cond (.t 24) (.seq (.seq (.reg [⟨some 6, .mov (.c (.v (.bool false))), none⟩] []) <|
 .keep [6] []) <|
 .ret) <|
 .skip) <|
 .seq (.seq (.seq (.reg [⟨some 10, .mov (.c (.v (.int .i64 0))), none⟩] []) <|
 .keep [2, 7, 9, 10] []) <|
 .seq (.blk 0 <|
 .seq (.keep [2, 7, 9, 10] []) <|
 .loop gantrylaw12_ConvexPoints_l0) <|
 .keep [] []) <|
 .seq (.seq (.reg [⟨some 62, .call n_gantrylaw12_lives [] false, none⟩,
 ⟨some 6, .mov (.t 62), none⟩] []) <|
 .keep [6] []) <|
 .ret, [.t 6]⟩

def gantrylaw12_ConvexApart_l0 : C :=
 .seq (.seq (.seq (.seq (.reg [⟨some 63, .mov (.t 19), none⟩,
 ⟨some 64, .mov (.t 13), none⟩,
 ⟨some 65, .len (.t 64), none⟩,
 ⟨some 66, .bin .lss (.t 63) (.t 65), none⟩] []) <|
 .keep [2, 11, 12, 13, 14, 15, 16, 17, 18, 19, 66] [[15], [17]]) <|
 .cond (.t 66) (.skip) <|
 .seq (.keep [2, 11, 12, 13, 14, 15, 16, 17, 18] [[15], [17]]) <|
 .exit 2) <|
 .seq (.seq (.blk 3 <|
 .seq (.reg [⟨some 69, .mov (.t 18), none⟩,
 ⟨some 70, .mov (.t 69), none⟩,
 ⟨some 71, .mov (.t 13), (some (70, true))⟩,
 ⟨some 72, .mov (.t 19), (some (70, true))⟩,
 ⟨some 73, .ixa 4 (.t 71) (.t 72), (some (70, true))⟩,
 ⟨some 74, .fad 0 (.t 73), (some (70, true))⟩,
 ⟨some 75, .load (some 3) (.t 74), (some (70, true))⟩,
 ⟨some 76, .load (some 8) (.t 17), (some (70, true))⟩,
 ⟨some 77, .call n_gantryref12_Dot [(.t 75), (.t 76)] false, (some (70, true))⟩,
 ⟨some 78, .mov (.t 13), (some (70, true))⟩,
 ⟨some 79, .mov (.t 19), (some (70, true))⟩,
 ⟨some 80, .ixa 4 (.t 78) (.t 79), (some (70, true))⟩,
 ⟨some 81, .fad 3 (.t 80), (some (70, true))⟩,
 ⟨some 82, .load none (.t 81), (some (70, true))⟩,
 ⟨some 83, .call n_rat_Of [(.t 82), (.c (.v (.int .i64 1)))] false, (some (70, true))⟩,
 ⟨some 84, .call n_rat_Compare [(.t 77), (.t 83)] false, (some (70, true))⟩,
 ⟨some 85, .bin .leq (.t 84) (.c (.v (.int .i64 0))), (some (70, true))⟩,
 ⟨some 86, .pick (.t 70) (.t 85) (.c (.v (.bool false))), none⟩,
 ⟨some 18, .mov (.t 86), none⟩] []) <|
 .keep [2, 11, 12, 13, 14, 15, 16, 17, 18, 19] [[15], [17]]) <|
 .keep [2, 11, 12, 13, 14, 15, 16, 17, 18, 19] [[15], [17]]) <|
 .seq (.reg [⟨some 67, .mov (.t 19), none⟩,
 ⟨some 68, .bin .add (.t 67) (.c (.v (.int .i64 1))), none⟩,
 ⟨some 19, .mov (.t 68), none⟩] []) <|
 .keep [2, 11, 12, 13, 14, 15, 16, 17, 18, 19] [[15], [17]]) <|
 .keep [2, 11, 12, 13, 14, 15, 16, 17, 18, 19] [[15], [17]]
def gantrylaw12_ConvexApart_l1 : C :=
 .seq (.seq (.seq (.seq (.reg [⟨some 42, .mov (.t 16), none⟩,
 ⟨some 43, .bin .add (.t 42) (.c (.v (.int .i64 1))), none⟩,
 ⟨some 44, .mov (.t 2), none⟩,
 ⟨some 45, .len (.t 44), none⟩,
 ⟨some 46, .bin .lss (.t 43) (.t 45), none⟩,
 ⟨some 47, .mov (.t 46), none⟩,
 ⟨some 48, .mov (.t 16), (some (47, true))⟩,
 ⟨some 49, .bin .lss (.t 48) (.c (.v (.int .i64 20))), (some (47, true))⟩,
 ⟨some 50, .pick (.t 47) (.t 49) (.c (.v (.bool false))), none⟩] []) <|
 .keep [2, 11, 12, 13, 14, 15, 16, 50] [[15]]) <|
 .cond (.t 50) (.skip) <|
 .seq (.keep [] []) <|
 .exit 0) <|
 .seq (.seq (.blk 1 <|
 .seq (.seq (.reg [⟨some 53, .mov (.t 2), none⟩,
 ⟨some 54, .mov (.t 16), none⟩,
 ⟨some 55, .ixa 1 (.t 53) (.t 54), none⟩,
 ⟨some 56, .load none (.t 55), none⟩,
 ⟨some 57, .mov (.t 2), none⟩,
 ⟨some 58, .mov (.t 16), none⟩,
 ⟨some 59, .bin .add (.t 58) (.c (.v (.int .i64 1))), none⟩,
 ⟨some 60, .ixa 1 (.t 57) (.t 59), none⟩,
 ⟨some 61, .load none (.t 60), none⟩,
 ⟨some 62, .call n_gantryref12_Vec [(.t 56), (.t 61)] false, none⟩,
 ⟨some 17, .new [.v (.bool false), .z true, .v (.bool false), .z true, .v (.bool false), .z true, .v (.bool false), .z true], none⟩,
 ⟨none, .store 8 (.t 17) (.t 62), none⟩] []) <|
 .keep [2, 11, 12, 13, 14, 15, 16, 17] [[15], [17]]) <|
 .seq (.seq (.reg [⟨some 18, .mov (.c (.v (.bool true))), none⟩] []) <|
 .keep [2, 11, 12, 13, 14, 15, 16, 17, 18] [[15], [17]]) <|
 .seq (.seq (.seq (.reg [⟨some 19, .mov (.c (.v (.int .i64 0))), none⟩] []) <|
 .keep [2, 11, 12, 13, 14, 15, 16, 17, 18, 19] [[15], [17]]) <|
 .seq (.blk 2 <|
 .seq (.keep [2, 11, 12, 13, 14, 15, 16, 17, 18, 19] [[15], [17]]) <|
 .loop gantrylaw12_ConvexApart_l0) <|
 .keep [2, 11, 12, 13, 14, 15, 16, 17, 18] [[15], [17]]) <|
 .seq (.seq (.reg [⟨some 87, .fad 0 (.t 15), none⟩,
 ⟨some 88, .load (some 4) (.t 87), none⟩,
 ⟨some 89, .fad 0 (.t 17), none⟩,
 ⟨some 90, .load (some 4) (.t 89), none⟩,
 ⟨some 91, .call n_rat_Sub [(.t 88), (.t 90)] false, none⟩,
 ⟨some 92, .fad 4 (.t 15), none⟩,
 ⟨some 93, .load (some 4) (.t 92), none⟩,
 ⟨some 94, .fad 4 (.t 17), none⟩,
 ⟨some 95, .load (some 4) (.t 94), none⟩,
 ⟨some 96, .call n_rat_Sub [(.t 93), (.t 95)] false, none⟩,
 ⟨some 97, .build [.v (.bool false), .z true, .v (.bool false), .z true, .v (.bool false), .z true, .v (.bool false), .z true] [(0, 4, (.t 91)), (4, 4, (.t 96))], none⟩,
 ⟨some 20, .new [.v (.bool false), .z true, .v (.bool false), .z true, .v (.bool false), .z true, .v (.bool false), .z true], none⟩,
 ⟨none, .store 8 (.t 20) (.t 97), none⟩] []) <|
 .keep [2, 11, 12, 13, 14, 15, 16, 17, 18, 20] [[15], [17], [20]]) <|
 .seq (.seq (.reg [⟨some 98, .mov (.t 11), none⟩,
 ⟨some 99, .load (some 8) (.t 15), none⟩,
 ⟨some 100, .call n_convex_Has [(.t 98), (.t 99)] false, none⟩,
 ⟨some 101, .mov (.t 100), none⟩,
 ⟨some 102, .mov (.t 12), (some (101, true))⟩,
 ⟨some 103, .load (some 8) (.t 20), (some (101, true))⟩,
 ⟨some 104, .call n_convex_Has [(.t 102), (.t 103)] false, (some (101, true))⟩,
 ⟨some 105, .pick (.t 101) (.t 104) (.c (.v (.bool false))), none⟩,
 ⟨some 106, .mov (.t 105), none⟩,
 ⟨some 107, .mov (.t 18), (some (106, true))⟩,
 ⟨some 108, .un .not (.t 107), (some (106, true))⟩,
 ⟨some 109, .pick (.t 106) (.t 108) (.c (.v (.bool false))), none⟩,
 ⟨some 110, .mov (.t 109), none⟩,
 ⟨some 111, .mov (.t 14), (some (110, false))⟩,
 ⟨some 112, .load (some 8) (.t 17), (some (110, false))⟩,
 ⟨some 113, .call n_convex_Has [(.t 111), (.t 112)] false, (some (110, false))⟩,
 ⟨some 114, .mov (.t 18), (some (110, false))⟩,
 ⟨some 115, .binb true (.t 113) (.t 114), (some (110, false))⟩,
 ⟨some 116, .pick (.t 110) (.c (.v (.bool true))) (.t 115), none⟩] []) <|
 .keep [2, 11, 12, 13, 14, 15, 16, 116] [[15]]) <|
 .cond (.t 116) (.seq (.seq (.reg [⟨some 10, .mov (.c (.v (.bool false))), none⟩] []) <|
 .keep [10] []) <|
 .ret) <|
 .skip) <|
 .keep [2, 11, 12, 13, 14, 15, 16] [[15]]) <|
 .seq (.reg [⟨some 51, .mov (.t 16), none⟩,
 ⟨some 52, .bin .add (.t 51) (.c (.v (.int .i64 2))), none⟩,
 ⟨some 16, .mov (.t 52), none⟩] []) <|
 .keep [2, 11, 12, 13, 14, 15, 16] [[15]]) <|
 .keep [2, 11, 12, 13, 14, 15, 16] [[15]]
def gantrylaw12_ConvexApart : CF := ⟨5, .seq (.seq (.reg [⟨some 10, .mov (.c (.v (.bool false))), none⟩] []) <|
 .keep [0, 1, 2, 3, 4] []) <|
 .seq (.seq (.reg [⟨some 21, .mov (.t 0), none⟩,
 ⟨some 22, .call n_gantryref12_Shape [(.t 21)] false, none⟩,
 ⟨some 11, .mov (.t 22), none⟩] []) <|
 .keep [1, 2, 3, 4, 11] []) <|
 .seq (.seq (.reg [⟨some 23, .mov (.t 1), none⟩,
 ⟨some 24, .call n_gantryref12_Shape [(.t 23)] false, none⟩,
 ⟨some 12, .mov (.t 24), none⟩] []) <|
 .keep [2, 3, 4, 11, 12] []) <|
 .seq (.seq (.reg [⟨some 25, .mov (.t 11), none⟩,
 ⟨some 26, .mov (.t 12), none⟩,
 ⟨some 27, .call n_convex_Sides [(.t 25), (.t 26)] false, none⟩,
 ⟨some 13, .mov (.t 27), none⟩] []) <|
 .keep [2, 3, 4, 11, 12, 13] []) <|
 .seq (.seq (.reg [⟨some 28, .mov (.t 11), none⟩,
 ⟨some 29, .mov (.t 12), none⟩,
 ⟨some 30, .call n_convex_Sum [(.t 28), (.t 29)] false, none⟩,
 ⟨some 14, .mov (.t 30), none⟩] []) <|
 .keep [2, 3, 4, 11, 12, 13, 14] []) <|
 .seq (.seq (.seq (.reg [⟨some 31, .mov (.t 13), none⟩,
 ⟨some 32, .len (.t 31), none⟩,
 ⟨some 33, .bin .lss (.t 32) (.c (.v (.int .i64 3))), none⟩,
 ⟨some 34, .mov (.t 33), none⟩,
 ⟨some 35, .mov (.t 14), (some (34, false))⟩,
 ⟨some 36, .len (.t 35), (some (34, false))⟩,
 ⟨some 37, .bin .lss (.t 36) (.c (.v (.int .i64 3))), (some (34, false))⟩,
 ⟨some 38, .pick (.t 34) (.c (.v (.bool true))) (.t 37), none⟩] []) <|
 .keep [2, 3, 4, 11, 12, 13, 14, 38] []) <|
 .cond (.t 38) (.seq (.seq (.reg [⟨some 10, .mov (.c (.v (.bool false))), none⟩] []) <|
 .keep [10] []) <|
 .ret) <|
 .skip) <|
 .seq (.seq (.reg [⟨some 39, .mov (.t 3), none⟩,
 ⟨some 40, .mov (.t 4), none⟩,
 ⟨some 41, .call n_gantryref12_Vec [(.t 39), (.t 40)] false, none⟩,
 ⟨some 15, .new [.v (.bool false), .z true, .v (.bool false), .z true, .v (.bool false), .z true, .v (.bool false), .z true], none⟩,
 ⟨none, .store 8 (.t 15) (.t 41), none⟩] []) <|
 .keep [2, 11, 12, 13, 14, 15] [[15]]) <|
 .seq (.seq (.seq (.reg [⟨some 16, .mov (.c (.v (.int .i64 0))), none⟩] []) <|
 .keep [2, 11, 12, 13, 14, 15, 16] [[15]]) <|
 .seq (.blk 0 <|
 .seq (.keep [2, 11, 12, 13, 14, 15, 16] [[15]]) <|
 .loop gantrylaw12_ConvexApart_l1) <|
 .keep [] []) <|
 .seq (.seq (.reg [⟨some 117, .call n_gantrylaw12_lives [] false, none⟩,
 ⟨some 10, .mov (.t 117), none⟩] []) <|
 .keep [10] []) <|
 .ret, [.t 10]⟩

def gantrylaw12_ConvexMoved_l0 : C :=
 .seq (.seq (.seq (.seq (.reg [⟨some 82, .mov (.t 23), none⟩,
 ⟨some 83, .mov (.t 21), none⟩,
 ⟨some 84, .len (.t 83), none⟩,
 ⟨some 85, .bin .lss (.t 82) (.t 84), none⟩] []) <|
 .keep [15, 16, 17, 18, 21, 22, 23, 85] []) <|
 .cond (.t 85) (.skip) <|
 .seq (.keep [] []) <|
 .exit 0) <|
 .seq (.seq (.blk 1 <|
 .seq (.seq (.reg [⟨some 88, .mov (.t 21), none⟩,
 ⟨some 89, .mov (.t 23), none⟩,
 ⟨some 90, .ixa 4 (.t 88) (.t 89), none⟩,
 ⟨some 91, .fad 0 (.t 90), none⟩,
 ⟨some 92, .load (some 3) (.t 91), none⟩,
 ⟨some 24, .new [.v (.int .i64 0), .v (.int .i64 0), .v (.int .i64 0)], none⟩,
 ⟨none, .store 3 (.t 24) (.t 92), none⟩] []) <|
 .keep [15, 16, 17, 18, 21, 22, 23, 24] [[24]]) <|
 .seq (.seq (.reg [⟨some 93, .mov (.t 22), none⟩,
 ⟨some 94, .mov (.t 23), none⟩,
 ⟨some 95, .ixa 4 (.t 93) (.t 94), none⟩,
 ⟨some 96, .fad 0 (.t 95), none⟩,
 ⟨some 97, .load (some 3) (.t 96), none⟩,
 ⟨some 98, .load (some 3) (.t 24), none⟩,
 ⟨some 99, .eqs 3 true (.t 97) (.t 98), none⟩,
 ⟨some 100, .mov (.t 99), none⟩,
 ⟨some 101, .mov (.t 22), (some (100, false))⟩,
 ⟨some 102, .mov (.t 23), (some (100, false))⟩,
 ⟨some 103, .ixa 4 (.t 101) (.t 102), (some (100, false))⟩,
 ⟨some 104, .fad 3 (.t 103), (some (100, false))⟩,
 ⟨some 105, .load none (.t 104), (some (100, false))⟩,
 ⟨some 106, .mov (.t 21), (some (100, false))⟩,
 ⟨some 107, .mov (.t 23), (some (100, false))⟩,
 ⟨some 108, .ixa 4 (.t 106) (.t 107), (some (100, false))⟩,
 ⟨some 109, .fad 3 (.t 108), (some (100, false))⟩,
 ⟨some 110, .load none (.t 109), (some (100, false))⟩,
 ⟨some 111, .fad 0 (.t 24), (some (100, false))⟩,
 ⟨some 112, .load none (.t 111), (some (100, false))⟩,
 ⟨some 113, .mov (.t 15), (some (100, false))⟩,
 ⟨some 114, .mov (.t 17), (some (100, false))⟩,
 ⟨some 115, .bin .sub (.t 113) (.t 114), (some (100, false))⟩,
 ⟨some 116, .bin .mul (.t 112) (.t 115), (some (100, false))⟩,
 ⟨some 117, .bin .add (.t 110) (.t 116), (some (100, false))⟩,
 ⟨some 118, .fad 1 (.t 24), (some (100, false))⟩,
 ⟨some 119, .load none (.t 118), (some (100, false))⟩,
 ⟨some 120, .mov (.t 16), (some (100, false))⟩,
 ⟨some 121, .mov (.t 18), (some (100, false))⟩,
 ⟨some 122, .bin .sub (.t 120) (.t 121), (some (100, false))⟩,
 ⟨some 123, .bin .mul (.t 119) (.t 122), (some (100, false))⟩,
 ⟨some 124, .bin .add (.t 117) (.t 123), (some (100, false))⟩,
 ⟨some 125, .bin .neq (.t 105) (.t 124), (some (100, false))⟩,
 ⟨some 126, .pick (.t 100) (.c (.v (.bool true))) (.t 125), none⟩] []) <|
 .keep [15, 16, 17, 18, 21, 22, 23, 126] []) <|
 .cond (.t 126) (.seq (.seq (.reg [⟨some 12, .mov (.c (.v (.bool false))), none⟩] []) <|
 .keep [12] []) <|
 .ret) <|
 .skip) <|
 .keep [15, 16, 17, 18, 21, 22, 23] []) <|
 .seq (.reg [⟨some 86, .mov (.t 23), none⟩,
 ⟨some 87, .bin .add (.t 86) (.c (.v (.int .i64 1))), none⟩,
 ⟨some 23, .mov (.t 87), none⟩] []) <|
 .keep [15, 16, 17, 18, 21, 22, 23] []) <|
 .keep [15, 16, 17, 18, 21, 22, 23] []
def gantrylaw12_ConvexMoved : CF := ⟨6, .seq (.seq (.reg [⟨some 12, .mov (.c (.v (.bool false))), none⟩] []) <|
 .keep [0, 1, 2, 3, 4, 5] []) <|
 .seq (.seq (.reg [⟨some 25, .mov (.t 0), none⟩,
 ⟨some 26, .call n_gantryref12_Shape [(.t 25)] false, none⟩,
 ⟨some 13, .mov (.t 26), none⟩] []) <|
 .keep [1, 2, 3, 4, 5, 13] []) <|
 .seq (.seq (.reg [⟨some 27, .mov (.t 1), none⟩,
 ⟨some 28, .call n_gantryref12_Shape [(.t 27)] false, none⟩,
 ⟨some 14, .mov (.t 28), none⟩] []) <|
 .keep [2, 3, 4, 5, 13, 14] []) <|
 .seq (.seq (.reg [⟨some 29, .mov (.t 2), none⟩,
 ⟨some 30, .call n_gantryref01_Around [(.t 29), (.c (.v (.int .i64 2000)))] false, none⟩,
 ⟨some 31, .bin .sub (.t 30) (.c (.v (.int .i64 1000))), none⟩,
 ⟨some 15, .mov (.t 31), none⟩] []) <|
 .keep [3, 4, 5, 13, 14, 15] []) <|
 .seq (.seq (.reg [⟨some 32, .mov (.t 3), none⟩,
 ⟨some 33, .call n_gantryref01_Around [(.t 32), (.c (.v (.int .i64 2000)))] false, none⟩,
 ⟨some 34, .bin .sub (.t 33) (.c (.v (.int .i64 1000))), none⟩,
 ⟨some 16, .mov (.t 34), none⟩] []) <|
 .keep [4, 5, 13, 14, 15, 16] []) <|
 .seq (.seq (.reg [⟨some 35, .mov (.t 4), none⟩,
 ⟨some 36, .call n_gantryref01_Around [(.t 35), (.c (.v (.int .i64 2000)))] false, none⟩,
 ⟨some 37, .bin .sub (.t 36) (.c (.v (.int .i64 1000))), none⟩,
 ⟨some 17, .mov (.t 37), none⟩] []) <|
 .keep [5, 13, 14, 15, 16, 17] []) <|
 .seq (.seq (.reg [⟨some 38, .mov (.t 5), none⟩,
 ⟨some 39, .call n_gantryref01_Around [(.t 38), (.c (.v (.int .i64 2000)))] false, none⟩,
 ⟨some 40, .bin .sub (.t 39) (.c (.v (.int .i64 1000))), none⟩,
 ⟨some 18, .mov (.t 40), none⟩] []) <|
 .keep [13, 14, 15, 16, 17, 18] []) <|
 .seq (.seq (.reg [⟨some 41, .mov (.t 13), none⟩,
 ⟨some 42, .mov (.t 15), none⟩,
 ⟨some 43, .mov (.t 16), none⟩,
 ⟨some 44, .call n_gantryref12_Move [(.t 41), (.t 42), (.t 43)] false, none⟩,
 ⟨some 19, .mov (.t 44), none⟩] []) <|
 .keep [13, 14, 15, 16, 17, 18, 19] []) <|
 .seq (.seq (.reg [⟨some 45, .mov (.t 14), none⟩,
 ⟨some 46, .mov (.t 17), none⟩,
 ⟨some 47, .mov (.t 18), none⟩,
 ⟨some 48, .call n_gantryref12_Move [(.t 45), (.t 46), (.t 47)] false, none⟩,
 ⟨some 20, .mov (.t 48), none⟩] []) <|
 .keep [13, 14, 15, 16, 17, 18, 19, 20] []) <|
 .seq (.seq (.reg [⟨some 49, .mov (.t 13), none⟩,
 ⟨some 50, .mov (.t 14), none⟩,
 ⟨some 51, .call n_convex_Sides [(.t 49), (.t 50)] false, none⟩,
 ⟨some 21, .mov (.t 51), none⟩] []) <|
 .keep [13, 15, 16, 17, 18, 19, 20, 21] []) <|
 .seq (.seq (.reg [⟨some 52, .mov (.t 19), none⟩,
 ⟨some 53, .mov (.t 20), none⟩,
 ⟨some 54, .call n_convex_Sides [(.t 52), (.t 53)] false, none⟩,
 ⟨some 22, .mov (.t 54), none⟩] []) <|
 .keep [13, 15, 16, 17, 18, 19, 20, 21, 22] []) <|
 .seq (.seq (.seq (.reg [⟨some 55, .mov (.t 21), none⟩,
 ⟨some 56, .len (.t 55), none⟩,
 ⟨some 57, .bin .lss (.t 56) (.c (.v (.int .i64 3))), none⟩,
 ⟨some 58, .mov (.t 57), none⟩,
 ⟨some 59, .mov (.t 21), (some (58, false))⟩,
 ⟨some 60, .len (.t 59), (some (58, false))⟩,
 ⟨some 61, .mov (.t 22), (some (58, false))⟩,
 ⟨some 62, .len (.t 61), (some (58, false))⟩,
 ⟨some 63, .bin .neq (.t 60) (.t 62), (some (58, false))⟩,
 ⟨some 64, .pick (.t 58) (.c (.v (.bool true))) (.t 63), none⟩,
 ⟨some 65, .mov (.t 64), none⟩,
 ⟨some 66, .mov (.t 13), (some (65, false))⟩,
 ⟨some 67, .call n_convex_Area [(.t 66)] false, (some (65, false))⟩,
 ⟨some 68, .mov (.t 19), (some (65, false))⟩,
 ⟨some 69, .call n_convex_Area [(.t 68)] false, (some (65, false))⟩,
 ⟨some 70, .bin .neq (.t 67) (.t 69), (some (65, false))⟩,
 ⟨some 71, .pick (.t 65) (.c (.v (.bool true))) (.t 70), none⟩,
 ⟨some 72, .mov (.t 71), none⟩,
 ⟨some 73, .mov (.t 19), (some (72, false))⟩,
 ⟨some 74, .call n_convex_Valid [(.t 73)] false, (some (72, false))⟩,
 ⟨some 75, .un .not (.t 74), (some (72, false))⟩,
 ⟨some 76, .pick (.t 72) (.c (.v (.bool true))) (.t 75), none⟩,
 ⟨some 77, .mov (.t 76), none⟩,
 ⟨some 78, .mov (.t 20), (some (77, false))⟩,
 ⟨some 79, .call n_convex_Valid [(.t 78)] false, (some (77, false))⟩,
 ⟨some 80, .un .not (.t 79), (some (77, false))⟩,
 ⟨some 81, .pick (.t 77) (.c (.v (.bool true))) (.t 80), none⟩] []) <|
 .keep [15, 16, 17, 18, 21, 22, 81] []) <|
 .cond (.t 81) (.seq (.seq (.reg [⟨some 12, .mov (.c (.v (.bool false))), none⟩] []) <|
 .keep [12] []) <|
 .ret) <|
 .skip) <|
 .seq (.seq (.seq (.reg [⟨some 23, .mov (.c (.v (.int .i64 0))), none⟩] []) <|
 .keep [15, 16, 17, 18, 21, 22, 23] []) <|
 .seq (.blk 0 <|
 .seq (.keep [15, 16, 17, 18, 21, 22, 23] []) <|
 .loop gantrylaw12_ConvexMoved_l0) <|
 .keep [] []) <|
 .seq (.seq (.reg [⟨some 127, .call n_gantrylaw12_lives [] false, none⟩,
 ⟨some 12, .mov (.t 127), none⟩] []) <|
 .keep [12] []) <|
 .ret, [.t 12]⟩

def gantrylaw12_ConvexTurned_l0 : C :=
 .seq (.seq (.seq (.seq (.reg [⟨some 38, .mov (.t 11), none⟩,
 ⟨some 39, .mov (.t 8), none⟩,
 ⟨some 40, .len (.t 39), none⟩,
 ⟨some 41, .bin .lss (.t 38) (.t 40), none⟩] []) <|
 .keep [7, 8, 9, 10, 11, 41] []) <|
 .cond (.t 41) (.skip) <|
 .seq (.keep [7, 8, 9, 10] []) <|
 .exit 2) <|
 .seq (.seq (.blk 3 <|
 .seq (.reg [⟨some 44, .mov (.t 10), none⟩,
 ⟨some 45, .mov (.t 44), none⟩,
 ⟨some 46, .mov (.t 8), (some (45, false))⟩,
 ⟨some 47, .mov (.t 11), (some (45, false))⟩,
 ⟨some 48, .ixa 4 (.t 46) (.t 47), (some (45, false))⟩,
 ⟨some 49, .load (some 4) (.t 48), (some (45, false))⟩,
 ⟨some 50, .mov (.t 7), (some (45, false))⟩,
 ⟨some 51, .mov (.t 9), (some (45, false))⟩,
 ⟨some 52, .ixa 4 (.t 50) (.t 51), (some (45, false))⟩,
 ⟨some 53, .fad 0 (.t 52), (some (45, false))⟩,
 ⟨some 54, .load (some 3) (.t 53), (some (45, false))⟩,
 ⟨some 55, .call n_gantryref12_Turn [(.t 54)] false, (some (45, false))⟩,
 ⟨some 56, .mov (.t 7), (some (45, false))⟩,
 ⟨some 57, .mov (.t 9), (some (45, false))⟩,
 ⟨some 58, .ixa 4 (.t 56) (.t 57), (some (45, false))⟩,
 ⟨some 59, .fad 3 (.t 58), (some (45, false))⟩,
 ⟨some 60, .load none (.t 59), (some (45, false))⟩,
 ⟨some 61, .build [.v (.int .i64 0), .v (.int .i64 0), .v (.int .i64 0), .v (.int .i64 0)] [(0, 3, (.t 55)), (3, 1, (.t 60))], (some (45, false))⟩,
 ⟨some 62, .eqs 4 false (.t 49) (.t 61), (some (45, false))⟩,
 ⟨some 63, .pick (.t 45) (.c (.v (.bool true))) (.t 62), none⟩,
 ⟨some 10, .mov (.t 63), none⟩] []) <|
 .keep [7, 8, 9, 10, 11] []) <|
 .keep [7, 8, 9, 10, 11] []) <|
 .seq (.reg [⟨some 42, .mov (.t 11), none⟩,
 ⟨some 43, .bin .add (.t 42) (.c (.v (.int .i64 1))), none⟩,
 ⟨some 11, .mov (.t 43), none⟩] []) <|
 .keep [7, 8, 9, 10, 11] []) <|
 .keep [7, 8, 9, 10, 11] []
def gantrylaw12_ConvexTurned_l1 : C :=
 .seq (.seq (.seq (.seq (.reg [⟨some 32, .mov (.t 9), none⟩,
 ⟨some 33, .mov (.t 7), none⟩,
 ⟨some 34, .len (.t 33), none⟩,
 ⟨some 35, .bin .lss (.t 32) (.t 34), none⟩] []) <|
 .keep [7, 8, 9, 35] []) <|
 .cond (.t 35) (.skip) <|
 .seq (.keep [] []) <|
 .exit 0) <|
 .seq (.seq (.blk 1 <|
 .seq (.seq (.reg [⟨some 10, .mov (.c (.v (.bool false))), none⟩] []) <|
 .keep [7, 8, 9, 10] []) <|
 .seq (.seq (.seq (.reg [⟨some 11, .mov (.c (.v (.int .i64 0))), none⟩] []) <|
 .keep [7, 8, 9, 10, 11] []) <|
 .seq (.blk 2 <|
 .seq (.keep [7, 8, 9, 10, 11] []) <|
 .loop gantrylaw12_ConvexTurned_l0) <|
 .keep [7, 8, 9, 10] []) <|
 .seq (.seq (.reg [⟨some 64, .mov (.t 10), none⟩,
 ⟨some 65, .un .not (.t 64), none⟩] []) <|
 .keep [7, 8, 9, 65] []) <|
 .cond (.t 65) (.seq (.seq (.reg [⟨some 4, .mov (.c (.v (.bool false))), none⟩] []) <|
 .keep [4] []) <|
 .ret) <|
 .skip) <|
 .keep [7, 8, 9] []) <|
 .seq (.reg [⟨some 36, .mov (.t 9), none⟩,
 ⟨some 37, .bin .add (.t 36) (.c (.v (.int .i64 1))), none⟩,
 ⟨some 9, .mov (.t 37), none⟩] []) <|
 .keep [7, 8, 9] []) <|
 .keep [7, 8, 9] []
def gantrylaw12_ConvexTurned : CF := ⟨2, .seq (.seq (.reg [⟨some 4, .mov (.c (.v (.bool false))), none⟩] []) <|
 .keep [0, 1] []) <|
 .seq (.seq (.reg [⟨some 12, .mov (.t 0), none⟩,
 ⟨some 13, .call n_gantryref12_Shape [(.t 12)] false, none⟩,
 ⟨some 5, .mov (.t 13), none⟩] []) <|
 .keep [1, 5] []) <|
 .seq (.seq (.reg [⟨some 14, .mov (.t 1), none⟩,
 ⟨some 15, .call n_gantryref12_Shape [(.t 14)] false, none⟩,
 ⟨some 6, .mov (.t 15), none⟩] []) <|
 .keep [5, 6] []) <|
 .seq (.seq (.reg [⟨some 16, .mov (.t 5), none⟩,
 ⟨some 17, .mov (.t 6), none⟩,
 ⟨some 18, .call n_convex_Sides [(.t 16), (.t 17)] false, none⟩,
 ⟨some 7, .mov (.t 18), none⟩] []) <|
 .keep [5, 6, 7] []) <|
 .seq (.seq (.reg [⟨some 19, .mov (.t 6), none⟩,
 ⟨some 20, .mov (.t 5), none⟩,
 ⟨some 21, .call n_convex_Sides [(.t 19), (.t 20)] false, none⟩,
 ⟨some 8, .mov (.t 21), none⟩] []) <|
 .keep [7, 8] []) <|
 .seq (.seq (.seq (.reg [⟨some 22, .mov (.t 7), none⟩,
 ⟨some 23, .len (.t 22), none⟩,
 ⟨some 24, .mov (.t 8), none⟩,
 ⟨some 25, .len (.t 24), none⟩,
 ⟨some 26, .bin .neq (.t 23) (.t 25), none⟩,
 ⟨some 27, .mov (.t 26), none⟩,
 ⟨some 28, .mov (.t 7), (some (27, false))⟩,
 ⟨some 29, .len (.t 28), (some (27, false))⟩,
 ⟨some 30, .bin .lss (.t 29) (.c (.v (.int .i64 3))), (some (27, false))⟩,
 ⟨some 31, .pick (.t 27) (.c (.v (.bool true))) (.t 30), none⟩] []) <|
 .keep [7, 8, 31] []) <|
 .cond (.t 31) (.seq (.seq (.reg [⟨some 4, .mov (.c (.v (.bool false))), none⟩] []) <|
 .keep [4] []) <|
 .ret) <|
 .skip) <|
 .seq (.seq (.seq (.reg [⟨some 9, .mov (.c (.v (.int .i64 0))), none⟩] []) <|
 .keep [7, 8, 9] []) <|
 .seq (.blk 0 <|
 .seq (.keep [7, 8, 9] []) <|
 .loop gantrylaw12_ConvexTurned_l1) <|
 .keep [] []) <|
 .seq (.seq (.reg [⟨some 66, .call n_gantrylaw12_lives [] false, none⟩,
 ⟨some 4, .mov (.t 66), none⟩] []) <|
 .keep [4] []) <|
 .ret, [.t 4]⟩

def gantrylaw12_ConvexSupports_l0 : C :=
 .seq (.seq (.seq (.seq (.reg [⟨some 43, .mov (.t 16), none⟩,
 ⟨some 44, .mov (.t 9), none⟩,
 ⟨some 45, .len (.t 44), none⟩,
 ⟨some 46, .bin .lss (.t 43) (.t 45), none⟩] []) <|
 .keep [9, 10, 11, 12, 13, 14, 15, 16, 46] [[11], [13]]) <|
 .cond (.t 46) (.skip) <|
 .seq (.keep [9, 10, 11, 12, 13, 14, 15] [[11], [13]]) <|
 .exit 2) <|
 .seq (.seq (.blk 3 <|
 .seq (.seq (.reg [⟨some 49, .mov (.t 15), none⟩,
 ⟨some 50, .mov (.t 49), none⟩,
 ⟨some 51, .fad 0 (.t 13), (some (50, false))⟩,
 ⟨some 52, .load none (.t 51), (some (50, false))⟩,
 ⟨some 53, .mov (.t 9), (some (50, false))⟩,
 ⟨some 54, .mov (.t 16), (some (50, false))⟩,
 ⟨some 55, .ixa 2 (.t 53) (.t 54), (some (50, false))⟩,
 ⟨some 56, .fad 0 (.t 55), (some (50, false))⟩,
 ⟨some 57, .load none (.t 56), (some (50, false))⟩,
 ⟨some 58, .bin .mul (.t 52) (.t 57), (some (50, false))⟩,
 ⟨some 59, .fad 1 (.t 13), (some (50, false))⟩,
 ⟨some 60, .load none (.t 59), (some (50, false))⟩,
 ⟨some 61, .mov (.t 9), (some (50, false))⟩,
 ⟨some 62, .mov (.t 16), (some (50, false))⟩,
 ⟨some 63, .ixa 2 (.t 61) (.t 62), (some (50, false))⟩,
 ⟨some 64, .fad 1 (.t 63), (some (50, false))⟩,
 ⟨some 65, .load none (.t 64), (some (50, false))⟩,
 ⟨some 66, .bin .mul (.t 60) (.t 65), (some (50, false))⟩,
 ⟨some 67, .bin .add (.t 58) (.t 66), (some (50, false))⟩,
 ⟨some 68, .mov (.t 14), (some (50, false))⟩,
 ⟨some 69, .bin .eql (.t 67) (.t 68), (some (50, false))⟩,
 ⟨some 70, .pick (.t 50) (.c (.v (.bool true))) (.t 69), none⟩,
 ⟨some 15, .mov (.t 70), none⟩] []) <|
 .keep [9, 10, 11, 12, 13, 14, 15, 16] [[11], [13]]) <|
 .seq (.seq (.reg [⟨some 71, .fad 0 (.t 13), none⟩,
 ⟨some 72, .load none (.t 71), none⟩,
 ⟨some 73, .mov (.t 9), none⟩,
 ⟨some 74, .mov (.t 16), none⟩,
 ⟨some 75, .ixa 2 (.t 73) (.t 74), none⟩,
 ⟨some 76, .fad 0 (.t 75), none⟩,
 ⟨some 77, .load none (.t 76), none⟩,
 ⟨some 78, .bin .mul (.t 72) (.t 77), none⟩,
 ⟨some 79, .fad 1 (.t 13), none⟩,
 ⟨some 80, .load none (.t 79), none⟩,
 ⟨some 81, .mov (.t 9), none⟩,
 ⟨some 82, .mov (.t 16), none⟩,
 ⟨some 83, .ixa 2 (.t 81) (.t 82), none⟩,
 ⟨some 84, .fad 1 (.t 83), none⟩,
 ⟨some 85, .load none (.t 84), none⟩,
 ⟨some 86, .bin .mul (.t 80) (.t 85), none⟩,
 ⟨some 87, .bin .add (.t 78) (.t 86), none⟩,
 ⟨some 88, .mov (.t 14), none⟩,
 ⟨some 89, .bin .gtr (.t 87) (.t 88), none⟩] []) <|
 .keep [9, 10, 11, 12, 13, 14, 15, 16, 89] [[11], [13]]) <|
 .cond (.t 89) (.seq (.seq (.reg [⟨some 8, .mov (.c (.v (.bool false))), none⟩] []) <|
 .keep [8] []) <|
 .ret) <|
 .skip) <|
 .keep [9, 10, 11, 12, 13, 14, 15, 16] [[11], [13]]) <|
 .seq (.reg [⟨some 47, .mov (.t 16), none⟩,
 ⟨some 48, .bin .add (.t 47) (.c (.v (.int .i64 1))), none⟩,
 ⟨some 16, .mov (.t 48), none⟩] []) <|
 .keep [9, 10, 11, 12, 13, 14, 15, 16] [[11], [13]]) <|
 .keep [9, 10, 11, 12, 13, 14, 15, 16] [[11], [13]]
def gantrylaw12_ConvexSupports_l1 : C :=
 .seq (.seq (.seq (.seq (.reg [⟨some 29, .mov (.t 12), none⟩,
 ⟨some 30, .mov (.t 10), none⟩,
 ⟨some 31, .len (.t 30), none⟩,
 ⟨some 32, .bin .lss (.t 29) (.t 31), none⟩] []) <|
 .keep [9, 10, 11, 12, 32] [[11]]) <|
 .cond (.t 32) (.skip) <|
 .seq (.keep [9, 10] []) <|
 .exit 0) <|
 .seq (.seq (.blk 1 <|
 .seq (.seq (.reg [⟨some 35, .mov (.t 10), none⟩,
 ⟨some 36, .mov (.t 12), none⟩,
 ⟨some 37, .ixa 4 (.t 35) (.t 36), none⟩,
 ⟨some 38, .fad 0 (.t 37), none⟩,
 ⟨some 39, .load (some 3) (.t 38), none⟩,
 ⟨some 13, .new [.v (.int .i64 0), .v (.int .i64 0), .v (.int .i64 0)], none⟩,
 ⟨none, .store 3 (.t 13) (.t 39), none⟩] []) <|
 .keep [9, 10, 11, 12, 13] [[11], [13]]) <|
 .seq (.seq (.reg [⟨some 40, .mov (.t 9), none⟩,
 ⟨some 41, .load (some 3) (.t 13), none⟩,
 ⟨some 42, .call n_convex_Most [(.t 40), (.t 41)] false, none⟩,
 ⟨some 14, .mov (.t 42), none⟩] []) <|
 .keep [9, 10, 11, 12, 13, 14] [[11], [13]]) <|
 .seq (.seq (.reg [⟨some 15, .mov (.c (.v (.bool false))), none⟩] []) <|
 .keep [9, 10, 11, 12, 13, 14, 15] [[11], [13]]) <|
 .seq (.seq (.seq (.reg [⟨some 16, .mov (.c (.v (.int .i64 0))), none⟩] []) <|
 .keep [9, 10, 11, 12, 13, 14, 15, 16] [[11], [13]]) <|
 .seq (.blk 2 <|
 .seq (.keep [9, 10, 11, 12, 13, 14, 15, 16] [[11], [13]]) <|
 .loop gantrylaw12_ConvexSupports_l0) <|
 .keep [9, 10, 11, 12, 13, 14, 15] [[11], [13]]) <|
 .seq (.seq (.reg [⟨some 90, .mov (.t 15), none⟩,
 ⟨some 91, .un .not (.t 90), none⟩,
 ⟨some 92, .mov (.t 91), none⟩,
 ⟨some 93, .mov (.t 9), (some (92, false))⟩,
 ⟨some 94, .load (some 8) (.t 11), (some (92, false))⟩,
 ⟨some 95, .call n_convex_Has [(.t 93), (.t 94)] false, (some (92, false))⟩,
 ⟨some 96, .mov (.t 95), (some (92, false))⟩,
 ⟨some 97, .load (some 3) (.t 13), (some (96, true))⟩,
 ⟨some 98, .load (some 8) (.t 11), (some (96, true))⟩,
 ⟨some 99, .call n_gantryref12_Dot [(.t 97), (.t 98)] false, (some (96, true))⟩,
 ⟨some 100, .mov (.t 14), (some (96, true))⟩,
 ⟨some 101, .call n_gantryref05_Of [(.t 100), (.c (.v (.int .i64 1)))] false, (some (96, true))⟩,
 ⟨some 102, .call n_gantryref05_Compare [(.t 99), (.t 101)] false, (some (96, true))⟩,
 ⟨some 103, .bin .gtr (.t 102) (.c (.v (.int .i64 0))), (some (96, true))⟩,
 ⟨some 104, .pick (.t 96) (.t 103) (.c (.v (.bool false))), (some (92, false))⟩,
 ⟨some 105, .pick (.t 92) (.c (.v (.bool true))) (.t 104), none⟩] []) <|
 .keep [9, 10, 11, 12, 105] [[11]]) <|
 .cond (.t 105) (.seq (.seq (.reg [⟨some 8, .mov (.c (.v (.bool false))), none⟩] []) <|
 .keep [8] []) <|
 .ret) <|
 .skip) <|
 .keep [9, 10, 11, 12] [[11]]) <|
 .seq (.reg [⟨some 33, .mov (.t 12), none⟩,
 ⟨some 34, .bin .add (.t 33) (.c (.v (.int .i64 1))), none⟩,
 ⟨some 12, .mov (.t 34), none⟩] []) <|
 .keep [9, 10, 11, 12] [[11]]) <|
 .keep [9, 10, 11, 12] [[11]]
def gantrylaw12_ConvexSupports_l2 : C :=
 .seq (.seq (.seq (.seq (.reg [⟨some 106, .mov (.t 17), none⟩,
 ⟨some 107, .mov (.t 9), none⟩,
 ⟨some 108, .len (.t 107), none⟩,
 ⟨some 109, .bin .lss (.t 106) (.t 108), none⟩] []) <|
 .keep [9, 10, 17, 109] []) <|
 .cond (.t 109) (.skip) <|
 .seq (.keep [10] []) <|
 .exit 4) <|
 .seq (.seq (.blk 5 <|
 .seq (.seq (.reg [⟨some 113, .mov (.t 9), none⟩,
 ⟨some 114, .mov (.t 17), none⟩,
 ⟨some 115, .ixa 2 (.t 113) (.t 114), none⟩,
 ⟨some 116, .load (some 2) (.t 115), none⟩,
 ⟨some 117, .mov (.t 9), none⟩,
 ⟨some 118, .mov (.t 17), none⟩,
 ⟨some 119, .call n_gantryref12_Next [(.t 117), (.t 118)] false, none⟩,
 ⟨some 120, .call n_convex_Norm [(.t 116), (.t 119)] false, none⟩,
 ⟨some 112, .mov (.t 120), none⟩,
 ⟨some 121, .ext (.t 112) 0, none⟩,
 ⟨some 122, .ext (.t 112) 1, none⟩,
 ⟨some 18, .new [.v (.int .i64 0), .v (.int .i64 0), .v (.int .i64 0)], none⟩,
 ⟨none, .store 3 (.t 18) (.t 121), none⟩,
 ⟨some 19, .mov (.t 122), none⟩] []) <|
 .keep [9, 10, 17, 18, 19] [[18]]) <|
 .seq (.seq (.reg [⟨some 123, .mov (.t 19), none⟩,
 ⟨some 124, .un .not (.t 123), none⟩,
 ⟨some 125, .mov (.t 124), none⟩,
 ⟨some 126, .mov (.t 9), (some (125, false))⟩,
 ⟨some 127, .load (some 3) (.t 18), (some (125, false))⟩,
 ⟨some 128, .call n_convex_Most [(.t 126), (.t 127)] false, (some (125, false))⟩,
 ⟨some 129, .fad 0 (.t 18), (some (125, false))⟩,
 ⟨some 130, .load none (.t 129), (some (125, false))⟩,
 ⟨some 131, .mov (.t 9), (some (125, false))⟩,
 ⟨some 132, .mov (.t 17), (some (125, false))⟩,
 ⟨some 133, .ixa 2 (.t 131) (.t 132), (some (125, false))⟩,
 ⟨some 134, .fad 0 (.t 133), (some (125, false))⟩,
 ⟨some 135, .load none (.t 134), (some (125, false))⟩,
 ⟨some 136, .bin .mul (.t 130) (.t 135), (some (125, false))⟩,
 ⟨some 137, .fad 1 (.t 18), (some (125, false))⟩,
 ⟨some 138, .load none (.t 137), (some (125, false))⟩,
 ⟨some 139, .mov (.t 9), (some (125, false))⟩,
 ⟨some 140, .mov (.t 17), (some (125, false))⟩,
 ⟨some 141, .ixa 2 (.t 139) (.t 140), (some (125, false))⟩,
 ⟨some 142, .fad 1 (.t 141), (some (125, false))⟩,
 ⟨some 143, .load none (.t 142), (some (125, false))⟩,
 ⟨some 144, .bin .mul (.t 138) (.t 143), (some (125, false))⟩,
 ⟨some 145, .bin .add (.t 136) (.t 144), (some (125, false))⟩,
 ⟨some 146, .bin .neq (.t 128) (.t 145), (some (125, false))⟩,
 ⟨some 147, .pick (.t 125) (.c (.v (.bool true))) (.t 146), none⟩] []) <|
 .keep [9, 10, 17, 147] []) <|
 .cond (.t 147) (.seq (.seq (.reg [⟨some 8, .mov (.c (.v (.bool false))), none⟩] []) <|
 .keep [8] []) <|
 .ret) <|
 .skip) <|
 .keep [9, 10, 17] []) <|
 .seq (.reg [⟨some 110, .mov (.t 17), none⟩,
 ⟨some 111, .bin .add (.t 110) (.c (.v (.int .i64 1))), none⟩,
 ⟨some 17, .mov (.t 111), none⟩] []) <|
 .keep [9, 10, 17] []) <|
 .keep [9, 10, 17] []
def gantrylaw12_ConvexSupports : CF := ⟨4, .seq (.seq (.reg [⟨some 8, .mov (.c (.v (.bool false))), none⟩] []) <|
 .keep [0, 1, 2, 3] []) <|
 .seq (.seq (.reg [⟨some 20, .mov (.t 0), none⟩,
 ⟨some 21, .call n_gantryref12_Shape [(.t 20)] false, none⟩,
 ⟨some 9, .mov (.t 21), none⟩] []) <|
 .keep [1, 2, 3, 9] []) <|
 .seq (.seq (.reg [⟨some 22, .mov (.t 1), none⟩,
 ⟨some 23, .call n_gantryref12_Shape [(.t 22)] false, none⟩,
 ⟨some 24, .mov (.t 9), none⟩,
 ⟨some 25, .call n_convex_Sides [(.t 23), (.t 24)] false, none⟩,
 ⟨some 10, .mov (.t 25), none⟩] []) <|
 .keep [2, 3, 9, 10] []) <|
 .seq (.seq (.reg [⟨some 26, .mov (.t 2), none⟩,
 ⟨some 27, .mov (.t 3), none⟩,
 ⟨some 28, .call n_gantryref12_Vec [(.t 26), (.t 27)] false, none⟩,
 ⟨some 11, .new [.v (.bool false), .z true, .v (.bool false), .z true, .v (.bool false), .z true, .v (.bool false), .z true], none⟩,
 ⟨none, .store 8 (.t 11) (.t 28), none⟩] []) <|
 .keep [9, 10, 11] [[11]]) <|
 .seq (.seq (.seq (.reg [⟨some 12, .mov (.c (.v (.int .i64 0))), none⟩] []) <|
 .keep [9, 10, 11, 12] [[11]]) <|
 .seq (.blk 0 <|
 .seq (.keep [9, 10, 11, 12] [[11]]) <|
 .loop gantrylaw12_ConvexSupports_l1) <|
 .keep [9, 10] []) <|
 .seq (.seq (.seq (.reg [⟨some 17, .mov (.c (.v (.int .i64 0))), none⟩] []) <|
 .keep [9, 10, 17] []) <|
 .seq (.blk 4 <|
 .seq (.keep [9, 10, 17] []) <|
 .loop gantrylaw12_ConvexSupports_l2) <|
 .keep [10] []) <|
 .seq (.seq (.reg [⟨some 148, .mov (.t 10), none⟩,
 ⟨some 149, .len (.t 148), none⟩,
 ⟨some 150, .bin .gtr (.t 149) (.c (.v (.int .i64 2))), none⟩,
 ⟨some 151, .mov (.t 150), none⟩,
 ⟨some 152, .call n_gantrylaw12_lives [] false, (some (151, true))⟩,
 ⟨some 153, .pick (.t 151) (.t 152) (.c (.v (.bool false))), none⟩,
 ⟨some 8, .mov (.t 153), none⟩] []) <|
 .keep [8] []) <|
 .ret, [.t 8]⟩

def gantrylaw12_ConvexSides_l0 : C :=
 .seq (.seq (.seq (.seq (.reg [⟨some 43, .mov (.t 12), none⟩,
 ⟨some 44, .mov (.t 7), none⟩,
 ⟨some 45, .len (.t 44), none⟩,
 ⟨some 46, .bin .lss (.t 43) (.t 45), none⟩] []) <|
 .keep [5, 6, 7, 8, 9, 10, 11, 12, 46] [[8], [9], [10], [11]]) <|
 .cond (.t 46) (.skip) <|
 .seq (.keep [8, 9, 10, 11] [[8], [9], [10], [11]]) <|
 .exit 0) <|
 .seq (.seq (.blk 1 <|
 .seq (.seq (.reg [⟨some 49, .mov (.t 5), none⟩,
 ⟨some 50, .mov (.t 7), none⟩,
 ⟨some 51, .mov (.t 12), none⟩,
 ⟨some 52, .ixa 4 (.t 50) (.t 51), none⟩,
 ⟨some 53, .fad 0 (.t 52), none⟩,
 ⟨some 54, .load (some 3) (.t 53), none⟩,
 ⟨some 55, .call n_convex_Most [(.t 49), (.t 54)] false, none⟩,
 ⟨some 56, .mov (.t 5), none⟩,
 ⟨some 57, .mov (.t 7), none⟩,
 ⟨some 58, .mov (.t 12), none⟩,
 ⟨some 59, .ixa 4 (.t 57) (.t 58), none⟩,
 ⟨some 60, .fad 0 (.t 59), none⟩,
 ⟨some 61, .load (some 3) (.t 60), none⟩,
 ⟨some 62, .call n_gantryref12_Most [(.t 56), (.t 61)] false, none⟩,
 ⟨some 63, .bin .neq (.t 55) (.t 62), none⟩,
 ⟨some 64, .mov (.t 63), none⟩,
 ⟨some 65, .mov (.t 6), (some (64, false))⟩,
 ⟨some 66, .mov (.t 7), (some (64, false))⟩,
 ⟨some 67, .mov (.t 12), (some (64, false))⟩,
 ⟨some 68, .ixa 4 (.t 66) (.t 67), (some (64, false))⟩,
 ⟨some 69, .fad 0 (.t 68), (some (64, false))⟩,
 ⟨some 70, .load (some 3) (.t 69), (some (64, false))⟩,
 ⟨some 71, .call n_convex_Most [(.t 65), (.t 70)] false, (some (64, false))⟩,
 ⟨some 72, .mov (.t 6), (some (64, false))⟩,
 ⟨some 73, .mov (.t 7), (some (64, false))⟩,
 ⟨some 74, .mov (.t 12), (some (64, false))⟩,
 ⟨some 75, .ixa 4 (.t 73) (.t 74), (some (64, false))⟩,
 ⟨some 76, .fad 0 (.t 75), (some (64, false))⟩,
 ⟨some 77, .load (some 3) (.t 76), (some (64, false))⟩,
 ⟨some 78, .call n_gantryref12_Most [(.t 72), (.t 77)] false, (some (64, false))⟩,
 ⟨some 79, .bin .neq (.t 71) (.t 78), (some (64, false))⟩,
 ⟨some 80, .pick (.t 64) (.c (.v (.bool true))) (.t 79), none⟩] []) <|
 .keep [5, 6, 7, 8, 9, 10, 11, 12, 80] [[8], [9], [10], [11]]) <|
 .cond (.t 80) (.seq (.seq (.reg [⟨some 4, .mov (.c (.v (.bool false))), none⟩] []) <|
 .keep [4] []) <|
 .ret) <|
 .skip) <|
 .keep [5, 6, 7, 8, 9, 10, 11, 12] [[8], [9], [10], [11]]) <|
 .seq (.reg [⟨some 47, .mov (.t 12), none⟩,
 ⟨some 48, .bin .add (.t 47) (.c (.v (.int .i64 1))), none⟩,
 ⟨some 12, .mov (.t 48), none⟩] []) <|
 .keep [5, 6, 7, 8, 9, 10, 11, 12] [[8], [9], [10], [11]]) <|
 .keep [5, 6, 7, 8, 9, 10, 11, 12] [[8], [9], [10], [11]]
def gantrylaw12_ConvexSides : CF := ⟨2, .seq (.seq (.reg [⟨some 4, .mov (.c (.v (.bool false))), none⟩] []) <|
 .keep [0, 1] []) <|
 .seq (.seq (.reg [⟨some 13, .mov (.t 0), none⟩,
 ⟨some 14, .call n_gantryref12_Shape [(.t 13)] false, none⟩,
 ⟨some 5, .mov (.t 14), none⟩] []) <|
 .keep [1, 5] []) <|
 .seq (.seq (.reg [⟨some 15, .mov (.t 1), none⟩,
 ⟨some 16, .call n_gantryref12_Shape [(.t 15)] false, none⟩,
 ⟨some 6, .mov (.t 16), none⟩] []) <|
 .keep [5, 6] []) <|
 .seq (.seq (.reg [⟨some 17, .mov (.t 5), none⟩,
 ⟨some 18, .mov (.t 6), none⟩,
 ⟨some 19, .call n_convex_Sides [(.t 17), (.t 18)] false, none⟩,
 ⟨some 7, .mov (.t 19), none⟩] []) <|
 .keep [5, 6, 7] []) <|
 .seq (.seq (.seq (.reg [⟨some 20, .mov (.t 7), none⟩,
 ⟨some 21, .mov (.t 5), none⟩,
 ⟨some 22, .mov (.t 6), none⟩,
 ⟨some 23, .call n_gantryref12_Sides [(.t 21), (.t 22)] false, none⟩,
 ⟨some 24, .call n_gantryref12_SameEdges [(.t 20), (.t 23)] false, none⟩,
 ⟨some 25, .un .not (.t 24), none⟩,
 ⟨some 26, .mov (.t 25), none⟩,
 ⟨some 27, .mov (.t 5), (some (26, false))⟩,
 ⟨some 28, .call n_convex_Area [(.t 27)] false, (some (26, false))⟩,
 ⟨some 29, .mov (.t 5), (some (26, false))⟩,
 ⟨some 30, .call n_gantryref12_Area [(.t 29)] false, (some (26, false))⟩,
 ⟨some 31, .bin .neq (.t 28) (.t 30), (some (26, false))⟩,
 ⟨some 32, .pick (.t 26) (.c (.v (.bool true))) (.t 31), none⟩] []) <|
 .keep [5, 6, 7, 32] []) <|
 .cond (.t 32) (.seq (.seq (.reg [⟨some 4, .mov (.c (.v (.bool false))), none⟩] []) <|
 .keep [4] []) <|
 .ret) <|
 .skip) <|
 .seq (.seq (.reg [⟨some 34, .mov (.t 6), none⟩,
 ⟨some 35, .call n_convex_Box [(.t 34)] false, none⟩,
 ⟨some 33, .mov (.t 35), none⟩,
 ⟨some 36, .ext (.t 33) 0, none⟩,
 ⟨some 37, .ext (.t 33) 1, none⟩,
 ⟨some 8, .new [.v (.int .i64 0), .v (.int .i64 0)], none⟩,
 ⟨some 9, .new [.v (.int .i64 0), .v (.int .i64 0)], none⟩,
 ⟨none, .store 2 (.t 8) (.t 36), none⟩,
 ⟨none, .store 2 (.t 9) (.t 37), none⟩] []) <|
 .keep [5, 6, 7, 8, 9] [[8], [9]]) <|
 .seq (.seq (.reg [⟨some 39, .mov (.t 6), none⟩,
 ⟨some 40, .call n_gantryref12_Box [(.t 39)] false, none⟩,
 ⟨some 38, .mov (.t 40), none⟩,
 ⟨some 41, .ext (.t 38) 0, none⟩,
 ⟨some 42, .ext (.t 38) 1, none⟩,
 ⟨some 10, .new [.v (.int .i64 0), .v (.int .i64 0)], none⟩,
 ⟨some 11, .new [.v (.int .i64 0), .v (.int .i64 0)], none⟩,
 ⟨none, .store 2 (.t 10) (.t 41), none⟩,
 ⟨none, .store 2 (.t 11) (.t 42), none⟩] []) <|
 .keep [5, 6, 7, 8, 9, 10, 11] [[8], [9], [10], [11]]) <|
 .seq (.seq (.seq (.reg [⟨some 12, .mov (.c (.v (.int .i64 0))), none⟩] []) <|
 .keep [5, 6, 7, 8, 9, 10, 11, 12] [[8], [9], [10], [11]]) <|
 .seq (.blk 0 <|
 .seq (.keep [5, 6, 7, 8, 9, 10, 11, 12] [[8], [9], [10], [11]]) <|
 .loop gantrylaw12_ConvexSides_l0) <|
 .keep [8, 9, 10, 11] [[8], [9], [10], [11]]) <|
 .seq (.seq (.reg [⟨some 81, .load (some 2) (.t 8), none⟩,
 ⟨some 82, .load (some 2) (.t 10), none⟩,
 ⟨some 83, .eqs 2 false (.t 81) (.t 82), none⟩,
 ⟨some 84, .mov (.t 83), none⟩,
 ⟨some 85, .load (some 2) (.t 9), (some (84, true))⟩,
 ⟨some 86, .load (some 2) (.t 11), (some (84, true))⟩,
 ⟨some 87, .eqs 2 false (.t 85) (.t 86), (some (84, true))⟩,
 ⟨some 88, .pick (.t 84) (.t 87) (.c (.v (.bool false))), none⟩,
 ⟨some 89, .mov (.t 88), none⟩,
 ⟨some 90, .call n_gantrylaw12_lives [] false, (some (89, true))⟩,
 ⟨some 91, .pick (.t 89) (.t 90) (.c (.v (.bool false))), none⟩,
 ⟨some 4, .mov (.t 91), none⟩] []) <|
 .keep [4] []) <|
 .ret, [.t 4]⟩

def gantryref12_Shape : CF := ⟨1, .seq (.seq (.reg [⟨some 2, .mov (.c (.z true)), none⟩] []) <|
 .keep [0] []) <|
 .seq (.seq (.reg [⟨some 6, .mov (.t 0), none⟩,
 ⟨some 7, .call n_gantryref01_At [(.t 6), (.c (.v (.int .i64 1))), (.c (.v (.int .i64 3)))] false, none⟩,
 ⟨some 8, .bin .add (.c (.v (.int .i64 1))) (.t 7), none⟩,
 ⟨some 3, .mov (.t 8), none⟩] []) <|
 .keep [0, 3] []) <|
 .seq (.seq (.reg [⟨some 9, .mov (.t 0), none⟩,
 ⟨some 10, .call n_gantryref01_At [(.t 9), (.c (.v (.int .i64 2))), (.c (.v (.int .i64 6)))] false, none⟩,
 ⟨some 11, .bin .add (.c (.v (.int .i64 1))) (.t 10), none⟩,
 ⟨some 4, .mov (.t 11), none⟩] []) <|
 .keep [0, 3, 4] []) <|
 .seq (.seq (.reg [⟨some 5, .mov (.c (.z true)), none⟩] []) <|
 .keep [0, 3, 4] []) <|
 .seq (.seq (.seq (.reg [⟨some 12, .mov (.t 0), none⟩,
 ⟨some 13, .call n_gantryref01_At [(.t 12), (.c (.v (.int .i64 0))), (.c (.v (.int .i64 7)))] false, none⟩] []) <|
 .keep [0, 3, 4, 13] []) <|
 .seq (.blk 0 <|
 .seq (.seq (.seq (.reg [⟨some 25, .bin .eql (.t 13) (.c (.v (.int .i64 0))), none⟩,
 ⟨some 24, .mov (.t 25), none⟩] []) <|
 .keep [0, 3, 4, 13, 24] []) <|
 .cond (.t 24) (.skip) <|
 .seq (.seq (.reg [⟨some 26, .bin .eql (.t 13) (.c (.v (.int .i64 1))), none⟩,
 ⟨some 24, .mov (.t 26), none⟩] []) <|
 .keep [0, 3, 4, 13, 24] []) <|
 .cond (.t 24) (.skip) <|
 .seq (.reg [⟨some 27, .bin .eql (.t 13) (.c (.v (.int .i64 2))), none⟩,
 ⟨some 24, .mov (.t 27), none⟩] []) <|
 .keep [0, 3, 4, 13, 24] []) <|
 .cond (.t 24) (.seq (.reg [⟨some 28, .build [.v (.int .i64 0), .v (.int .i64 0)] [], none⟩,
 ⟨some 29, .mov (.t 3), none⟩,
 ⟨some 30, .bin .mul (.c (.v (.int .i64 2))) (.t 29), none⟩,
 ⟨some 31, .build [.v (.int .i64 0), .v (.int .i64 0)] [(0, 1, (.t 30))], none⟩,
 ⟨some 32, .mov (.t 3), none⟩,
 ⟨some 33, .bin .mul (.c (.v (.int .i64 2))) (.t 32), none⟩,
 ⟨some 34, .mov (.t 4), none⟩,
 ⟨some 35, .build [.v (.int .i64 0), .v (.int .i64 0)] [(0, 1, (.t 33)), (1, 1, (.t 34))], none⟩,
 ⟨some 36, .mov (.t 4), none⟩,
 ⟨some 37, .build [.v (.int .i64 0), .v (.int .i64 0)] [(1, 1, (.t 36))], none⟩,
 ⟨some 38, .lit 2 4 [.v (.int .i64 0), .v (.int .i64 0)] [(0, (.t 28)), (1, (.t 31)), (2, (.t 35)), (3, (.t 37))] true, none⟩,
 ⟨some 5, .mov (.t 38), none⟩] []) <|
 .keep [0, 5] []) <|
 .seq (.seq (.reg [⟨some 40, .bin .eql (.t 13) (.c (.v (.int .i64 3))), none⟩,
 ⟨some 39, .mov (.t 40), none⟩] []) <|
 .keep [0, 3, 4, 13, 39] []) <|
 .cond (.t 39) (.seq (.reg [⟨some 41, .build [.v (.int .i64 0), .v (.int .i64 0)] [], none⟩,
 ⟨some 42, .mov (.t 3), none⟩,
 ⟨some 43, .bin .mul (.c (.v (.int .i64 4))) (.t 42), none⟩,
 ⟨some 44, .build [.v (.int .i64 0), .v (.int .i64 0)] [(0, 1, (.t 43))], none⟩,
 ⟨some 45, .mov (.t 3), none⟩,
 ⟨some 46, .bin .mul (.c (.v (.int .i64 3))) (.t 45), none⟩,
 ⟨some 47, .build [.v (.int .i64 0), .v (.int .i64 0)] [(1, 1, (.t 46))], none⟩,
 ⟨some 48, .lit 2 3 [.v (.int .i64 0), .v (.int .i64 0)] [(0, (.t 41)), (1, (.t 44)), (2, (.t 47))] true, none⟩,
 ⟨some 5, .mov (.t 48), none⟩] []) <|
 .keep [0, 5] []) <|
 .seq (.seq (.reg [⟨some 50, .bin .eql (.t 13) (.c (.v (.int .i64 4))), none⟩,
 ⟨some 49, .mov (.t 50), none⟩] []) <|
 .keep [0, 3, 4, 13, 49] []) <|
 .cond (.t 49) (.seq (.reg [⟨some 51, .build [.v (.int .i64 0), .v (.int .i64 0)] [], none⟩,
 ⟨some 52, .mov (.t 3), none⟩,
 ⟨some 53, .bin .mul (.c (.v (.int .i64 4))) (.t 52), none⟩,
 ⟨some 54, .mov (.t 3), none⟩,
 ⟨some 55, .bin .mul (.c (.v (.int .i64 (-3)))) (.t 54), none⟩,
 ⟨some 56, .build [.v (.int .i64 0), .v (.int .i64 0)] [(0, 1, (.t 53)), (1, 1, (.t 55))], none⟩,
 ⟨some 57, .mov (.t 3), none⟩,
 ⟨some 58, .bin .mul (.c (.v (.int .i64 8))) (.t 57), none⟩,
 ⟨some 59, .build [.v (.int .i64 0), .v (.int .i64 0)] [(0, 1, (.t 58))], none⟩,
 ⟨some 60, .mov (.t 3), none⟩,
 ⟨some 61, .bin .mul (.c (.v (.int .i64 4))) (.t 60), none⟩,
 ⟨some 62, .mov (.t 3), none⟩,
 ⟨some 63, .bin .mul (.c (.v (.int .i64 3))) (.t 62), none⟩,
 ⟨some 64, .build [.v (.int .i64 0), .v (.int .i64 0)] [(0, 1, (.t 61)), (1, 1, (.t 63))], none⟩,
 ⟨some 65, .lit 2 4 [.v (.int .i64 0), .v (.int .i64 0)] [(0, (.t 51)), (1, (.t 56)), (2, (.t 59)), (3, (.t 64))] true, none⟩,
 ⟨some 5, .mov (.t 65), none⟩] []) <|
 .keep [0, 5] []) <|
 .seq (.seq (.reg [⟨some 67, .bin .eql (.t 13) (.c (.v (.int .i64 5))), none⟩,
 ⟨some 66, .mov (.t 67), none⟩] []) <|
 .keep [0, 3, 4, 66] []) <|
 .cond (.t 66) (.seq (.reg [⟨some 68, .build [.v (.int .i64 0), .v (.int .i64 0)] [], none⟩,
 ⟨some 69, .mov (.t 3), none⟩,
 ⟨some 70, .bin .mul (.c (.v (.int .i64 8))) (.t 69), none⟩,
 ⟨some 71, .build [.v (.int .i64 0), .v (.int .i64 0)] [(0, 1, (.t 70))], none⟩,
 ⟨some 72, .mov (.t 3), none⟩,
 ⟨some 73, .bin .mul (.c (.v (.int .i64 8))) (.t 72), none⟩,
 ⟨some 74, .mov (.t 4), none⟩,
 ⟨some 75, .build [.v (.int .i64 0), .v (.int .i64 0)] [(0, 1, (.t 73)), (1, 1, (.t 74))], none⟩,
 ⟨some 76, .mov (.t 3), none⟩,
 ⟨some 77, .bin .mul (.c (.v (.int .i64 4))) (.t 76), none⟩,
 ⟨some 78, .mov (.t 4), none⟩,
 ⟨some 79, .mov (.t 3), none⟩,
 ⟨some 80, .bin .mul (.c (.v (.int .i64 3))) (.t 79), none⟩,
 ⟨some 81, .bin .add (.t 78) (.t 80), none⟩,
 ⟨some 82, .build [.v (.int .i64 0), .v (.int .i64 0)] [(0, 1, (.t 77)), (1, 1, (.t 81))], none⟩,
 ⟨some 83, .mov (.t 4), none⟩,
 ⟨some 84, .build [.v (.int .i64 0), .v (.int .i64 0)] [(1, 1, (.t 83))], none⟩,
 ⟨some 85, .lit 2 5 [.v (.int .i64 0), .v (.int .i64 0)] [(0, (.t 68)), (1, (.t 71)), (2, (.t 75)), (3, (.t 82)), (4, (.t 84))] true, none⟩,
 ⟨some 5, .mov (.t 85), none⟩] []) <|
 .keep [0, 5] []) <|
 .seq (.reg [⟨some 14, .build [.v (.int .i64 0), .v (.int .i64 0)] [], none⟩,
 ⟨some 15, .mov (.t 3), none⟩,
 ⟨some 16, .bin .mul (.c (.v (.int .i64 6))) (.t 15), none⟩,
 ⟨some 17, .build [.v (.int .i64 0), .v (.int .i64 0)] [(0, 1, (.t 16))], none⟩,
 ⟨some 18, .mov (.t 3), none⟩,
 ⟨some 19, .bin .mul (.c (.v (.int .i64 3))) (.t 18), none⟩,
 ⟨some 20, .mov (.t 3), none⟩,
 ⟨some 21, .bin .mul (.c (.v (.int .i64 4))) (.t 20), none⟩,
 ⟨some 22, .build [.v (.int .i64 0), .v (.int .i64 0)] [(0, 1, (.t 19)), (1, 1, (.t 21))], none⟩,
 ⟨some 23, .lit 2 3 [.v (.int .i64 0), .v (.int .i64 0)] [(0, (.t 14)), (1, (.t 17)), (2, (.t 22))] true, none⟩,
 ⟨some 5, .mov (.t 23), none⟩] []) <|
 .keep [0, 5] []) <|
 .keep [0, 5] []) <|
 .seq (.seq (.reg [⟨some 86, .mov (.t 5), none⟩,
 ⟨some 87, .mov (.t 0), none⟩,
 ⟨some 88, .call n_gantryref01_At [(.t 87), (.c (.v (.int .i64 3))), (.c (.v (.int .i64 5)))] false, none⟩,
 ⟨some 89, .bin .sub (.t 88) (.c (.v (.int .i64 2))), none⟩,
 ⟨some 90, .mov (.t 0), none⟩,
 ⟨some 91, .call n_gantryref01_At [(.t 90), (.c (.v (.int .i64 4))), (.c (.v (.int .i64 5)))] false, none⟩,
 ⟨some 92, .bin .sub (.t 91) (.c (.v (.int .i64 2))), none⟩,
 ⟨some 93, .call n_gantryref12_Move [(.t 86), (.t 89), (.t 92)] false, none⟩,
 ⟨some 2, .mov (.t 93), none⟩] []) <|
 .keep [2] []) <|
 .ret, [.t 2]⟩

def convex_Sum_l0 : C :=
 .seq (.seq (.seq (.reg [⟨some 25, .bin .lss (.t 24) (.t 23), none⟩] []) <|
 .keep [1, 5, 7, 16, 17, 18, 22, 23, 24, 25] [[7], [41]]) <|
 .seq (.cond (.t 25) (.skip) <|
 .seq (.keep [1, 5, 16, 17, 18] [[41]]) <|
 .exit 2) <|
 .seq (.seq (.blk 3 <|
 .seq (.seq (.reg [⟨some 26, .ixa 2 (.t 22) (.t 24), none⟩,
 ⟨some 27, .load (some 2) (.t 26), none⟩,
 ⟨some 9, .new [.v (.int .i64 0), .v (.int .i64 0)], none⟩,
 ⟨none, .store 2 (.t 9) (.t 27), none⟩] []) <|
 .keep [1, 5, 7, 9, 16, 17, 18, 22, 23, 24] [[7], [9], [41]]) <|
 .seq (.reg [⟨some 28, .mov (.t 5), none⟩,
 ⟨some 29, .fad 0 (.t 7), none⟩,
 ⟨some 30, .load none (.t 29), none⟩,
 ⟨some 31, .fad 0 (.t 9), none⟩,
 ⟨some 32, .load none (.t 31), none⟩,
 ⟨some 33, .bin .sub (.t 30) (.t 32), none⟩,
 ⟨some 34, .fad 1 (.t 7), none⟩,
 ⟨some 35, .load none (.t 34), none⟩,
 ⟨some 36, .fad 1 (.t 9), none⟩,
 ⟨some 37, .load none (.t 36), none⟩,
 ⟨some 38, .bin .sub (.t 35) (.t 37), none⟩,
 ⟨some 39, .build [.v (.int .i64 0), .v (.int .i64 0)] [(0, 1, (.t 33)), (1, 1, (.t 38))], none⟩,
 ⟨some 40, .lit 2 1 [.v (.int .i64 0), .v (.int .i64 0)] [(0, (.t 39))] true, none⟩,
 ⟨some 41, .app 2 16 (.t 28) (.t 40) false, none⟩,
 ⟨some 5, .mov (.t 41), none⟩] []) <|
 .keep [1, 5, 7, 16, 17, 18, 22, 23, 24] [[7], [41]]) <|
 .keep [1, 5, 7, 16, 17, 18, 22, 23, 24] [[7], [41]]) <|
 .seq (.reg [⟨some 42, .bin .add (.t 24) (.c (.v (.int .i64 1))), none⟩,
 ⟨some 24, .mov (.t 42), none⟩] []) <|
 .keep [1, 5, 7, 16, 17, 18, 22, 23, 24] [[7], [41]]) <|
 .keep [1, 5, 7, 16, 17, 18, 22, 23, 24] [[7], [41]]
def convex_Sum_l1 : C :=
 .seq (.seq (.seq (.reg [⟨some 19, .bin .lss (.t 18) (.t 17), none⟩] []) <|
 .keep [1, 5, 16, 17, 18, 19] [[41]]) <|
 .seq (.cond (.t 19) (.skip) <|
 .seq (.keep [5] [[41]]) <|
 .exit 0) <|
 .seq (.seq (.blk 1 <|
 .seq (.seq (.reg [⟨some 20, .ixa 2 (.t 16) (.t 18), none⟩,
 ⟨some 21, .load (some 2) (.t 20), none⟩,
 ⟨some 7, .new [.v (.int .i64 0), .v (.int .i64 0)], none⟩,
 ⟨none, .store 2 (.t 7) (.t 21), none⟩] []) <|
 .keep [1, 5, 7, 16, 17, 18] [[7], [41]]) <|
 .seq (.seq (.reg [⟨some 22, .mov (.t 1), none⟩,
 ⟨some 23, .len (.t 22), none⟩,
 ⟨some 24, .mov (.c (.v (.int .i64 0))), none⟩] []) <|
 .keep [1, 5, 7, 16, 17, 18, 22, 23, 24] [[7], [41]]) <|
 .seq (.blk 2 <|
 .seq (.keep [1, 5, 7, 16, 17, 18, 22, 23, 24] [[7], [41]]) <|
 .loop convex_Sum_l0) <|
 .keep [1, 5, 16, 17, 18] [[41]]) <|
 .keep [1, 5, 16, 17, 18] [[41]]) <|
 .seq (.reg [⟨some 43, .bin .add (.t 18) (.c (.v (.int .i64 1))), none⟩,
 ⟨some 18, .mov (.t 43), none⟩] []) <|
 .keep [1, 5, 16, 17, 18] [[41]]) <|
 .keep [1, 5, 16, 17, 18] [[41]]
def convex_Sum_l2 : C :=
 .seq (.seq (.seq (.reg [⟨some 58, .bin .lss (.t 57) (.t 56), none⟩] []) <|
 .keep [5, 10, 11, 12, 13, 55, 56, 57, 58] [[10], [12], [13], [41], [47], [96]]) <|
 .seq (.cond (.t 58) (.skip) <|
 .seq (.keep [5, 10, 11, 13] [[10], [13], [41], [47], [96]]) <|
 .exit 6) <|
 .seq (.seq (.blk 7 <|
 .seq (.seq (.reg [⟨some 59, .ixa 2 (.t 55) (.t 57), none⟩,
 ⟨some 60, .load (some 2) (.t 59), none⟩,
 ⟨some 15, .new [.v (.int .i64 0), .v (.int .i64 0)], none⟩,
 ⟨none, .store 2 (.t 15) (.t 60), none⟩] []) <|
 .keep [5, 10, 11, 12, 13, 15, 55, 56, 57] [[10], [12], [13], [15], [41], [47], [96]]) <|
 .seq (.seq (.reg [⟨some 61, .load (some 2) (.t 13), none⟩,
 ⟨some 62, .load (some 2) (.t 12), none⟩,
 ⟨some 63, .eqs 2 false (.t 61) (.t 62), none⟩,
 ⟨some 64, .mov (.t 63), none⟩,
 ⟨some 65, .load (some 2) (.t 12), (some (64, false))⟩,
 ⟨some 66, .load (some 2) (.t 13), (some (64, false))⟩,
 ⟨some 67, .load (some 2) (.t 15), (some (64, false))⟩,
 ⟨some 68, .call n_convex_cross [(.t 65), (.t 66), (.t 67)] false, (some (64, false))⟩,
 ⟨some 69, .bin .lss (.t 68) (.c (.v (.int .i64 0))), (some (64, false))⟩,
 ⟨some 70, .pick (.t 64) (.c (.v (.bool true))) (.t 69), none⟩,
 ⟨some 71, .mov (.t 70), none⟩,
 ⟨some 72, .load (some 2) (.t 12), (some (71, false))⟩,
 ⟨some 73, .load (some 2) (.t 13), (some (71, false))⟩,
 ⟨some 74, .load (some 2) (.t 15), (some (71, false))⟩,
 ⟨some 75, .call n_convex_cross [(.t 72), (.t 73), (.t 74)] false, (some (71, false))⟩,
 ⟨some 76, .bin .eql (.t 75) (.c (.v (.int .i64 0))), (some (71, false))⟩,
 ⟨some 77, .mov (.t 76), (some (71, false))⟩,
 ⟨some 78, .load (some 2) (.t 12), (some (77, true))⟩,
 ⟨some 79, .load (some 2) (.t 15), (some (77, true))⟩,
 ⟨some 80, .call n_convex_far [(.t 78), (.t 79)] false, (some (77, true))⟩,
 ⟨some 81, .load (some 2) (.t 12), (some (77, true))⟩,
 ⟨some 82, .load (some 2) (.t 13), (some (77, true))⟩,
 ⟨some 83, .call n_convex_far [(.t 81), (.t 82)] false, (some (77, true))⟩,
 ⟨some 84, .bin .gtr (.t 80) (.t 83), (some (77, true))⟩,
 ⟨some 85, .pick (.t 77) (.t 84) (.c (.v (.bool false))), (some (71, false))⟩,
 ⟨some 86, .pick (.t 71) (.c (.v (.bool true))) (.t 85), none⟩] []) <|
 .keep [5, 10, 11, 12, 13, 15, 55, 56, 57, 86] [[10], [12], [13], [15], [41], [47], [96]]) <|
 .cond (.t 86) (.seq (.reg [⟨some 87, .load (some 2) (.t 15), none⟩,
 ⟨none, .store 2 (.t 13) (.t 87), none⟩] []) <|
 .keep [5, 10, 11, 12, 13, 55, 56, 57] [[10], [12], [13], [41], [47], [96]]) <|
 .skip) <|
 .keep [5, 10, 11, 12, 13, 55, 56, 57] [[10], [12], [13], [41], [47], [96]]) <|
 .seq (.reg [⟨some 88, .bin .add (.t 57) (.c (.v (.int .i64 1))), none⟩,
 ⟨some 57, .mov (.t 88), none⟩] []) <|
 .keep [5, 10, 11, 12, 13, 55, 56, 57] [[10], [12], [13], [41], [47], [96]]) <|
 .keep [5, 10, 11, 12, 13, 55, 56, 57] [[10], [12], [13], [41], [47], [96]]
def convex_Sum_l3 : C :=
 .seq (.seq (.blk 5 <|
 .seq (.seq (.reg [⟨some 48, .mov (.t 11), none⟩,
 ⟨some 49, .mov (.t 11), none⟩,
 ⟨some 50, .len (.t 49), none⟩,
 ⟨some 51, .bin .sub (.t 50) (.c (.v (.int .i64 1))), none⟩,
 ⟨some 52, .ixa 2 (.t 48) (.t 51), none⟩,
 ⟨some 53, .load (some 2) (.t 52), none⟩,
 ⟨some 12, .new [.v (.int .i64 0), .v (.int .i64 0)], none⟩,
 ⟨none, .store 2 (.t 12) (.t 53), none⟩] []) <|
 .keep [5, 10, 11, 12] [[10], [12], [41], [47], [96]]) <|
 .seq (.seq (.reg [⟨some 54, .load (some 2) (.t 12), none⟩,
 ⟨some 13, .new [.v (.int .i64 0), .v (.int .i64 0)], none⟩,
 ⟨none, .store 2 (.t 13) (.t 54), none⟩] []) <|
 .keep [5, 10, 11, 12, 13] [[10], [12], [13], [41], [47], [96]]) <|
 .seq (.seq (.seq (.reg [⟨some 55, .mov (.t 5), none⟩,
 ⟨some 56, .len (.t 55), none⟩,
 ⟨some 57, .mov (.c (.v (.int .i64 0))), none⟩] []) <|
 .keep [5, 10, 11, 12, 13, 55, 56, 57] [[10], [12], [13], [41], [47], [96]]) <|
 .seq (.blk 6 <|
 .seq (.keep [5, 10, 11, 12, 13, 55, 56, 57] [[10], [12], [13], [41], [47], [96]]) <|
 .loop convex_Sum_l2) <|
 .keep [5, 10, 11, 13] [[10], [13], [41], [47], [96]]) <|
 .seq (.seq (.seq (.reg [⟨some 89, .load (some 2) (.t 13), none⟩,
 ⟨some 90, .load (some 2) (.t 10), none⟩,
 ⟨some 91, .eqs 2 false (.t 89) (.t 90), none⟩] []) <|
 .keep [5, 10, 11, 13, 91] [[10], [13], [41], [47], [96]]) <|
 .cond (.t 91) (.seq (.seq (.reg [⟨some 92, .mov (.t 11), none⟩,
 ⟨some 4, .mov (.t 92), none⟩] []) <|
 .keep [4] [[47], [96]]) <|
 .ret) <|
 .skip) <|
 .seq (.reg [⟨some 93, .mov (.t 11), none⟩,
 ⟨some 94, .load (some 2) (.t 13), none⟩,
 ⟨some 95, .lit 2 1 [.v (.int .i64 0), .v (.int .i64 0)] [(0, (.t 94))] true, none⟩,
 ⟨some 96, .app 2 16 (.t 93) (.t 95) false, none⟩,
 ⟨some 11, .mov (.t 96), none⟩] []) <|
 .keep [5, 10, 11] [[10], [41], [47], [96]]) <|
 .keep [5, 10, 11] [[10], [41], [47], [96]]) <|
 .keep [5, 10, 11] [[10], [41], [47], [96]]
def convex_Sum : CF := ⟨2, .seq (.seq (.reg [⟨some 4, .mov (.c (.z true)), none⟩] []) <|
 .keep [0, 1] []) <|
 .seq (.seq (.reg [⟨some 5, .mov (.c (.z true)), none⟩] []) <|
 .keep [0, 1, 5] [[41]]) <|
 .seq (.seq (.seq (.reg [⟨some 16, .mov (.t 0), none⟩,
 ⟨some 17, .len (.t 16), none⟩,
 ⟨some 18, .mov (.c (.v (.int .i64 0))), none⟩] []) <|
 .keep [1, 5, 16, 17, 18] [[41]]) <|
 .seq (.blk 0 <|
 .seq (.keep [1, 5, 16, 17, 18] [[41]]) <|
 .loop convex_Sum_l1) <|
 .keep [5] [[41]]) <|
 .seq (.seq (.frz 5) <|
 .seq (.reg [⟨some 44, .mov (.t 5), none⟩,
 ⟨some 45, .call n_slices_MinFunc_api_Point_api_Point [(.t 44), (.f n_convex_Sum_1)] false, none⟩,
 ⟨some 10, .new [.v (.int .i64 0), .v (.int .i64 0)], none⟩,
 ⟨none, .store 2 (.t 10) (.t 45), none⟩] []) <|
 .keep [5, 10] [[10], [41]]) <|
 .seq (.seq (.reg [⟨some 46, .load (some 2) (.t 10), none⟩,
 ⟨some 47, .lit 2 1 [.v (.int .i64 0), .v (.int .i64 0)] [(0, (.t 46))] false, none⟩,
 ⟨some 11, .mov (.t 47), none⟩] []) <|
 .keep [5, 10, 11] [[10], [41], [47], [96]]) <|
 .seq (.blk 4 <|
 .seq (.keep [5, 10, 11] [[10], [41], [47], [96]]) <|
 .loop convex_Sum_l3) <|
 .keep [4] [[47], [96]], [.t 4]⟩

def gantryref12_SamePoints_l0 : C :=
 .seq (.seq (.seq (.seq (.reg [⟨some 11, .mov (.t 5), none⟩,
 ⟨some 12, .mov (.t 0), none⟩,
 ⟨some 13, .len (.t 12), none⟩,
 ⟨some 14, .bin .lss (.t 11) (.t 13), none⟩] []) <|
 .keep [0, 1, 5, 14] []) <|
 .cond (.t 14) (.skip) <|
 .seq (.keep [] []) <|
 .exit 0) <|
 .seq (.seq (.blk 1 <|
 .seq (.seq (.reg [⟨some 17, .mov (.t 0), none⟩,
 ⟨some 18, .mov (.t 5), none⟩,
 ⟨some 19, .ixa 2 (.t 17) (.t 18), none⟩,
 ⟨some 20, .load (some 2) (.t 19), none⟩,
 ⟨some 21, .mov (.t 1), none⟩,
 ⟨some 22, .mov (.t 5), none⟩,
 ⟨some 23, .ixa 2 (.t 21) (.t 22), none⟩,
 ⟨some 24, .load (some 2) (.t 23), none⟩,
 ⟨some 25, .eqs 2 true (.t 20) (.t 24), none⟩] []) <|
 .keep [0, 1, 5, 25] []) <|
 .cond (.t 25) (.seq (.seq (.reg [⟨some 4, .mov (.c (.v (.bool false))), none⟩] []) <|
 .keep [4] []) <|
 .ret) <|
 .skip) <|
 .keep [0, 1, 5] []) <|
 .seq (.reg [⟨some 15, .mov (.t 5), none⟩,
 ⟨some 16, .bin .add (.t 15) (.c (.v (.int .i64 1))), none⟩,
 ⟨some 5, .mov (.t 16), none⟩] []) <|
 .keep [0, 1, 5] []) <|
 .keep [0, 1, 5] []
def gantryref12_SamePoints : CF := ⟨2, .seq (.seq (.reg [⟨some 4, .mov (.c (.v (.bool false))), none⟩] []) <|
 .keep [0, 1] []) <|
 .seq (.seq (.seq (.reg [⟨some 6, .mov (.t 0), none⟩,
 ⟨some 7, .len (.t 6), none⟩,
 ⟨some 8, .mov (.t 1), none⟩,
 ⟨some 9, .len (.t 8), none⟩,
 ⟨some 10, .bin .neq (.t 7) (.t 9), none⟩] []) <|
 .keep [0, 1, 10] []) <|
 .cond (.t 10) (.seq (.seq (.reg [⟨some 4, .mov (.c (.v (.bool false))), none⟩] []) <|
 .keep [4] []) <|
 .ret) <|
 .skip) <|
 .seq (.seq (.seq (.reg [⟨some 5, .mov (.c (.v (.int .i64 0))), none⟩] []) <|
 .keep [0, 1, 5] []) <|
 .seq (.blk 0 <|
 .seq (.keep [0, 1, 5] []) <|
 .loop gantryref12_SamePoints_l0) <|
 .keep [] []) <|
 .seq (.seq (.reg [⟨some 4, .mov (.c (.v (.bool true))), none⟩] []) <|
 .keep [4] []) <|
 .ret, [.t 4]⟩

def gantryref12_Sum_l0 : C :=
 .seq (.seq (.seq (.seq (.reg [⟨some 26, .mov (.t 7), none⟩,
 ⟨some 27, .mov (.t 1), none⟩,
 ⟨some 28, .len (.t 27), none⟩,
 ⟨some 29, .bin .lss (.t 26) (.t 28), none⟩] []) <|
 .keep [0, 1, 5, 6, 7, 29] [[57]]) <|
 .cond (.t 29) (.skip) <|
 .seq (.keep [0, 1, 5, 6] [[57]]) <|
 .exit 2) <|
 .seq (.seq (.blk 3 <|
 .seq (.reg [⟨some 32, .mov (.t 5), none⟩,
 ⟨some 33, .mov (.t 0), none⟩,
 ⟨some 34, .mov (.t 6), none⟩,
 ⟨some 35, .ixa 2 (.t 33) (.t 34), none⟩,
 ⟨some 36, .fad 0 (.t 35), none⟩,
 ⟨some 37, .load none (.t 36), none⟩,
 ⟨some 38, .mov (.t 1), none⟩,
 ⟨some 39, .mov (.t 7), none⟩,
 ⟨some 40, .ixa 2 (.t 38) (.t 39), none⟩,
 ⟨some 41, .fad 0 (.t 40), none⟩,
 ⟨some 42, .load none (.t 41), none⟩,
 ⟨some 43, .bin .sub (.t 37) (.t 42), none⟩,
 ⟨some 44, .mov (.t 0), none⟩,
 ⟨some 45, .mov (.t 6), none⟩,
 ⟨some 46, .ixa 2 (.t 44) (.t 45), none⟩,
 ⟨some 47, .fad 1 (.t 46), none⟩,
 ⟨some 48, .load none (.t 47), none⟩,
 ⟨some 49, .mov (.t 1), none⟩,
 ⟨some 50, .mov (.t 7), none⟩,
 ⟨some 51, .ixa 2 (.t 49) (.t 50), none⟩,
 ⟨some 52, .fad 1 (.t 51), none⟩,
 ⟨some 53, .load none (.t 52), none⟩,
 ⟨some 54, .bin .sub (.t 48) (.t 53), none⟩,
 ⟨some 55, .build [.v (.int .i64 0), .v (.int .i64 0)] [(0, 1, (.t 43)), (1, 1, (.t 54))], none⟩,
 ⟨some 56, .lit 2 1 [.v (.int .i64 0), .v (.int .i64 0)] [(0, (.t 55))] true, none⟩,
 ⟨some 57, .app 2 16 (.t 32) (.t 56) false, none⟩,
 ⟨some 5, .mov (.t 57), none⟩] []) <|
 .keep [0, 1, 5, 6, 7] [[57]]) <|
 .keep [0, 1, 5, 6, 7] [[57]]) <|
 .seq (.reg [⟨some 30, .mov (.t 7), none⟩,
 ⟨some 31, .bin .add (.t 30) (.c (.v (.int .i64 1))), none⟩,
 ⟨some 7, .mov (.t 31), none⟩] []) <|
 .keep [0, 1, 5, 6, 7] [[57]]) <|
 .keep [0, 1, 5, 6, 7] [[57]]
def gantryref12_Sum_l1 : C :=
 .seq (.seq (.seq (.seq (.reg [⟨some 20, .mov (.t 6), none⟩,
 ⟨some 21, .mov (.t 0), none⟩,
 ⟨some 22, .len (.t 21), none⟩,
 ⟨some 23, .bin .lss (.t 20) (.t 22), none⟩] []) <|
 .keep [0, 1, 5, 6, 23] [[57]]) <|
 .cond (.t 23) (.skip) <|
 .seq (.keep [5] [[57]]) <|
 .exit 0) <|
 .seq (.seq (.blk 1 <|
 .seq (.seq (.reg [⟨some 7, .mov (.c (.v (.int .i64 0))), none⟩] []) <|
 .keep [0, 1, 5, 6, 7] [[57]]) <|
 .seq (.blk 2 <|
 .seq (.keep [0, 1, 5, 6, 7] [[57]]) <|
 .loop gantryref12_Sum_l0) <|
 .keep [0, 1, 5, 6] [[57]]) <|
 .keep [0, 1, 5, 6] [[57]]) <|
 .seq (.reg [⟨some 24, .mov (.t 6), none⟩,
 ⟨some 25, .bin .add (.t 24) (.c (.v (.int .i64 1))), none⟩,
 ⟨some 6, .mov (.t 25), none⟩] []) <|
 .keep [0, 1, 5, 6] [[57]]) <|
 .keep [0, 1, 5, 6] [[57]]
def gantryref12_Sum_l2 : C :=
 .seq (.seq (.seq (.seq (.reg [⟨some 61, .mov (.t 9), none⟩,
 ⟨some 62, .mov (.t 5), none⟩,
 ⟨some 63, .len (.t 62), none⟩,
 ⟨some 64, .bin .lss (.t 61) (.t 63), none⟩] []) <|
 .keep [5, 8, 9, 64] [[8], [57]]) <|
 .cond (.t 64) (.skip) <|
 .seq (.keep [5, 8] [[8], [57]]) <|
 .exit 4) <|
 .seq (.seq (.blk 5 <|
 .seq (.seq (.reg [⟨some 67, .mov (.t 5), none⟩,
 ⟨some 68, .mov (.t 9), none⟩,
 ⟨some 69, .ixa 2 (.t 67) (.t 68), none⟩,
 ⟨some 70, .fad 1 (.t 69), none⟩,
 ⟨some 71, .load none (.t 70), none⟩,
 ⟨some 72, .fad 1 (.t 8), none⟩,
 ⟨some 73, .load none (.t 72), none⟩,
 ⟨some 74, .bin .lss (.t 71) (.t 73), none⟩,
 ⟨some 75, .mov (.t 74), none⟩,
 ⟨some 76, .mov (.t 5), (some (75, false))⟩,
 ⟨some 77, .mov (.t 9), (some (75, false))⟩,
 ⟨some 78, .ixa 2 (.t 76) (.t 77), (some (75, false))⟩,
 ⟨some 79, .fad 1 (.t 78), (some (75, false))⟩,
 ⟨some 80, .load none (.t 79), (some (75, false))⟩,
 ⟨some 81, .fad 1 (.t 8), (some (75, false))⟩,
 ⟨some 82, .load none (.t 81), (some (75, false))⟩,
 ⟨some 83, .bin .eql (.t 80) (.t 82), (some (75, false))⟩,
 ⟨some 84, .mov (.t 83), (some (75, false))⟩,
 ⟨some 85, .mov (.t 5), (some (84, true))⟩,
 ⟨some 86, .mov (.t 9), (some (84, true))⟩,
 ⟨some 87, .ixa 2 (.t 85) (.t 86), (some (84, true))⟩,
 ⟨some 88, .fad 0 (.t 87), (some (84, true))⟩,
 ⟨some 89, .load none (.t 88), (some (84, true))⟩,
 ⟨some 90, .fad 0 (.t 8), (some (84, true))⟩,
 ⟨some 91, .load none (.t 90), (some (84, true))⟩,
 ⟨some 92, .bin .lss (.t 89) (.t 91), (some (84, true))⟩,
 ⟨some 93, .pick (.t 84) (.t 92) (.c (.v (.bool false))), (some (75, false))⟩,
 ⟨some 94, .pick (.t 75) (.c (.v (.bool true))) (.t 93), none⟩] []) <|
 .keep [5, 8, 9, 94] [[8], [57]]) <|
 .cond (.t 94) (.seq (.reg [⟨some 95, .mov (.t 5), none⟩,
 ⟨some 96, .mov (.t 9), none⟩,
 ⟨some 97, .ixa 2 (.t 95) (.t 96), none⟩,
 ⟨some 98, .load (some 2) (.t 97), none⟩,
 ⟨none, .store 2 (.t 8) (.t 98), none⟩] []) <|
 .keep [5, 8, 9] [[8], [57]]) <|
 .skip) <|
 .keep [5, 8, 9] [[8], [57]]) <|
 .seq (.reg [⟨some 65, .mov (.t 9), none⟩,
 ⟨some 66, .bin .add (.t 65) (.c (.v (.int .i64 1))), none⟩,
 ⟨some 9, .mov (.t 66), none⟩] []) <|
 .keep [5, 8, 9] [[8], [57]]) <|
 .keep [5, 8, 9] [[8], [57]]
def gantryref12_Sum_l3 : C :=
 .seq (.seq (.seq (.seq (.reg [⟨some 124, .mov (.t 14), none⟩,
 ⟨some 125, .mov (.t 5), none⟩,
 ⟨some 126, .len (.t 125), none⟩,
 ⟨some 127, .bin .lss (.t 124) (.t 126), none⟩,
 ⟨some 128, .mov (.t 127), none⟩,
 ⟨some 129, .mov (.t 13), (some (128, true))⟩,
 ⟨some 130, .pick (.t 128) (.t 129) (.c (.v (.bool false))), none⟩] []) <|
 .keep [5, 8, 10, 11, 12, 13, 14, 130] [[8], [11], [57], [100], [210]]) <|
 .cond (.t 130) (.skip) <|
 .seq (.keep [5, 8, 10, 11, 12, 13] [[8], [11], [57], [100], [210]]) <|
 .exit 10) <|
 .seq (.seq (.blk 11 <|
 .seq (.seq (.reg [⟨some 133, .load (some 2) (.t 11), none⟩,
 ⟨some 134, .mov (.t 5), none⟩,
 ⟨some 135, .mov (.t 12), none⟩,
 ⟨some 136, .ixa 2 (.t 134) (.t 135), none⟩,
 ⟨some 137, .load (some 2) (.t 136), none⟩,
 ⟨some 138, .mov (.t 5), none⟩,
 ⟨some 139, .mov (.t 14), none⟩,
 ⟨some 140, .ixa 2 (.t 138) (.t 139), none⟩,
 ⟨some 141, .load (some 2) (.t 140), none⟩,
 ⟨some 142, .call n_gantryref12_Left [(.t 133), (.t 137), (.t 141)] false, none⟩,
 ⟨some 15, .mov (.t 142), none⟩] []) <|
 .keep [5, 8, 10, 11, 12, 14, 15] [[8], [11], [57], [100], [210]]) <|
 .seq (.seq (.reg [⟨some 143, .mov (.t 5), none⟩,
 ⟨some 144, .mov (.t 14), none⟩,
 ⟨some 145, .ixa 2 (.t 143) (.t 144), none⟩,
 ⟨some 146, .fad 0 (.t 145), none⟩,
 ⟨some 147, .load none (.t 146), none⟩,
 ⟨some 148, .fad 0 (.t 11), none⟩,
 ⟨some 149, .load none (.t 148), none⟩,
 ⟨some 150, .bin .sub (.t 147) (.t 149), none⟩,
 ⟨some 16, .mov (.t 150), none⟩] []) <|
 .keep [5, 8, 10, 11, 12, 14, 15, 16] [[8], [11], [57], [100], [210]]) <|
 .seq (.seq (.reg [⟨some 151, .mov (.t 5), none⟩,
 ⟨some 152, .mov (.t 14), none⟩,
 ⟨some 153, .ixa 2 (.t 151) (.t 152), none⟩,
 ⟨some 154, .fad 1 (.t 153), none⟩,
 ⟨some 155, .load none (.t 154), none⟩,
 ⟨some 156, .fad 1 (.t 11), none⟩,
 ⟨some 157, .load none (.t 156), none⟩,
 ⟨some 158, .bin .sub (.t 155) (.t 157), none⟩,
 ⟨some 17, .mov (.t 158), none⟩] []) <|
 .keep [5, 8, 10, 11, 12, 14, 15, 16, 17] [[8], [11], [57], [100], [210]]) <|
 .seq (.seq (.reg [⟨some 159, .mov (.t 5), none⟩,
 ⟨some 160, .mov (.t 12), none⟩,
 ⟨some 161, .ixa 2 (.t 159) (.t 160), none⟩,
 ⟨some 162, .fad 0 (.t 161), none⟩,
 ⟨some 163, .load none (.t 162), none⟩,
 ⟨some 164, .fad 0 (.t 11), none⟩,
 ⟨some 165, .load none (.t 164), none⟩,
 ⟨some 166, .bin .sub (.t 163) (.t 165), none⟩,
 ⟨some 18, .mov (.t 166), none⟩] []) <|
 .keep [5, 8, 10, 11, 12, 14, 15, 16, 17, 18] [[8], [11], [57], [100], [210]]) <|
 .seq (.seq (.reg [⟨some 167, .mov (.t 5), none⟩,
 ⟨some 168, .mov (.t 12), none⟩,
 ⟨some 169, .ixa 2 (.t 167) (.t 168), none⟩,
 ⟨some 170, .fad 1 (.t 169), none⟩,
 ⟨some 171, .load none (.t 170), none⟩,
 ⟨some 172, .fad 1 (.t 11), none⟩,
 ⟨some 173, .load none (.t 172), none⟩,
 ⟨some 174, .bin .sub (.t 171) (.t 173), none⟩,
 ⟨some 19, .mov (.t 174), none⟩] []) <|
 .keep [5, 8, 10, 11, 12, 14, 15, 16, 17, 18, 19] [[8], [11], [57], [100], [210]]) <|
 .seq (.reg [⟨some 175, .mov (.t 15), none⟩,
 ⟨some 176, .bin .gtr (.t 175) (.c (.v (.int .i64 0))), none⟩,
 ⟨some 177, .mov (.t 176), none⟩,
 ⟨some 178, .mov (.t 15), (some (177, false))⟩,
 ⟨some 179, .bin .eql (.t 178) (.c (.v (.int .i64 0))), (some (177, false))⟩,
 ⟨some 180, .mov (.t 179), (some (177, false))⟩,
 ⟨some 181, .mov (.t 16), (some (180, true))⟩,
 ⟨some 182, .mov (.t 16), (some (180, true))⟩,
 ⟨some 183, .bin .mul (.t 181) (.t 182), (some (180, true))⟩,
 ⟨some 184, .mov (.t 17), (some (180, true))⟩,
 ⟨some 185, .mov (.t 17), (some (180, true))⟩,
 ⟨some 186, .bin .mul (.t 184) (.t 185), (some (180, true))⟩,
 ⟨some 187, .bin .add (.t 183) (.t 186), (some (180, true))⟩,
 ⟨some 188, .mov (.t 18), (some (180, true))⟩,
 ⟨some 189, .mov (.t 18), (some (180, true))⟩,
 ⟨some 190, .bin .mul (.t 188) (.t 189), (some (180, true))⟩,
 ⟨some 191, .mov (.t 19), (some (180, true))⟩,
 ⟨some 192, .mov (.t 19), (some (180, true))⟩,
 ⟨some 193, .bin .mul (.t 191) (.t 192), (some (180, true))⟩,
 ⟨some 194, .bin .add (.t 190) (.t 193), (some (180, true))⟩,
 ⟨some 195, .bin .leq (.t 187) (.t 194), (some (180, true))⟩,
 ⟨some 196, .pick (.t 180) (.t 195) (.c (.v (.bool false))), (some (177, false))⟩,
 ⟨some 197, .pick (.t 177) (.c (.v (.bool true))) (.t 196), none⟩,
 ⟨some 13, .mov (.t 197), none⟩] []) <|
 .keep [5, 8, 10, 11, 12, 13, 14] [[8], [11], [57], [100], [210]]) <|
 .keep [5, 8, 10, 11, 12, 13, 14] [[8], [11], [57], [100], [210]]) <|
 .seq (.reg [⟨some 131, .mov (.t 14), none⟩,
 ⟨some 132, .bin .add (.t 131) (.c (.v (.int .i64 1))), none⟩,
 ⟨some 14, .mov (.t 132), none⟩] []) <|
 .keep [5, 8, 10, 11, 12, 13, 14] [[8], [11], [57], [100], [210]]) <|
 .keep [5, 8, 10, 11, 12, 13, 14] [[8], [11], [57], [100], [210]]
def gantryref12_Sum_l4 : C :=
 .seq (.seq (.seq (.seq (.reg [⟨some 112, .mov (.t 12), none⟩,
 ⟨some 113, .mov (.t 5), none⟩,
 ⟨some 114, .len (.t 113), none⟩,
 ⟨some 115, .bin .lss (.t 112) (.t 114), none⟩] []) <|
 .keep [5, 8, 10, 11, 12, 115] [[8], [11], [57], [100], [210]]) <|
 .cond (.t 115) (.skip) <|
 .seq (.keep [5, 8, 10, 11] [[8], [11], [57], [100], [210]]) <|
 .exit 8) <|
 .seq (.seq (.blk 9 <|
 .seq (.seq (.reg [⟨some 118, .mov (.t 5), none⟩,
 ⟨some 119, .mov (.t 12), none⟩,
 ⟨some 120, .ixa 2 (.t 118) (.t 119), none⟩,
 ⟨some 121, .load (some 2) (.t 120), none⟩,
 ⟨some 122, .load (some 2) (.t 11), none⟩,
 ⟨some 123, .eqs 2 true (.t 121) (.t 122), none⟩,
 ⟨some 13, .mov (.t 123), none⟩] []) <|
 .keep [5, 8, 10, 11, 12, 13] [[8], [11], [57], [100], [210]]) <|
 .seq (.seq (.seq (.reg [⟨some 14, .mov (.c (.v (.int .i64 0))), none⟩] []) <|
 .keep [5, 8, 10, 11, 12, 13, 14] [[8], [11], [57], [100], [210]]) <|
 .seq (.blk 10 <|
 .seq (.keep [5, 8, 10, 11, 12, 13, 14] [[8], [11], [57], [100], [210]]) <|
 .loop gantryref12_Sum_l3) <|
 .keep [5, 8, 10, 11, 12, 13] [[8], [11], [57], [100], [210]]) <|
 .seq (.seq (.reg [⟨some 198, .mov (.t 13), none⟩] []) <|
 .keep [5, 8, 10, 11, 12, 198] [[8], [11], [57], [100], [210]]) <|
 .cond (.t 198) (.seq (.seq (.reg [⟨some 199, .mov (.t 5), none⟩,
 ⟨some 200, .mov (.t 12), none⟩,
 ⟨some 201, .ixa 2 (.t 199) (.t 200), none⟩,
 ⟨some 202, .load (some 2) (.t 201), none⟩,
 ⟨none, .store 2 (.t 11) (.t 202), none⟩] []) <|
 .keep [5, 8, 10, 11] [[8], [11], [57], [100], [210]]) <|
 .seq (.keep [5, 8, 10, 11] [[8], [11], [57], [100], [210]]) <|
 .exit 8) <|
 .skip) <|
 .keep [5, 8, 10, 11, 12] [[8], [11], [57], [100], [210]]) <|
 .seq (.reg [⟨some 116, .mov (.t 12), none⟩,
 ⟨some 117, .bin .add (.t 116) (.c (.v (.int .i64 1))), none⟩,
 ⟨some 12, .mov (.t 117), none⟩] []) <|
 .keep [5, 8, 10, 11, 12] [[8], [11], [57], [100], [210]]) <|
 .keep [5, 8, 10, 11, 12] [[8], [11], [57], [100], [210]]
def gantryref12_Sum_l5 : C :=
 .seq (.seq (.seq (.seq (.reg [⟨some 101, .mov (.t 10), none⟩,
 ⟨some 102, .len (.t 101), none⟩,
 ⟨some 103, .mov (.t 5), none⟩,
 ⟨some 104, .len (.t 103), none⟩,
 ⟨some 105, .bin .leq (.t 102) (.t 104), none⟩] []) <|
 .keep [5, 8, 10, 105] [[8], [57], [100], [210]]) <|
 .cond (.t 105) (.skip) <|
 .seq (.keep [10] [[100], [210]]) <|
 .exit 6) <|
 .seq (.blk 7 <|
 .seq (.seq (.reg [⟨some 106, .mov (.t 10), none⟩,
 ⟨some 107, .mov (.t 10), none⟩,
 ⟨some 108, .len (.t 107), none⟩,
 ⟨some 109, .bin .sub (.t 108) (.c (.v (.int .i64 1))), none⟩,
 ⟨some 110, .ixa 2 (.t 106) (.t 109), none⟩,
 ⟨some 111, .load (some 2) (.t 110), none⟩,
 ⟨some 11, .new [.v (.int .i64 0), .v (.int .i64 0)], none⟩,
 ⟨none, .store 2 (.t 11) (.t 111), none⟩] []) <|
 .keep [5, 8, 10, 11] [[8], [11], [57], [100], [210]]) <|
 .seq (.seq (.seq (.reg [⟨some 12, .mov (.c (.v (.int .i64 0))), none⟩] []) <|
 .keep [5, 8, 10, 11, 12] [[8], [11], [57], [100], [210]]) <|
 .seq (.blk 8 <|
 .seq (.keep [5, 8, 10, 11, 12] [[8], [11], [57], [100], [210]]) <|
 .loop gantryref12_Sum_l4) <|
 .keep [5, 8, 10, 11] [[8], [11], [57], [100], [210]]) <|
 .seq (.seq (.seq (.reg [⟨some 203, .load (some 2) (.t 11), none⟩,
 ⟨some 204, .load (some 2) (.t 8), none⟩,
 ⟨some 205, .eqs 2 false (.t 203) (.t 204), none⟩] []) <|
 .keep [5, 8, 10, 11, 205] [[8], [11], [57], [100], [210]]) <|
 .cond (.t 205) (.seq (.seq (.reg [⟨some 206, .mov (.t 10), none⟩,
 ⟨some 4, .mov (.t 206), none⟩] []) <|
 .keep [4] [[100], [210]]) <|
 .ret) <|
 .skip) <|
 .seq (.reg [⟨some 207, .mov (.t 10), none⟩,
 ⟨some 208, .load (some 2) (.t 11), none⟩,
 ⟨some 209, .lit 2 1 [.v (.int .i64 0), .v (.int .i64 0)] [(0, (.t 208))] true, none⟩,
 ⟨some 210, .app 2 16 (.t 207) (.t 209) false, none⟩,
 ⟨some 10, .mov (.t 210), none⟩] []) <|
 .keep [5, 8, 10] [[8], [57], [100], [210]]) <|
 .keep [5, 8, 10] [[8], [57], [100], [210]]) <|
 .keep [5, 8, 10] [[8], [57], [100], [210]]
def gantryref12_Sum : CF := ⟨2, .seq (.seq (.reg [⟨some 4, .mov (.c (.z true)), none⟩] []) <|
 .keep [0, 1] []) <|
 .seq (.seq (.reg [⟨some 5, .mov (.c (.z true)), none⟩] []) <|
 .keep [0, 1, 5] [[57]]) <|
 .seq (.seq (.seq (.reg [⟨some 6, .mov (.c (.v (.int .i64 0))), none⟩] []) <|
 .keep [0, 1, 5, 6] [[57]]) <|
 .seq (.blk 0 <|
 .seq (.keep [0, 1, 5, 6] [[57]]) <|
 .loop gantryref12_Sum_l1) <|
 .keep [5] [[57]]) <|
 .seq (.seq (.reg [⟨some 58, .mov (.t 5), none⟩,
 ⟨some 59, .ixa 2 (.t 58) (.c (.v (.int .i64 0))), none⟩,
 ⟨some 60, .load (some 2) (.t 59), none⟩,
 ⟨some 8, .new [.v (.int .i64 0), .v (.int .i64 0)], none⟩,
 ⟨none, .store 2 (.t 8) (.t 60), none⟩] []) <|
 .keep [5, 8] [[8], [57]]) <|
 .seq (.seq (.seq (.reg [⟨some 9, .mov (.c (.v (.int .i64 0))), none⟩] []) <|
 .keep [5, 8, 9] [[8], [57]]) <|
 .seq (.blk 4 <|
 .seq (.keep [5, 8, 9] [[8], [57]]) <|
 .loop gantryref12_Sum_l2) <|
 .keep [5, 8] [[8], [57]]) <|
 .seq (.seq (.reg [⟨some 99, .load (some 2) (.t 8), none⟩,
 ⟨some 100, .lit 2 1 [.v (.int .i64 0), .v (.int .i64 0)] [(0, (.t 99))] false, none⟩,
 ⟨some 10, .mov (.t 100), none⟩] []) <|
 .keep [5, 8, 10] [[8], [57], [100], [210]]) <|
 .seq (.seq (.blk 6 <|
 .seq (.keep [5, 8, 10] [[8], [57], [100], [210]]) <|
 .loop gantryref12_Sum_l5) <|
 .keep [10] [[100], [210]]) <|
 .seq (.seq (.reg [⟨some 211, .mov (.t 10), none⟩,
 ⟨some 4, .mov (.t 211), none⟩] []) <|
 .keep [4] [[100], [210]]) <|
 .ret, [.t 4]⟩

def gantryref12_Vec : CF := ⟨2, .seq (.seq (.reg [⟨some 4, .new [.v (.bool false), .z true, .v (.bool false), .z true, .v (.bool false), .z true, .v (.bool false), .z true], none⟩] []) <|
 .keep [0, 1, 4] [[4]]) <|
 .seq (.seq (.reg [⟨some 7, .mov (.t 0), none⟩,
 ⟨some 8, .call n_gantryref01_Around [(.t 7), (.c (.v (.int .i64 96)))] false, none⟩,
 ⟨some 5, .mov (.t 8), none⟩] []) <|
 .keep [1, 4, 5] [[4]]) <|
 .seq (.seq (.reg [⟨some 9, .mov (.t 1), none⟩,
 ⟨some 10, .call n_gantryref01_Around [(.t 9), (.c (.v (.int .i64 96)))] false, none⟩,
 ⟨some 6, .mov (.t 10), none⟩] []) <|
 .keep [4, 5, 6] [[4]]) <|
 .seq (.seq (.reg [⟨some 11, .mov (.t 5), none⟩,
 ⟨some 12, .bin .rem (.t 11) (.c (.v (.int .i64 24))), none⟩,
 ⟨some 13, .bin .mul (.t 12) (.c (.v (.int .i64 2))), none⟩,
 ⟨some 14, .bin .sub (.t 13) (.c (.v (.int .i64 24))), none⟩,
 ⟨some 15, .mov (.t 5), none⟩,
 ⟨some 16, .bin .quo (.t 15) (.c (.v (.int .i64 72))), none⟩,
 ⟨some 17, .bin .add (.t 14) (.t 16), none⟩,
 ⟨some 18, .mov (.t 5), none⟩,
 ⟨some 19, .bin .quo (.t 18) (.c (.v (.int .i64 48))), none⟩,
 ⟨some 20, .bin .rem (.t 19) (.c (.v (.int .i64 2))), none⟩,
 ⟨some 21, .bin .add (.c (.v (.int .i64 2))) (.t 20), none⟩,
 ⟨some 22, .call n_gantryref05_Of [(.t 17), (.t 21)] false, none⟩,
 ⟨some 23, .mov (.t 6), none⟩,
 ⟨some 24, .bin .rem (.t 23) (.c (.v (.int .i64 24))), none⟩,
 ⟨some 25, .bin .mul (.t 24) (.c (.v (.int .i64 2))), none⟩,
 ⟨some 26, .bin .sub (.t 25) (.c (.v (.int .i64 24))), none⟩,
 ⟨some 27, .mov (.t 6), none⟩,
 ⟨some 28, .bin .quo (.t 27) (.c (.v (.int .i64 72))), none⟩,
 ⟨some 29, .bin .add (.t 26) (.t 28), none⟩,
 ⟨some 30, .mov (.t 6), none⟩,
 ⟨some 31, .bin .quo (.t 30) (.c (.v (.int .i64 48))), none⟩,
 ⟨some 32, .bin .rem (.t 31) (.c (.v (.int .i64 2))), none⟩,
 ⟨some 33, .bin .add (.c (.v (.int .i64 2))) (.t 32), none⟩,
 ⟨some 34, .call n_gantryref05_Of [(.t 29), (.t 33)] false, none⟩,
 ⟨some 35, .build [.v (.bool false), .z true, .v (.bool false), .z true, .v (.bool false), .z true, .v (.bool false), .z true] [(0, 4, (.t 22)), (4, 4, (.t 34))], none⟩,
 ⟨none, .store 8 (.t 4) (.t 35), none⟩] []) <|
 .keep [4] [[4]]) <|
 .ret, [.cell 4 (some 8)]⟩

def convex_Has_l0 : C :=
 .seq (.seq (.seq (.reg [⟨some 13, .bin .lss (.t 12) (.t 11), none⟩] []) <|
 .keep [0, 3, 11, 12, 13] [[3]]) <|
 .seq (.cond (.t 13) (.skip) <|
 .seq (.keep [] []) <|
 .exit 0) <|
 .seq (.seq (.blk 1 <|
 .seq (.seq (.reg [⟨some 14, .mov (.t 12), none⟩,
 ⟨some 5, .mov (.t 14), none⟩] []) <|
 .keep [0, 3, 5, 11, 12] [[3]]) <|
 .seq (.seq (.reg [⟨some 15, .mov (.t 0), none⟩,
 ⟨some 16, .mov (.t 5), none⟩,
 ⟨some 17, .ixa 2 (.t 15) (.t 16), none⟩,
 ⟨some 18, .load (some 2) (.t 17), none⟩,
 ⟨some 19, .mov (.t 0), none⟩,
 ⟨some 20, .mov (.t 5), none⟩,
 ⟨some 21, .call n_convex_next [(.t 19), (.t 20)] false, none⟩,
 ⟨some 6, .new [.v (.int .i64 0), .v (.int .i64 0)], none⟩,
 ⟨some 7, .new [.v (.int .i64 0), .v (.int .i64 0)], none⟩,
 ⟨none, .store 2 (.t 6) (.t 18), none⟩,
 ⟨none, .store 2 (.t 7) (.t 21), none⟩] []) <|
 .keep [0, 3, 6, 7, 11, 12] [[3], [6], [7]]) <|
 .seq (.seq (.reg [⟨some 22, .fad 0 (.t 3), none⟩,
 ⟨some 23, .load (some 4) (.t 22), none⟩,
 ⟨some 24, .fad 0 (.t 6), none⟩,
 ⟨some 25, .load none (.t 24), none⟩,
 ⟨some 26, .call n_rat_Of [(.t 25), (.c (.v (.int .i64 1)))] false, none⟩,
 ⟨some 27, .call n_rat_Sub [(.t 23), (.t 26)] false, none⟩,
 ⟨some 28, .fad 4 (.t 3), none⟩,
 ⟨some 29, .load (some 4) (.t 28), none⟩,
 ⟨some 30, .fad 1 (.t 6), none⟩,
 ⟨some 31, .load none (.t 30), none⟩,
 ⟨some 32, .call n_rat_Of [(.t 31), (.c (.v (.int .i64 1)))] false, none⟩,
 ⟨some 33, .call n_rat_Sub [(.t 29), (.t 32)] false, none⟩,
 ⟨some 8, .new [.v (.bool false), .z true, .v (.bool false), .z true], none⟩,
 ⟨some 9, .new [.v (.bool false), .z true, .v (.bool false), .z true], none⟩,
 ⟨none, .store 4 (.t 8) (.t 27), none⟩,
 ⟨none, .store 4 (.t 9) (.t 33), none⟩] []) <|
 .keep [0, 3, 6, 7, 8, 9, 11, 12] [[3], [6], [7], [8], [9]]) <|
 .seq (.seq (.reg [⟨some 34, .fad 0 (.t 7), none⟩,
 ⟨some 35, .load none (.t 34), none⟩,
 ⟨some 36, .fad 0 (.t 6), none⟩,
 ⟨some 37, .load none (.t 36), none⟩,
 ⟨some 38, .bin .sub (.t 35) (.t 37), none⟩,
 ⟨some 39, .call n_rat_Of [(.t 38), (.c (.v (.int .i64 1)))] false, none⟩,
 ⟨some 40, .load (some 4) (.t 9), none⟩,
 ⟨some 41, .call n_rat_Mul [(.t 39), (.t 40)] false, none⟩,
 ⟨some 42, .fad 1 (.t 7), none⟩,
 ⟨some 43, .load none (.t 42), none⟩,
 ⟨some 44, .fad 1 (.t 6), none⟩,
 ⟨some 45, .load none (.t 44), none⟩,
 ⟨some 46, .bin .sub (.t 43) (.t 45), none⟩,
 ⟨some 47, .call n_rat_Of [(.t 46), (.c (.v (.int .i64 1)))] false, none⟩,
 ⟨some 48, .load (some 4) (.t 8), none⟩,
 ⟨some 49, .call n_rat_Mul [(.t 47), (.t 48)] false, none⟩,
 ⟨some 50, .call n_rat_Compare [(.t 41), (.t 49)] false, none⟩,
 ⟨some 51, .bin .lss (.t 50) (.c (.v (.int .i64 0))), none⟩] []) <|
 .keep [0, 3, 11, 12, 51] [[3]]) <|
 .cond (.t 51) (.seq (.seq (.reg [⟨some 4, .mov (.c (.v (.bool false))), none⟩] []) <|
 .keep [4] []) <|
 .ret) <|
 .skip) <|
 .keep [0, 3, 11, 12] [[3]]) <|
 .seq (.reg [⟨some 52, .bin .add (.t 12) (.c (.v (.int .i64 1))), none⟩,
 ⟨some 12, .mov (.t 52), none⟩] []) <|
 .keep [0, 3, 11, 12] [[3]]) <|
 .keep [0, 3, 11, 12] [[3]]
def convex_Has : CF := ⟨2, .seq (.seq (.reg [⟨some 3, .box (.t 1), none⟩,
 ⟨some 4, .mov (.c (.v (.bool false))), none⟩] []) <|
 .keep [0, 3] [[3]]) <|
 .seq (.seq (.seq (.reg [⟨some 10, .mov (.t 0), none⟩,
 ⟨some 11, .len (.t 10), none⟩,
 ⟨some 12, .mov (.c (.v (.int .i64 0))), none⟩] []) <|
 .keep [0, 3, 11, 12] [[3]]) <|
 .seq (.blk 0 <|
 .seq (.keep [0, 3, 11, 12] [[3]]) <|
 .loop convex_Has_l0) <|
 .keep [] []) <|
 .seq (.seq (.reg [⟨some 4, .mov (.c (.v (.bool true))), none⟩] []) <|
 .keep [4] []) <|
 .ret, [.t 4]⟩

def gantryref12_Has_l0 : C :=
 .seq (.seq (.seq (.seq (.reg [⟨some 10, .mov (.t 5), none⟩,
 ⟨some 11, .mov (.t 0), none⟩,
 ⟨some 12, .len (.t 11), none⟩,
 ⟨some 13, .bin .lss (.t 10) (.t 12), none⟩] []) <|
 .keep [0, 3, 5, 13] [[3]]) <|
 .cond (.t 13) (.skip) <|
 .seq (.keep [] []) <|
 .exit 0) <|
 .seq (.seq (.blk 1 <|
 .seq (.seq (.reg [⟨some 16, .mov (.t 0), none⟩,
 ⟨some 17, .mov (.t 5), none⟩,
 ⟨some 18, .call n_gantryref12_Next [(.t 16), (.t 17)] false, none⟩,
 ⟨some 6, .new [.v (.int .i64 0), .v (.int .i64 0)], none⟩,
 ⟨none, .store 2 (.t 6) (.t 18), none⟩] []) <|
 .keep [0, 3, 5, 6] [[3], [6]]) <|
 .seq (.seq (.reg [⟨some 19, .fad 0 (.t 3), none⟩,
 ⟨some 20, .load (some 4) (.t 19), none⟩,
 ⟨some 21, .mov (.t 0), none⟩,
 ⟨some 22, .mov (.t 5), none⟩,
 ⟨some 23, .ixa 2 (.t 21) (.t 22), none⟩,
 ⟨some 24, .fad 0 (.t 23), none⟩,
 ⟨some 25, .load none (.t 24), none⟩,
 ⟨some 26, .call n_gantryref05_Of [(.t 25), (.c (.v (.int .i64 1)))] false, none⟩,
 ⟨some 27, .call n_gantryref05_Sub [(.t 20), (.t 26)] false, none⟩,
 ⟨some 7, .new [.v (.bool false), .z true, .v (.bool false), .z true], none⟩,
 ⟨none, .store 4 (.t 7) (.t 27), none⟩] []) <|
 .keep [0, 3, 5, 6, 7] [[3], [6], [7]]) <|
 .seq (.seq (.reg [⟨some 28, .fad 4 (.t 3), none⟩,
 ⟨some 29, .load (some 4) (.t 28), none⟩,
 ⟨some 30, .mov (.t 0), none⟩,
 ⟨some 31, .mov (.t 5), none⟩,
 ⟨some 32, .ixa 2 (.t 30) (.t 31), none⟩,
 ⟨some 33, .fad 1 (.t 32), none⟩,
 ⟨some 34, .load none (.t 33), none⟩,
 ⟨some 35, .call n_gantryref05_Of [(.t 34), (.c (.v (.int .i64 1)))] false, none⟩,
 ⟨some 36, .call n_gantryref05_Sub [(.t 29), (.t 35)] false, none⟩,
 ⟨some 8, .new [.v (.bool false), .z true, .v (.bool false), .z true], none⟩,
 ⟨none, .store 4 (.t 8) (.t 36), none⟩] []) <|
 .keep [0, 3, 5, 6, 7, 8] [[3], [6], [7], [8]]) <|
 .seq (.seq (.reg [⟨some 37, .fad 0 (.t 6), none⟩,
 ⟨some 38, .load none (.t 37), none⟩,
 ⟨some 39, .mov (.t 0), none⟩,
 ⟨some 40, .mov (.t 5), none⟩,
 ⟨some 41, .ixa 2 (.t 39) (.t 40), none⟩,
 ⟨some 42, .fad 0 (.t 41), none⟩,
 ⟨some 43, .load none (.t 42), none⟩,
 ⟨some 44, .bin .sub (.t 38) (.t 43), none⟩,
 ⟨some 45, .call n_gantryref05_Of [(.t 44), (.c (.v (.int .i64 1)))] false, none⟩,
 ⟨some 46, .load (some 4) (.t 8), none⟩,
 ⟨some 47, .call n_gantryref05_Mul [(.t 45), (.t 46)] false, none⟩,
 ⟨some 48, .fad 1 (.t 6), none⟩,
 ⟨some 49, .load none (.t 48), none⟩,
 ⟨some 50, .mov (.t 0), none⟩,
 ⟨some 51, .mov (.t 5), none⟩,
 ⟨some 52, .ixa 2 (.t 50) (.t 51), none⟩,
 ⟨some 53, .fad 1 (.t 52), none⟩,
 ⟨some 54, .load none (.t 53), none⟩,
 ⟨some 55, .bin .sub (.t 49) (.t 54), none⟩,
 ⟨some 56, .call n_gantryref05_Of [(.t 55), (.c (.v (.int .i64 1)))] false, none⟩,
 ⟨some 57, .load (some 4) (.t 7), none⟩,
 ⟨some 58, .call n_gantryref05_Mul [(.t 56), (.t 57)] false, none⟩,
 ⟨some 59, .call n_gantryref05_Sub [(.t 47), (.t 58)] false, none⟩,
 ⟨some 9, .new [.v (.bool false), .z true, .v (.bool false), .z true], none⟩,
 ⟨none, .store 4 (.t 9) (.t 59), none⟩] []) <|
 .keep [0, 3, 5, 9] [[3], [9]]) <|
 .seq (.seq (.reg [⟨some 60, .load (some 4) (.t 9), none⟩,
 ⟨some 61, .call n_gantryref05_Sign [(.t 60)] false, none⟩,
 ⟨some 62, .bin .lss (.t 61) (.c (.v (.int .i64 0))), none⟩] []) <|
 .keep [0, 3, 5, 62] [[3]]) <|
 .cond (.t 62) (.seq (.seq (.reg [⟨some 4, .mov (.c (.v (.bool false))), none⟩] []) <|
 .keep [4] []) <|
 .ret) <|
 .skip) <|
 .keep [0, 3, 5] [[3]]) <|
 .seq (.reg [⟨some 14, .mov (.t 5), none⟩,
 ⟨some 15, .bin .add (.t 14) (.c (.v (.int .i64 1))), none⟩,
 ⟨some 5, .mov (.t 15), none⟩] []) <|
 .keep [0, 3, 5] [[3]]) <|
 .keep [0, 3, 5] [[3]]
def gantryref12_Has : CF := ⟨2, .seq (.seq (.reg [⟨some 3, .box (.t 1), none⟩,
 ⟨some 4, .mov (.c (.v (.bool false))), none⟩] []) <|
 .keep [0, 3] [[3]]) <|
 .seq (.seq (.seq (.reg [⟨some 5, .mov (.c (.v (.int .i64 0))), none⟩] []) <|
 .keep [0, 3, 5] [[3]]) <|
 .seq (.blk 0 <|
 .seq (.keep [0, 3, 5] [[3]]) <|
 .loop gantryref12_Has_l0) <|
 .keep [] []) <|
 .seq (.seq (.reg [⟨some 4, .mov (.c (.v (.bool true))), none⟩] []) <|
 .keep [4] []) <|
 .ret, [.t 4]⟩

def gantrylaw12_lives : CF := ⟨0, .seq (.seq (.reg [⟨some 0, .mov (.c (.v (.bool false))), none⟩] []) <|
 .keep [] []) <|
 .seq (.seq (.reg [⟨some 10, .build [.v (.int .i64 0), .v (.int .i64 0)] [], none⟩,
 ⟨some 11, .build [.v (.int .i64 0), .v (.int .i64 0)] [(0, 1, (.c (.v (.int .i64 2))))], none⟩,
 ⟨some 12, .build [.v (.int .i64 0), .v (.int .i64 0)] [(0, 1, (.c (.v (.int .i64 2)))), (1, 1, (.c (.v (.int .i64 2))))], none⟩,
 ⟨some 13, .build [.v (.int .i64 0), .v (.int .i64 0)] [(1, 1, (.c (.v (.int .i64 2))))], none⟩,
 ⟨some 14, .lit 2 4 [.v (.int .i64 0), .v (.int .i64 0)] [(0, (.t 10)), (1, (.t 11)), (2, (.t 12)), (3, (.t 13))] true, none⟩,
 ⟨some 1, .mov (.t 14), none⟩] []) <|
 .keep [1] []) <|
 .seq (.seq (.reg [⟨some 15, .build [.v (.int .i64 0), .v (.int .i64 0)] [], none⟩,
 ⟨some 16, .build [.v (.int .i64 0), .v (.int .i64 0)] [(0, 1, (.c (.v (.int .i64 4))))], none⟩,
 ⟨some 17, .build [.v (.int .i64 0), .v (.int .i64 0)] [(1, 1, (.c (.v (.int .i64 3))))], none⟩,
 ⟨some 18, .lit 2 3 [.v (.int .i64 0), .v (.int .i64 0)] [(0, (.t 15)), (1, (.t 16)), (2, (.t 17))] true, none⟩,
 ⟨some 2, .mov (.t 18), none⟩] []) <|
 .keep [1, 2] []) <|
 .seq (.seq (.reg [⟨some 20, .mov (.t 2), none⟩,
 ⟨some 21, .ixa 2 (.t 20) (.c (.v (.int .i64 1))), none⟩,
 ⟨some 22, .load (some 2) (.t 21), none⟩,
 ⟨some 23, .mov (.t 2), none⟩,
 ⟨some 24, .ixa 2 (.t 23) (.c (.v (.int .i64 2))), none⟩,
 ⟨some 25, .load (some 2) (.t 24), none⟩,
 ⟨some 26, .call n_convex_Norm [(.t 22), (.t 25)] false, none⟩,
 ⟨some 19, .mov (.t 26), none⟩,
 ⟨some 27, .ext (.t 19) 0, none⟩,
 ⟨some 28, .ext (.t 19) 1, none⟩,
 ⟨some 3, .new [.v (.int .i64 0), .v (.int .i64 0), .v (.int .i64 0)], none⟩,
 ⟨none, .store 3 (.t 3) (.t 27), none⟩,
 ⟨some 4, .mov (.t 28), none⟩] []) <|
 .keep [1, 2, 3, 4] [[3]]) <|
 .seq (.seq (.reg [⟨some 29, .build [.v (.int .i64 0), .v (.int .i64 0), .v (.int .i64 0)] [(1, 1, (.c (.v (.int .i64 (-1))))), (2, 1, (.c (.v (.int .i64 1))))], none⟩,
 ⟨some 30, .build [.v (.int .i64 0), .v (.int .i64 0), .v (.int .i64 0), .v (.int .i64 0)] [(0, 3, (.t 29)), (3, 1, (.c (.v (.int .i64 3))))], none⟩,
 ⟨some 31, .build [.v (.int .i64 0), .v (.int .i64 0), .v (.int .i64 0)] [(0, 1, (.c (.v (.int .i64 1)))), (2, 1, (.c (.v (.int .i64 1))))], none⟩,
 ⟨some 32, .build [.v (.int .i64 0), .v (.int .i64 0), .v (.int .i64 0), .v (.int .i64 0)] [(0, 3, (.t 31)), (3, 1, (.c (.v (.int .i64 2))))], none⟩,
 ⟨some 33, .build [.v (.int .i64 0), .v (.int .i64 0), .v (.int .i64 0)] [(1, 1, (.c (.v (.int .i64 1)))), (2, 1, (.c (.v (.int .i64 1))))], none⟩,
 ⟨some 34, .build [.v (.int .i64 0), .v (.int .i64 0), .v (.int .i64 0), .v (.int .i64 0)] [(0, 3, (.t 33)), (3, 1, (.c (.v (.int .i64 2))))], none⟩,
 ⟨some 35, .build [.v (.int .i64 0), .v (.int .i64 0), .v (.int .i64 0)] [(0, 1, (.c (.v (.int .i64 (-1))))), (2, 1, (.c (.v (.int .i64 1))))], none⟩,
 ⟨some 36, .build [.v (.int .i64 0), .v (.int .i64 0), .v (.int .i64 0), .v (.int .i64 0)] [(0, 3, (.t 35)), (3, 1, (.c (.v (.int .i64 4))))], none⟩,
 ⟨some 37, .build [.v (.int .i64 0), .v (.int .i64 0), .v (.int .i64 0)] [(0, 1, (.c (.v (.int .i64 (-3))))), (1, 1, (.c (.v (.int .i64 (-4))))), (2, 1, (.c (.v (.int .i64 5))))], none⟩,
 ⟨some 38, .build [.v (.int .i64 0), .v (.int .i64 0), .v (.int .i64 0), .v (.int .i64 0)] [(0, 3, (.t 37)), (3, 1, (.c (.v (.int .i64 12))))], none⟩,
 ⟨some 39, .lit 4 5 [.v (.int .i64 0), .v (.int .i64 0), .v (.int .i64 0), .v (.int .i64 0)] [(0, (.t 30)), (1, (.t 32)), (2, (.t 34)), (3, (.t 36)), (4, (.t 38))] true, none⟩,
 ⟨some 5, .mov (.t 39), none⟩] []) <|
 .keep [1, 2, 3, 4, 5] [[3]]) <|
 .seq (.seq (.reg [⟨some 40, .build [.v (.int .i64 0), .v (.int .i64 0)] [(1, 1, (.c (.v (.int .i64 (-3)))))], none⟩,
 ⟨some 41, .build [.v (.int .i64 0), .v (.int .i64 0)] [(0, 1, (.c (.v (.int .i64 2)))), (1, 1, (.c (.v (.int .i64 (-3)))))], none⟩,
 ⟨some 42, .build [.v (.int .i64 0), .v (.int .i64 0)] [(0, 1, (.c (.v (.int .i64 2)))), (1, 1, (.c (.v (.int .i64 2))))], none⟩,
 ⟨some 43, .build [.v (.int .i64 0), .v (.int .i64 0)] [(0, 1, (.c (.v (.int .i64 (-4))))), (1, 1, (.c (.v (.int .i64 2))))], none⟩,
 ⟨some 44, .build [.v (.int .i64 0), .v (.int .i64 0)] [(0, 1, (.c (.v (.int .i64 (-4)))))], none⟩,
 ⟨some 45, .lit 2 5 [.v (.int .i64 0), .v (.int .i64 0)] [(0, (.t 40)), (1, (.t 41)), (2, (.t 42)), (3, (.t 43)), (4, (.t 44))] true, none⟩,
 ⟨some 6, .mov (.t 45), none⟩] []) <|
 .keep [1, 2, 3, 4, 5, 6] [[3]]) <|
 .seq (.seq (.reg [⟨some 46, .call n_gantryref05_Of [(.c (.v (.int .i64 2))), (.c (.v (.int .i64 1)))] false, none⟩,
 ⟨some 47, .call n_gantryref05_Of [(.c (.v (.int .i64 3))), (.c (.v (.int .i64 2)))] false, none⟩,
 ⟨some 48, .build [.v (.bool false), .z true, .v (.bool false), .z true, .v (.bool false), .z true, .v (.bool false), .z true] [(0, 4, (.t 46)), (4, 4, (.t 47))], none⟩,
 ⟨some 7, .new [.v (.bool false), .z true, .v (.bool false), .z true, .v (.bool false), .z true, .v (.bool false), .z true], none⟩,
 ⟨none, .store 8 (.t 7) (.t 48), none⟩] []) <|
 .keep [1, 2, 3, 4, 5, 6, 7] [[3], [7]]) <|
 .seq (.seq (.reg [⟨some 49, .call n_gantryref05_Of [(.c (.v (.int .i64 2))), (.c (.v (.int .i64 1)))] false, none⟩,
 ⟨some 50, .call n_gantryref05_Of [(.c (.v (.int .i64 2))), (.c (.v (.int .i64 1)))] false, none⟩,
 ⟨some 51, .build [.v (.bool false), .z true, .v (.bool false), .z true, .v (.bool false), .z true, .v (.bool false), .z true] [(0, 4, (.t 49)), (4, 4, (.t 50))], none⟩,
 ⟨some 8, .new [.v (.bool false), .z true, .v (.bool false), .z true, .v (.bool false), .z true, .v (.bool false), .z true], none⟩,
 ⟨none, .store 8 (.t 8) (.t 51), none⟩] []) <|
 .keep [1, 2, 3, 4, 5, 6, 7, 8] [[3], [7], [8]]) <|
 .seq (.seq (.reg [⟨some 52, .mov (.t 4), none⟩,
 ⟨some 53, .mov (.t 52), none⟩,
 ⟨some 54, .load (some 3) (.t 3), (some (53, true))⟩,
 ⟨some 55, .build [.v (.int .i64 0), .v (.int .i64 0), .v (.int .i64 0)] [(0, 1, (.c (.v (.int .i64 3)))), (1, 1, (.c (.v (.int .i64 4)))), (2, 1, (.c (.v (.int .i64 5))))], (some (53, true))⟩,
 ⟨some 56, .eqs 3 false (.t 54) (.t 55), (some (53, true))⟩,
 ⟨some 57, .pick (.t 53) (.t 56) (.c (.v (.bool false))), none⟩,
 ⟨some 58, .mov (.t 57), none⟩,
 ⟨some 59, .mov (.t 2), (some (58, true))⟩,
 ⟨some 60, .call n_convex_Area [(.t 59)] false, (some (58, true))⟩,
 ⟨some 61, .bin .eql (.t 60) (.c (.v (.int .i64 12))), (some (58, true))⟩,
 ⟨some 62, .pick (.t 58) (.t 61) (.c (.v (.bool false))), none⟩,
 ⟨some 63, .mov (.t 62), none⟩,
 ⟨some 64, .mov (.t 1), (some (63, true))⟩,
 ⟨some 65, .mov (.t 2), (some (63, true))⟩,
 ⟨some 66, .call n_convex_Sides [(.t 64), (.t 65)] false, (some (63, true))⟩,
 ⟨some 67, .mov (.t 5), (some (63, true))⟩,
 ⟨some 68, .call n_gantryref12_SameEdges [(.t 66), (.t 67)] false, (some (63, true))⟩,
 ⟨some 69, .pick (.t 63) (.t 68) (.c (.v (.bool false))), none⟩,
 ⟨some 70, .mov (.t 69), none⟩,
 ⟨some 71, .mov (.t 1), (some (70, true))⟩,
 ⟨some 72, .mov (.t 2), (some (70, true))⟩,
 ⟨some 73, .call n_convex_Sum [(.t 71), (.t 72)] false, (some (70, true))⟩,
 ⟨some 74, .mov (.t 6), (some (70, true))⟩,
 ⟨some 75, .call n_gantryref12_SamePoints [(.t 73), (.t 74)] false, (some (70, true))⟩,
 ⟨some 76, .pick (.t 70) (.t 75) (.c (.v (.bool false))), none⟩,
 ⟨some 9, .mov (.t 76), none⟩] []) <|
 .keep [1, 2, 7, 8, 9] [[7], [8]]) <|
 .seq (.seq (.reg [⟨some 77, .mov (.t 9), none⟩,
 ⟨some 78, .mov (.t 77), none⟩,
 ⟨some 79, .mov (.t 2), (some (78, true))⟩,
 ⟨some 80, .load (some 8) (.t 7), (some (78, true))⟩,
 ⟨some 81, .call n_convex_Has [(.t 79), (.t 80)] false, (some (78, true))⟩,
 ⟨some 82, .pick (.t 78) (.t 81) (.c (.v (.bool false))), none⟩,
 ⟨some 83, .mov (.t 82), none⟩,
 ⟨some 84, .mov (.t 2), (some (83, true))⟩,
 ⟨some 85, .load (some 8) (.t 8), (some (83, true))⟩,
 ⟨some 86, .call n_convex_Has [(.t 84), (.t 85)] false, (some (83, true))⟩,
 ⟨some 87, .un .not (.t 86), (some (83, true))⟩,
 ⟨some 88, .pick (.t 83) (.t 87) (.c (.v (.bool false))), none⟩,
 ⟨some 89, .mov (.t 88), none⟩,
 ⟨some 90, .mov (.t 2), (some (89, true))⟩,
 ⟨some 91, .call n_convex_Valid [(.t 90)] false, (some (89, true))⟩,
 ⟨some 92, .pick (.t 89) (.t 91) (.c (.v (.bool false))), none⟩,
 ⟨some 93, .mov (.t 92), none⟩,
 ⟨some 94, .mov (.t 1), (some (93, true))⟩,
 ⟨some 95, .slc 2 (.t 94) none (some (.c (.v (.int .i64 2)))) none, (some (93, true))⟩,
 ⟨some 96, .call n_convex_Valid [(.t 95)] false, (some (93, true))⟩,
 ⟨some 97, .un .not (.t 96), (some (93, true))⟩,
 ⟨some 98, .pick (.t 93) (.t 97) (.c (.v (.bool false))), none⟩,
 ⟨some 0, .mov (.t 98), none⟩] []) <|
 .keep [0] []) <|
 .ret, [.t 0]⟩

def convex_Sides_i0 : C :=
 .seq (.seq (.reg [⟨some 4, .box (.t 0), none⟩] []) <|
 .keep [1, 2, 3, 4] [[4, 0], [2], [3], [5], [21, 0]]) <|
 .seq (.seq (.reg [⟨some 5, .load none (.t 1), none⟩,
 ⟨some 6, .mkfn n_convex_Sides_1_1 [(.t 4)] true, none⟩,
 ⟨some 7, .call n_slices_ContainsFunc_api_Edge_api_Edge [(.t 5), (.t 6)] false, none⟩,
 ⟨some 8, .un .not (.t 7), none⟩] []) <|
 .keep [1, 2, 3, 4, 8] [[4, 0], [2], [3], [5], [21, 0]]) <|
 .cond (.t 8) (.seq (.reg [⟨some 9, .load none (.t 1), none⟩,
 ⟨some 10, .load (some 3) (.t 4), none⟩,
 ⟨some 11, .load none (.t 2), none⟩,
 ⟨some 12, .load (some 3) (.t 4), none⟩,
 ⟨some 13, .call n_convex_Most [(.t 11), (.t 12)] false, none⟩,
 ⟨some 14, .load none (.t 3), none⟩,
 ⟨some 15, .load (some 3) (.t 4), none⟩,
 ⟨some 16, .call n_convex_turned [(.t 15)] false, none⟩,
 ⟨some 17, .call n_convex_Most [(.t 14), (.t 16)] false, none⟩,
 ⟨some 18, .bin .add (.t 13) (.t 17), none⟩,
 ⟨some 19, .build [.v (.int .i64 0), .v (.int .i64 0), .v (.int .i64 0), .v (.int .i64 0)] [(0, 3, (.t 10)), (3, 1, (.t 18))], none⟩,
 ⟨some 20, .lit 4 1 [.v (.int .i64 0), .v (.int .i64 0), .v (.int .i64 0), .v (.int .i64 0)] [(0, (.t 19))] true, none⟩,
 ⟨some 21, .app 4 32 (.t 9) (.t 20) false, none⟩,
 ⟨none, .store 1 (.t 1) (.t 21), none⟩] []) <|
 .keep [] [[2], [3], [5], [21, 0]]) <|
 .skip
def convex_Sides_l1 : C :=
 .seq (.seq (.seq (.reg [⟨some 17, .bin .lss (.t 16) (.t 15), none⟩] []) <|
 .keep [2, 3, 5, 6, 15, 16, 17] [[2], [3], [5], [21, 0]]) <|
 .seq (.cond (.t 17) (.skip) <|
 .seq (.keep [3, 5, 6] [[2], [3], [5], [21, 0]]) <|
 .exit 0) <|
 .seq (.seq (.blk 1 <|
 .seq (.seq (.reg [⟨some 18, .mov (.t 16), none⟩,
 ⟨some 7, .mov (.t 18), none⟩] []) <|
 .keep [2, 3, 5, 6, 7, 15, 16] [[2], [3], [5], [21, 0]]) <|
 .seq (.seq (.reg [⟨some 20, .load none (.t 2), none⟩,
 ⟨some 21, .mov (.t 7), none⟩,
 ⟨some 22, .ixa 2 (.t 20) (.t 21), none⟩,
 ⟨some 23, .load (some 2) (.t 22), none⟩,
 ⟨some 24, .load none (.t 2), none⟩,
 ⟨some 25, .mov (.t 7), none⟩,
 ⟨some 26, .call n_convex_next [(.t 24), (.t 25)] false, none⟩,
 ⟨some 27, .call n_convex_Norm [(.t 23), (.t 26)] false, none⟩,
 ⟨some 19, .mov (.t 27), none⟩,
 ⟨some 28, .ext (.t 19) 0, none⟩,
 ⟨some 29, .ext (.t 19) 1, none⟩,
 ⟨some 8, .new [.v (.int .i64 0), .v (.int .i64 0), .v (.int .i64 0)], none⟩,
 ⟨none, .store 3 (.t 8) (.t 28), none⟩,
 ⟨some 9, .mov (.t 29), none⟩] []) <|
 .keep [2, 3, 5, 6, 8, 15, 16] [[2], [3], [5], [8], [21, 0]]) <|
 .seq (.inl [⟨some 30, .mov (.t 6), none⟩, ⟨some 31, .load (some 3) (.t 8), none⟩] (some 32) (.t 30) [(.t 31)] n_convex_Sides_1 convex_Sides_i0 [] 4 [] [2, 3, 5, 6, 15, 16] [[2], [3], [5], [21, 0]] []) <|
 .keep [2, 3, 5, 6, 15, 16] [[2], [3], [5], [21, 0]]) <|
 .keep [2, 3, 5, 6, 15, 16] [[2], [3], [5], [21, 0]]) <|
 .seq (.reg [⟨some 33, .bin .add (.t 16) (.c (.v (.int .i64 1))), none⟩,
 ⟨some 16, .mov (.t 33), none⟩] []) <|
 .keep [2, 3, 5, 6, 15, 16] [[2], [3], [5], [21, 0]]) <|
 .keep [2, 3, 5, 6, 15, 16] [[2], [3], [5], [21, 0]]
def convex_Sides_i2 : C :=
 .seq (.seq (.reg [⟨some 4, .box (.t 0), none⟩] []) <|
 .keep [1, 2, 3, 4] [[4, 0], [2], [3], [5], [21, 0]]) <|
 .seq (.seq (.reg [⟨some 5, .load none (.t 1), none⟩,
 ⟨some 6, .mkfn n_convex_Sides_1_1 [(.t 4)] true, none⟩,
 ⟨some 7, .call n_slices_ContainsFunc_api_Edge_api_Edge [(.t 5), (.t 6)] false, none⟩,
 ⟨some 8, .un .not (.t 7), none⟩] []) <|
 .keep [1, 2, 3, 4, 8] [[4, 0], [2], [3], [5], [21, 0]]) <|
 .cond (.t 8) (.seq (.reg [⟨some 9, .load none (.t 1), none⟩,
 ⟨some 10, .load (some 3) (.t 4), none⟩,
 ⟨some 11, .load none (.t 2), none⟩,
 ⟨some 12, .load (some 3) (.t 4), none⟩,
 ⟨some 13, .call n_convex_Most [(.t 11), (.t 12)] false, none⟩,
 ⟨some 14, .load none (.t 3), none⟩,
 ⟨some 15, .load (some 3) (.t 4), none⟩,
 ⟨some 16, .call n_convex_turned [(.t 15)] false, none⟩,
 ⟨some 17, .call n_convex_Most [(.t 14), (.t 16)] false, none⟩,
 ⟨some 18, .bin .add (.t 13) (.t 17), none⟩,
 ⟨some 19, .build [.v (.int .i64 0), .v (.int .i64 0), .v (.int .i64 0), .v (.int .i64 0)] [(0, 3, (.t 10)), (3, 1, (.t 18))], none⟩,
 ⟨some 20, .lit 4 1 [.v (.int .i64 0), .v (.int .i64 0), .v (.int .i64 0), .v (.int .i64 0)] [(0, (.t 19))] true, none⟩,
 ⟨some 21, .app 4 32 (.t 9) (.t 20) false, none⟩,
 ⟨none, .store 1 (.t 1) (.t 21), none⟩] []) <|
 .keep [] [[2], [3], [5], [21, 0]]) <|
 .skip
def convex_Sides_l3 : C :=
 .seq (.seq (.seq (.reg [⟨some 37, .bin .lss (.t 36) (.t 35), none⟩] []) <|
 .keep [3, 5, 6, 35, 36, 37] [[2], [3], [5], [21, 0]]) <|
 .seq (.cond (.t 37) (.skip) <|
 .seq (.keep [5] [[5], [21, 0]]) <|
 .exit 2) <|
 .seq (.seq (.blk 3 <|
 .seq (.seq (.reg [⟨some 38, .mov (.t 36), none⟩,
 ⟨some 10, .mov (.t 38), none⟩] []) <|
 .keep [3, 5, 6, 10, 35, 36] [[2], [3], [5], [21, 0]]) <|
 .seq (.seq (.reg [⟨some 40, .load none (.t 3), none⟩,
 ⟨some 41, .mov (.t 10), none⟩,
 ⟨some 42, .ixa 2 (.t 40) (.t 41), none⟩,
 ⟨some 43, .load (some 2) (.t 42), none⟩,
 ⟨some 44, .load none (.t 3), none⟩,
 ⟨some 45, .mov (.t 10), none⟩,
 ⟨some 46, .call n_convex_next [(.t 44), (.t 45)] false, none⟩,
 ⟨some 47, .call n_convex_Norm [(.t 43), (.t 46)] false, none⟩,
 ⟨some 39, .mov (.t 47), none⟩,
 ⟨some 48, .ext (.t 39) 0, none⟩,
 ⟨some 49, .ext (.t 39) 1, none⟩,
 ⟨some 11, .new [.v (.int .i64 0), .v (.int .i64 0), .v (.int .i64 0)], none⟩,
 ⟨none, .store 3 (.t 11) (.t 48), none⟩,
 ⟨some 12, .mov (.t 49), none⟩] []) <|
 .keep [3, 5, 6, 11, 35, 36] [[2], [3], [5], [11], [21, 0]]) <|
 .seq (.inl [⟨some 50, .mov (.t 6), none⟩, ⟨some 51, .load (some 3) (.t 11), none⟩, ⟨some 52, .call n_convex_turned [(.t 51)] false, none⟩] (some 53) (.t 50) [(.t 52)] n_convex_Sides_1 convex_Sides_i2 [] 4 [] [3, 5, 6, 35, 36] [[2], [3], [5], [21, 0]] []) <|
 .keep [3, 5, 6, 35, 36] [[2], [3], [5], [21, 0]]) <|
 .keep [3, 5, 6, 35, 36] [[2], [3], [5], [21, 0]]) <|
 .seq (.reg [⟨some 54, .bin .add (.t 36) (.c (.v (.int .i64 1))), none⟩,
 ⟨some 36, .mov (.t 54), none⟩] []) <|
 .keep [3, 5, 6, 35, 36] [[2], [3], [5], [21, 0]]) <|
 .keep [3, 5, 6, 35, 36] [[2], [3], [5], [21, 0]]
def convex_Sides : CF := ⟨2, .seq (.seq (.reg [⟨some 2, .box (.t 0), none⟩,
 ⟨some 3, .box (.t 1), none⟩,
 ⟨some 4, .mov (.c (.z true)), none⟩] []) <|
 .keep [2, 3] [[2], [3], [21, 0]]) <|
 .seq (.seq (.reg [⟨some 5, .new [.z true], none⟩] []) <|
 .keep [2, 3, 5] [[2], [3], [5], [21, 0]]) <|
 .seq (.seq (.reg [⟨some 13, .mkfn n_convex_Sides_1 [(.t 5), (.t 2), (.t 3)] false, none⟩,
 ⟨some 6, .mov (.t 13), none⟩] []) <|
 .keep [2, 3, 5, 6] [[2], [3], [5], [21, 0]]) <|
 .seq (.seq (.seq (.reg [⟨some 14, .load none (.t 2), none⟩,
 ⟨some 15, .len (.t 14), none⟩,
 ⟨some 16, .mov (.c (.v (.int .i64 0))), none⟩] []) <|
 .keep [2, 3, 5, 6, 15, 16] [[2], [3], [5], [21, 0]]) <|
 .seq (.blk 0 <|
 .seq (.keep [2, 3, 5, 6, 15, 16] [[2], [3], [5], [21, 0]]) <|
 .loop convex_Sides_l1) <|
 .keep [3, 5, 6] [[2], [3], [5], [21, 0]]) <|
 .seq (.seq (.seq (.reg [⟨some 34, .load none (.t 3), none⟩,
 ⟨some 35, .len (.t 34), none⟩,
 ⟨some 36, .mov (.c (.v (.int .i64 0))), none⟩] []) <|
 .keep [3, 5, 6, 35, 36] [[2], [3], [5], [21, 0]]) <|
 .seq (.blk 2 <|
 .seq (.keep [3, 5, 6, 35, 36] [[2], [3], [5], [21, 0]]) <|
 .loop convex_Sides_l3) <|
 .keep [5] [[5], [21, 0]]) <|
 .seq (.seq (.reg [⟨some 55, .load none (.t 5), none⟩,
 ⟨some 4, .mov (.t 55), none⟩] []) <|
 .keep [4] [[21, 0]]) <|
 .ret, [.t 4]⟩

def rat_Compare : CF := ⟨2, .seq (.seq (.reg [⟨some 2, .box (.t 0), none⟩,
 ⟨some 3, .box (.t 1), none⟩,
 ⟨some 4, .mov (.c (.v (.int .i64 0))), none⟩] []) <|
 .keep [2, 3] [[2], [3]]) <|
 .seq (.seq (.seq (.reg [⟨some 7, .load (some 4) (.t 2), none⟩,
 ⟨some 8, .call n_rat_Sign [(.t 7)] false, none⟩,
 ⟨some 9, .load (some 4) (.t 3), none⟩,
 ⟨some 10, .call n_rat_Sign [(.t 9)] false, none⟩,
 ⟨some 5, .mov (.t 8), none⟩,
 ⟨some 6, .mov (.t 10), none⟩] []) <|
 .keep [2, 3, 5, 6] [[2], [3]]) <|
 .seq (.seq (.reg [⟨some 11, .mov (.t 5), none⟩,
 ⟨some 12, .mov (.t 6), none⟩,
 ⟨some 13, .bin .neq (.t 11) (.t 12), none⟩,
 ⟨some 14, .mov (.t 13), none⟩,
 ⟨some 15, .mov (.t 5), (some (14, false))⟩,
 ⟨some 16, .bin .eql (.t 15) (.c (.v (.int .i64 0))), (some (14, false))⟩,
 ⟨some 17, .pick (.t 14) (.c (.v (.bool true))) (.t 16), none⟩] []) <|
 .keep [2, 3, 5, 6, 17] [[2], [3]]) <|
 .cond (.t 17) (.seq (.seq (.reg [⟨some 18, .mov (.t 5), none⟩,
 ⟨some 19, .call n_integer_Of [(.t 18)] false, none⟩,
 ⟨some 20, .mov (.t 6), none⟩,
 ⟨some 21, .call n_integer_Of [(.t 20)] false, none⟩,
 ⟨some 22, .call n_integer_Compare [(.t 19), (.t 21)] false, none⟩,
 ⟨some 4, .mov (.t 22), none⟩] []) <|
 .keep [4] []) <|
 .ret) <|
 .skip) <|
 .seq (.seq (.reg [⟨some 23, .fad 0 (.t 2), none⟩,
 ⟨some 24, .load (some 2) (.t 23), none⟩,
 ⟨some 25, .load (some 4) (.t 3), none⟩,
 ⟨some 26, .call n_rat_Den [(.t 25)] false, none⟩,
 ⟨some 27, .call n_integer_Mul [(.t 24), (.t 26)] false, none⟩,
 ⟨some 28, .fad 0 (.t 3), none⟩,
 ⟨some 29, .load (some 2) (.t 28), none⟩,
 ⟨some 30, .load (some 4) (.t 2), none⟩,
 ⟨some 31, .call n_rat_Den [(.t 30)] false, none⟩,
 ⟨some 32, .call n_integer_Mul [(.t 29), (.t 31)] false, none⟩,
 ⟨some 33, .call n_integer_Compare [(.t 27), (.t 32)] false, none⟩,
 ⟨some 4, .mov (.t 33), none⟩] []) <|
 .keep [4] []) <|
 .ret, [.t 4]⟩

def gantryref12_Dot : CF := ⟨2, .seq (.seq (.reg [⟨some 2, .box (.t 0), none⟩,
 ⟨some 3, .box (.t 1), none⟩,
 ⟨some 4, .new [.v (.bool false), .z true, .v (.bool false), .z true], none⟩] []) <|
 .keep [2, 3, 4] [[2], [3], [4]]) <|
 .seq (.seq (.reg [⟨some 5, .fad 0 (.t 2), none⟩,
 ⟨some 6, .load none (.t 5), none⟩,
 ⟨some 7, .call n_gantryref05_Of [(.t 6), (.c (.v (.int .i64 1)))] false, none⟩,
 ⟨some 8, .fad 0 (.t 3), none⟩,
 ⟨some 9, .load (some 4) (.t 8), none⟩,
 ⟨some 10, .call n_gantryref05_Mul [(.t 7), (.t 9)] false, none⟩,
 ⟨some 11, .fad 1 (.t 2), none⟩,
 ⟨some 12, .load none (.t 11), none⟩,
 ⟨some 13, .call n_gantryref05_Of [(.t 12), (.c (.v (.int .i64 1)))] false, none⟩,
 ⟨some 14, .fad 4 (.t 3), none⟩,
 ⟨some 15, .load (some 4) (.t 14), none⟩,
 ⟨some 16, .call n_gantryref05_Mul [(.t 13), (.t 15)] false, none⟩,
 ⟨some 17, .call n_gantryref05_Add [(.t 10), (.t 16)] false, none⟩,
 ⟨none, .store 4 (.t 4) (.t 17), none⟩] []) <|
 .keep [4] [[4]]) <|
 .ret, [.cell 4 (some 4)]⟩

def rat_Of : CF := ⟨2, .seq (.seq (.reg [⟨some 4, .new [.v (.bool false), .z true, .v (.bool false), .z true], none⟩] []) <|
 .keep [0, 1, 4] [[4]]) <|
 .seq (.seq (.reg [⟨some 5, .mov (.t 0), none⟩,
 ⟨some 6, .call n_integer_Of [(.t 5)] false, none⟩,
 ⟨some 7, .mov (.t 1), none⟩,
 ⟨some 8, .call n_integer_Of [(.t 7)] false, none⟩,
 ⟨some 9, .call n_rat_Make [(.t 6), (.t 8)] false, none⟩,
 ⟨none, .store 4 (.t 4) (.t 9), none⟩] []) <|
 .keep [4] [[4]]) <|
 .ret, [.cell 4 (some 4)]⟩

def rat_Sub : CF := ⟨2, .seq (.seq (.reg [⟨some 2, .box (.t 0), none⟩,
 ⟨some 3, .box (.t 1), none⟩,
 ⟨some 4, .new [.v (.bool false), .z true, .v (.bool false), .z true], none⟩] []) <|
 .keep [2, 3, 4] [[2], [3], [4]]) <|
 .seq (.seq (.reg [⟨some 5, .load (some 4) (.t 2), none⟩,
 ⟨some 6, .load (some 4) (.t 3), none⟩,
 ⟨some 7, .call n_rat_Neg [(.t 6)] false, none⟩,
 ⟨some 8, .call n_rat_Add [(.t 5), (.t 7)] false, none⟩,
 ⟨none, .store 4 (.t 4) (.t 8), none⟩] []) <|
 .keep [4] [[4]]) <|
 .ret, [.cell 4 (some 4)]⟩

def gantryref01_Around : CF := ⟨2, .seq (.seq (.reg [⟨some 4, .mov (.c (.v (.int .i64 0))), none⟩] []) <|
 .keep [0, 1] []) <|
 .seq (.seq (.seq (.reg [⟨some 5, .mov (.t 0), none⟩,
 ⟨some 6, .bin .lss (.t 5) (.c (.v (.int .i64 0))), none⟩] []) <|
 .keep [0, 1, 6] []) <|
 .cond (.t 6) (.seq (.reg [⟨some 7, .mov (.t 0), none⟩,
 ⟨some 8, .bin .add (.t 7) (.c (.v (.int .i64 1))), none⟩,
 ⟨some 9, .un .neg (.t 8), none⟩,
 ⟨some 0, .mov (.t 9), none⟩] []) <|
 .keep [0, 1] []) <|
 .skip) <|
 .seq (.seq (.reg [⟨some 10, .mov (.t 0), none⟩,
 ⟨some 11, .mov (.t 1), none⟩,
 ⟨some 12, .bin .rem (.t 10) (.t 11), none⟩,
 ⟨some 4, .mov (.t 12), none⟩] []) <|
 .keep [4] []) <|
 .ret, [.t 4]⟩

def gantryref12_Move_l0 : C :=
 .seq (.seq (.seq (.seq (.reg [⟨some 9, .mov (.t 8), none⟩,
 ⟨some 10, .mov (.t 0), none⟩,
 ⟨some 11, .len (.t 10), none⟩,
 ⟨some 12, .bin .lss (.t 9) (.t 11), none⟩] []) <|
 .keep [0, 1, 2, 7, 8, 12] [[32]]) <|
 .cond (.t 12) (.skip) <|
 .seq (.keep [7] [[32]]) <|
 .exit 0) <|
 .seq (.seq (.blk 1 <|
 .seq (.reg [⟨some 15, .mov (.t 7), none⟩,
 ⟨some 16, .mov (.t 0), none⟩,
 ⟨some 17, .mov (.t 8), none⟩,
 ⟨some 18, .ixa 2 (.t 16) (.t 17), none⟩,
 ⟨some 19, .fad 0 (.t 18), none⟩,
 ⟨some 20, .load none (.t 19), none⟩,
 ⟨some 21, .mov (.t 1), none⟩,
 ⟨some 22, .bin .add (.t 20) (.t 21), none⟩,
 ⟨some 23, .mov (.t 0), none⟩,
 ⟨some 24, .mov (.t 8), none⟩,
 ⟨some 25, .ixa 2 (.t 23) (.t 24), none⟩,
 ⟨some 26, .fad 1 (.t 25), none⟩,
 ⟨some 27, .load none (.t 26), none⟩,
 ⟨some 28, .mov (.t 2), none⟩,
 ⟨some 29, .bin .add (.t 27) (.t 28), none⟩,
 ⟨some 30, .build [.v (.int .i64 0), .v (.int .i64 0)] [(0, 1, (.t 22)), (1, 1, (.t 29))], none⟩,
 ⟨some 31, .lit 2 1 [.v (.int .i64 0), .v (.int .i64 0)] [(0, (.t 30))] true, none⟩,
 ⟨some 32, .app 2 16 (.t 15) (.t 31) false, none⟩,
 ⟨some 7, .mov (.t 32), none⟩] []) <|
 .keep [0, 1, 2, 7, 8] [[32]]) <|
 .keep [0, 1, 2, 7, 8] [[32]]) <|
 .seq (.reg [⟨some 13, .mov (.t 8), none⟩,
 ⟨some 14, .bin .add (.t 13) (.c (.v (.int .i64 1))), none⟩,
 ⟨some 8, .mov (.t 14), none⟩] []) <|
 .keep [0, 1, 2, 7, 8] [[32]]) <|
 .keep [0, 1, 2, 7, 8] [[32]]
def gantryref12_Move : CF := ⟨3, .seq (.seq (.reg [⟨some 6, .mov (.c (.z true)), none⟩] []) <|
 .keep [0, 1, 2] []) <|
 .seq (.seq (.reg [⟨some 7, .mov (.c (.z true)), none⟩] []) <|
 .keep [0, 1, 2, 7] [[32]]) <|
 .seq (.seq (.seq (.reg [⟨some 8, .mov (.c (.v (.int .i64 0))), none⟩] []) <|
 .keep [0, 1, 2, 7, 8] [[32]]) <|
 .seq (.blk 0 <|
 .seq (.keep [0, 1, 2, 7, 8] [[32]]) <|
 .loop gantryref12_Move_l0) <|
 .keep [7] [[32]]) <|
 .seq (.seq (.reg [⟨some 33, .mov (.t 7), none⟩,
 ⟨some 6, .mov (.t 33), none⟩] []) <|
 .keep [6] [[32]]) <|
 .ret, [.t 6]⟩

def convex_Area_l0 : C :=
 .seq (.seq (.seq (.reg [⟨some 8, .bin .lss (.t 7) (.t 6), none⟩] []) <|
 .keep [0, 3, 6, 7, 8] []) <|
 .seq (.cond (.t 8) (.skip) <|
 .seq (.keep [3] []) <|
 .exit 0) <|
 .seq (.seq (.blk 1 <|
 .seq (.seq (.reg [⟨some 9, .mov (.t 7), none⟩,
 ⟨some 4, .mov (.t 9), none⟩] []) <|
 .keep [0, 3, 4, 6, 7] []) <|
 .seq (.reg [⟨some 10, .mov (.t 3), none⟩,
 ⟨some 11, .mov (.t 0), none⟩,
 ⟨some 12, .ixa 2 (.t 11) (.c (.v (.int .i64 0))), none⟩,
 ⟨some 13, .load (some 2) (.t 12), none⟩,
 ⟨some 14, .mov (.t 0), none⟩,
 ⟨some 15, .mov (.t 4), none⟩,
 ⟨some 16, .ixa 2 (.t 14) (.t 15), none⟩,
 ⟨some 17, .load (some 2) (.t 16), none⟩,
 ⟨some 18, .mov (.t 0), none⟩,
 ⟨some 19, .mov (.t 4), none⟩,
 ⟨some 20, .call n_convex_next [(.t 18), (.t 19)] false, none⟩,
 ⟨some 21, .call n_convex_cross [(.t 13), (.t 17), (.t 20)] false, none⟩,
 ⟨some 22, .bin .add (.t 10) (.t 21), none⟩,
 ⟨some 3, .mov (.t 22), none⟩] []) <|
 .keep [0, 3, 6, 7] []) <|
 .keep [0, 3, 6, 7] []) <|
 .seq (.reg [⟨some 23, .bin .add (.t 7) (.c (.v (.int .i64 1))), none⟩,
 ⟨some 7, .mov (.t 23), none⟩] []) <|
 .keep [0, 3, 6, 7] []) <|
 .keep [0, 3, 6, 7] []
def convex_Area : CF := ⟨1, .seq (.seq (.reg [⟨some 2, .mov (.c (.v (.int .i64 0))), none⟩] []) <|
 .keep [0] []) <|
 .seq (.seq (.reg [⟨some 3, .mov (.c (.v (.int .i64 0))), none⟩] []) <|
 .keep [0, 3] []) <|
 .seq (.seq (.seq (.reg [⟨some 5, .mov (.t 0), none⟩,
 ⟨some 6, .len (.t 5), none⟩,
 ⟨some 7, .mov (.c (.v (.int .i64 0))), none⟩] []) <|
 .keep [0, 3, 6, 7] []) <|
 .seq (.blk 0 <|
 .seq (.keep [0, 3, 6, 7] []) <|
 .loop convex_Area_l0) <|
 .keep [3] []) <|
 .seq (.seq (.reg [⟨some 24, .mov (.t 3), none⟩,
 ⟨some 2, .mov (.t 24), none⟩] []) <|
 .keep [2] []) <|
 .ret, [.t 2]⟩

def convex_Valid_l0 : C :=
 .seq (.seq (.seq (.reg [⟨some 40, .bin .lss (.t 39) (.t 38), none⟩] []) <|
 .keep [0, 4, 20, 21, 38, 39, 40] []) <|
 .seq (.cond (.t 40) (.skip) <|
 .seq (.keep [0, 20, 21] []) <|
 .exit 2) <|
 .seq (.seq (.blk 3 <|
 .seq (.seq (.reg [⟨some 41, .mov (.t 39), none⟩,
 ⟨some 7, .mov (.t 41), none⟩] []) <|
 .keep [0, 4, 7, 20, 21, 38, 39] []) <|
 .seq (.seq (.reg [⟨some 42, .mov (.t 7), none⟩,
 ⟨some 43, .mov (.t 4), none⟩,
 ⟨some 44, .bin .neq (.t 42) (.t 43), none⟩,
 ⟨some 45, .mov (.t 44), none⟩,
 ⟨some 46, .mov (.t 7), (some (45, true))⟩,
 ⟨some 47, .mov (.t 4), (some (45, true))⟩,
 ⟨some 48, .bin .add (.t 47) (.c (.v (.int .i64 1))), (some (45, true))⟩,
 ⟨some 49, .mov (.t 0), (some (45, true))⟩,
 ⟨some 50, .len (.t 49), (some (45, true))⟩,
 ⟨some 51, .bin .rem (.t 48) (.t 50), (some (45, true))⟩,
 ⟨some 52, .bin .neq (.t 46) (.t 51), (some (45, true))⟩,
 ⟨some 53, .pick (.t 45) (.t 52) (.c (.v (.bool false))), none⟩,
 ⟨some 54, .mov (.t 53), none⟩,
 ⟨some 55, .mov (.t 0), (some (54, true))⟩,
 ⟨some 56, .mov (.t 4), (some (54, true))⟩,
 ⟨some 57, .ixa 2 (.t 55) (.t 56), (some (54, true))⟩,
 ⟨some 58, .load (some 2) (.t 57), (some (54, true))⟩,
 ⟨some 59, .mov (.t 0), (some (54, true))⟩,
 ⟨some 60, .mov (.t 4), (some (54, true))⟩,
 ⟨some 61, .call n_convex_next [(.t 59), (.t 60)] false, (some (54, true))⟩,
 ⟨some 62, .mov (.t 0), (some (54, true))⟩,
 ⟨some 63, .mov (.t 7), (some (54, true))⟩,
 ⟨some 64, .ixa 2 (.t 62) (.t 63), (some (54, true))⟩,
 ⟨some 65, .load (some 2) (.t 64), (some (54, true))⟩,
 ⟨some 66, .call n_convex_cross [(.t 58), (.t 61), (.t 65)] false, (some (54, true))⟩,
 ⟨some 67, .bin .leq (.t 66) (.c (.v (.int .i64 0))), (some (54, true))⟩,
 ⟨some 68, .pick (.t 54) (.t 67) (.c (.v (.bool false))), none⟩] []) <|
 .keep [0, 4, 20, 21, 38, 39, 68] []) <|
 .cond (.t 68) (.seq (.seq (.reg [⟨some 2, .mov (.c (.v (.bool false))), none⟩] []) <|
 .keep [2] []) <|
 .ret) <|
 .skip) <|
 .keep [0, 4, 20, 21, 38, 39] []) <|
 .seq (.reg [⟨some 69, .bin .add (.t 39) (.c (.v (.int .i64 1))), none⟩,
 ⟨some 39, .mov (.t 69), none⟩] []) <|
 .keep [0, 4, 20, 21, 38, 39] []) <|
 .keep [0, 4, 20, 21, 38, 39] []
def convex_Valid_l1 : C :=
 .seq (.seq (.seq (.reg [⟨some 22, .bin .lss (.t 21) (.t 20), none⟩] []) <|
 .keep [0, 20, 21, 22] []) <|
 .seq (.cond (.t 22) (.skip) <|
 .seq (.keep [] []) <|
 .exit 0) <|
 .seq (.seq (.blk 1 <|
 .seq (.seq (.reg [⟨some 23, .mov (.t 21), none⟩,
 ⟨some 4, .mov (.t 23), none⟩] []) <|
 .keep [0, 4, 20, 21] []) <|
 .seq (.seq (.seq (.reg [⟨some 25, .mov (.t 0), none⟩,
 ⟨some 26, .mov (.t 4), none⟩,
 ⟨some 27, .ixa 2 (.t 25) (.t 26), none⟩,
 ⟨some 28, .load (some 2) (.t 27), none⟩,
 ⟨some 29, .mov (.t 0), none⟩,
 ⟨some 30, .mov (.t 4), none⟩,
 ⟨some 31, .call n_convex_next [(.t 29), (.t 30)] false, none⟩,
 ⟨some 32, .call n_convex_Norm [(.t 28), (.t 31)] false, none⟩,
 ⟨some 24, .mov (.t 32), none⟩,
 ⟨some 33, .ext (.t 24) 0, none⟩,
 ⟨some 34, .ext (.t 24) 1, none⟩,
 ⟨some 5, .new [.v (.int .i64 0), .v (.int .i64 0), .v (.int .i64 0)], none⟩,
 ⟨none, .store 3 (.t 5) (.t 33), none⟩,
 ⟨some 6, .mov (.t 34), none⟩] []) <|
 .keep [0, 4, 6, 20, 21] []) <|
 .seq (.seq (.reg [⟨some 35, .mov (.t 6), none⟩,
 ⟨some 36, .un .not (.t 35), none⟩] []) <|
 .keep [0, 4, 20, 21, 36] []) <|
 .cond (.t 36) (.seq (.seq (.reg [⟨some 2, .mov (.c (.v (.bool false))), none⟩] []) <|
 .keep [2] []) <|
 .ret) <|
 .skip) <|
 .seq (.seq (.reg [⟨some 37, .mov (.t 0), none⟩,
 ⟨some 38, .len (.t 37), none⟩,
 ⟨some 39, .mov (.c (.v (.int .i64 0))), none⟩] []) <|
 .keep [0, 4, 20, 21, 38, 39] []) <|
 .seq (.blk 2 <|
 .seq (.keep [0, 4, 20, 21, 38, 39] []) <|
 .loop convex_Valid_l0) <|
 .keep [0, 20, 21] []) <|
 .keep [0, 20, 21] []) <|
 .seq (.reg [⟨some 70, .bin .add (.t 21) (.c (.v (.int .i64 1))), none⟩,
 ⟨some 21, .mov (.t 70), none⟩] []) <|
 .keep [0, 20, 21] []) <|
 .keep [0, 20, 21] []
def convex_Valid : CF := ⟨1, .seq (.seq (.reg [⟨some 2, .mov (.c (.v (.bool false))), none⟩] []) <|
 .keep [0] []) <|
 .seq (.seq (.seq (.reg [⟨some 8, .mov (.t 0), none⟩,
 ⟨some 9, .len (.t 8), none⟩,
 ⟨some 10, .bin .lss (.t 9) (.c (.v (.int .i64 3))), none⟩,
 ⟨some 11, .mov (.t 10), none⟩,
 ⟨some 12, .mov (.t 0), (some (11, false))⟩,
 ⟨some 13, .len (.t 12), (some (11, false))⟩,
 ⟨some 14, .bin .gtr (.t 13) (.c (.v (.int .i64 8))), (some (11, false))⟩,
 ⟨some 15, .pick (.t 11) (.c (.v (.bool true))) (.t 14), none⟩] []) <|
 .keep [0, 15] []) <|
 .cond (.t 15) (.seq (.seq (.reg [⟨some 2, .mov (.c (.v (.bool false))), none⟩] []) <|
 .keep [2] []) <|
 .ret) <|
 .skip) <|
 .seq (.seq (.reg [⟨some 3, .mov (.f n_convex_Valid_1), none⟩] []) <|
 .keep [0, 3] []) <|
 .seq (.seq (.seq (.reg [⟨some 16, .mov (.t 0), none⟩,
 ⟨some 17, .mov (.t 3), none⟩,
 ⟨some 18, .call n_slices_ContainsFunc_api_Point_api_Point [(.t 16), (.t 17)] false, none⟩] []) <|
 .keep [0, 18] []) <|
 .cond (.t 18) (.seq (.seq (.reg [⟨some 2, .mov (.c (.v (.bool false))), none⟩] []) <|
 .keep [2] []) <|
 .ret) <|
 .skip) <|
 .seq (.seq (.seq (.reg [⟨some 19, .mov (.t 0), none⟩,
 ⟨some 20, .len (.t 19), none⟩,
 ⟨some 21, .mov (.c (.v (.int .i64 0))), none⟩] []) <|
 .keep [0, 20, 21] []) <|
 .seq (.blk 0 <|
 .seq (.keep [0, 20, 21] []) <|
 .loop convex_Valid_l1) <|
 .keep [] []) <|
 .seq (.seq (.reg [⟨some 2, .mov (.c (.v (.bool true))), none⟩] []) <|
 .keep [2] []) <|
 .ret, [.t 2]⟩

def gantryref12_Turn : CF := ⟨1, .seq (.seq (.reg [⟨some 1, .box (.t 0), none⟩,
 ⟨some 2, .new [.v (.int .i64 0), .v (.int .i64 0), .v (.int .i64 0)], none⟩] []) <|
 .keep [1, 2] [[1], [2]]) <|
 .seq (.seq (.reg [⟨some 3, .fad 0 (.t 1), none⟩,
 ⟨some 4, .load none (.t 3), none⟩,
 ⟨some 5, .un .neg (.t 4), none⟩,
 ⟨some 6, .fad 1 (.t 1), none⟩,
 ⟨some 7, .load none (.t 6), none⟩,
 ⟨some 8, .un .neg (.t 7), none⟩,
 ⟨some 9, .fad 2 (.t 1), none⟩,
 ⟨some 10, .load none (.t 9), none⟩,
 ⟨some 11, .build [.v (.int .i64 0), .v (.int .i64 0), .v (.int .i64 0)] [(0, 1, (.t 5)), (1, 1, (.t 8)), (2, 1, (.t 10))], none⟩,
 ⟨none, .store 3 (.t 2) (.t 11), none⟩] []) <|
 .keep [2] [[2]]) <|
 .ret, [.cell 2 (some 3)]⟩

def convex_Most : CF := ⟨2, .seq (.seq (.reg [⟨some 3, .box (.t 1), none⟩,
 ⟨some 4, .mov (.c (.v (.int .i64 0))), none⟩] []) <|
 .keep [0, 3] [[3]]) <|
 .seq (.seq (.reg [⟨some 5, .load (some 3) (.t 3), none⟩,
 ⟨some 6, .mov (.t 0), none⟩,
 ⟨some 7, .mkfn n_convex_Most_1 [(.t 3)] true, none⟩,
 ⟨some 8, .call n_slices_MaxFunc_api_Point_api_Point [(.t 6), (.t 7)] false, none⟩,
 ⟨some 9, .call n_convex_dot [(.t 5), (.t 8)] false, none⟩,
 ⟨some 4, .mov (.t 9), none⟩] []) <|
 .keep [4] []) <|
 .ret, [.t 4]⟩

def gantryref05_Compare : CF := ⟨2, .seq (.seq (.reg [⟨some 2, .box (.t 0), none⟩,
 ⟨some 3, .box (.t 1), none⟩,
 ⟨some 4, .mov (.c (.v (.int .i64 0))), none⟩] []) <|
 .keep [2, 3] [[2], [3]]) <|
 .seq (.seq (.reg [⟨some 5, .fad 0 (.t 2), none⟩,
 ⟨some 6, .load (some 2) (.t 5), none⟩,
 ⟨some 7, .load (some 4) (.t 3), none⟩,
 ⟨some 8, .call n_gantryref05_Den [(.t 7)] false, none⟩,
 ⟨some 9, .call n_gantryref04_Mul [(.t 6), (.t 8)] false, none⟩,
 ⟨some 10, .fad 0 (.t 3), none⟩,
 ⟨some 11, .load (some 2) (.t 10), none⟩,
 ⟨some 12, .load (some 4) (.t 2), none⟩,
 ⟨some 13, .call n_gantryref05_Den [(.t 12)] false, none⟩,
 ⟨some 14, .call n_gantryref04_Mul [(.t 11), (.t 13)] false, none⟩,
 ⟨some 15, .call n_gantryref04_Compare [(.t 9), (.t 14)] false, none⟩,
 ⟨some 4, .mov (.t 15), none⟩] []) <|
 .keep [4] []) <|
 .ret, [.t 4]⟩

def gantryref05_Of : CF := ⟨2, .seq (.seq (.reg [⟨some 4, .new [.v (.bool false), .z true, .v (.bool false), .z true], none⟩] []) <|
 .keep [0, 1, 4] [[4]]) <|
 .seq (.seq (.reg [⟨some 5, .mov (.t 0), none⟩,
 ⟨some 6, .call n_gantryref04_Of [(.t 5)] false, none⟩,
 ⟨some 7, .mov (.t 1), none⟩,
 ⟨some 8, .call n_gantryref04_Of [(.t 7)] false, none⟩,
 ⟨some 9, .call n_gantryref05_Make [(.t 6), (.t 8)] false, none⟩,
 ⟨none, .store 4 (.t 4) (.t 9), none⟩] []) <|
 .keep [4] [[4]]) <|
 .ret, [.cell 4 (some 4)]⟩

def convex_Norm : CF := ⟨2, .seq (.seq (.reg [⟨some 2, .box (.t 0), none⟩,
 ⟨some 3, .box (.t 1), none⟩,
 ⟨some 4, .new [.v (.int .i64 0), .v (.int .i64 0), .v (.int .i64 0)], none⟩,
 ⟨some 5, .mov (.c (.v (.bool false))), none⟩] []) <|
 .keep [2, 3, 4] [[2], [3], [4]]) <|
 .seq (.seq (.reg [⟨some 13, .fad 0 (.t 3), none⟩,
 ⟨some 14, .load none (.t 13), none⟩,
 ⟨some 15, .fad 0 (.t 2), none⟩,
 ⟨some 16, .load none (.t 15), none⟩,
 ⟨some 17, .bin .sub (.t 14) (.t 16), none⟩,
 ⟨some 18, .fad 1 (.t 3), none⟩,
 ⟨some 19, .load none (.t 18), none⟩,
 ⟨some 20, .fad 1 (.t 2), none⟩,
 ⟨some 21, .load none (.t 20), none⟩,
 ⟨some 22, .bin .sub (.t 19) (.t 21), none⟩,
 ⟨some 6, .mov (.t 17), none⟩,
 ⟨some 7, .mov (.t 22), none⟩] []) <|
 .keep [4, 6, 7] [[4]]) <|
 .seq (.seq (.reg [⟨some 24, .mov (.t 6), none⟩,
 ⟨some 25, .mov (.t 6), none⟩,
 ⟨some 26, .bin .mul (.t 24) (.t 25), none⟩,
 ⟨some 27, .mov (.t 7), none⟩,
 ⟨some 28, .mov (.t 7), none⟩,
 ⟨some 29, .bin .mul (.t 27) (.t 28), none⟩,
 ⟨some 30, .bin .add (.t 26) (.t 29), none⟩,
 ⟨some 31, .call n_integer_Of [(.t 30)] false, none⟩,
 ⟨some 32, .call n_integer_Root [(.t 31)] false, none⟩,
 ⟨some 23, .mov (.t 32), none⟩,
 ⟨some 33, .ext (.t 23) 0, none⟩,
 ⟨some 34, .ext (.t 23) 1, none⟩,
 ⟨some 8, .new [.v (.bool false), .z true], none⟩,
 ⟨none, .store 2 (.t 8) (.t 33), none⟩,
 ⟨some 9, .mov (.t 34), none⟩] []) <|
 .keep [4, 6, 7, 8, 9] [[4], [8]]) <|
 .seq (.seq (.reg [⟨some 36, .load (some 2) (.t 8), none⟩,
 ⟨some 37, .call n_integer_Small [(.t 36)] false, none⟩,
 ⟨some 35, .mov (.t 37), none⟩,
 ⟨some 38, .ext (.t 35) 0, none⟩,
 ⟨some 39, .ext (.t 35) 1, none⟩,
 ⟨some 10, .mov (.t 38), none⟩,
 ⟨some 11, .mov (.t 39), none⟩] []) <|
 .keep [4, 6, 7, 9, 10] [[4]]) <|
 .seq (.seq (.seq (.reg [⟨some 40, .mov (.t 9), none⟩,
 ⟨some 41, .un .not (.t 40), none⟩,
 ⟨some 42, .mov (.t 41), none⟩,
 ⟨some 43, .mov (.t 10), (some (42, false))⟩,
 ⟨some 44, .bin .eql (.t 43) (.c (.v (.int .i64 0))), (some (42, false))⟩,
 ⟨some 45, .pick (.t 42) (.c (.v (.bool true))) (.t 44), none⟩] []) <|
 .keep [4, 6, 7, 10, 45] [[4]]) <|
 .cond (.t 45) (.seq (.seq (.reg [⟨some 46, .build [.v (.int .i64 0), .v (.int .i64 0), .v (.int .i64 0)] [], none⟩,
 ⟨none, .store 3 (.t 4) (.t 46), none⟩,
 ⟨some 5, .mov (.c (.v (.bool false))), none⟩] []) <|
 .keep [4, 5] [[4]]) <|
 .ret) <|
 .skip) <|
 .seq (.seq (.reg [⟨some 47, .mov (.t 6), none⟩,
 ⟨some 48, .mov (.t 7), none⟩,
 ⟨some 49, .call n_convex_gcd [(.t 47), (.t 48)] false, none⟩,
 ⟨some 50, .mov (.t 10), none⟩,
 ⟨some 51, .call n_convex_gcd [(.t 49), (.t 50)] false, none⟩,
 ⟨some 12, .mov (.t 51), none⟩] []) <|
 .keep [4, 6, 7, 10, 12] [[4]]) <|
 .seq (.seq (.reg [⟨some 52, .mov (.t 7), none⟩,
 ⟨some 53, .mov (.t 12), none⟩,
 ⟨some 54, .bin .quo (.t 52) (.t 53), none⟩,
 ⟨some 55, .mov (.t 6), none⟩,
 ⟨some 56, .un .neg (.t 55), none⟩,
 ⟨some 57, .mov (.t 12), none⟩,
 ⟨some 58, .bin .quo (.t 56) (.t 57), none⟩,
 ⟨some 59, .mov (.t 10), none⟩,
 ⟨some 60, .mov (.t 12), none⟩,
 ⟨some 61, .bin .quo (.t 59) (.t 60), none⟩,
 ⟨some 62, .build [.v (.int .i64 0), .v (.int .i64 0), .v (.int .i64 0)] [(0, 1, (.t 54)), (1, 1, (.t 58)), (2, 1, (.t 61))], none⟩,
 ⟨none, .store 3 (.t 4) (.t 62), none⟩,
 ⟨some 5, .mov (.c (.v (.bool true))), none⟩] []) <|
 .keep [4, 5] [[4]]) <|
 .ret, [.cell 4 (some 3), .t 5]⟩

def gantryref12_Next : CF := ⟨2, .seq (.seq (.reg [⟨some 4, .new [.v (.int .i64 0), .v (.int .i64 0)], none⟩] []) <|
 .keep [0, 1, 4] [[4]]) <|
 .seq (.seq (.seq (.reg [⟨some 5, .mov (.t 1), none⟩,
 ⟨some 6, .bin .add (.t 5) (.c (.v (.int .i64 1))), none⟩,
 ⟨some 7, .mov (.t 0), none⟩,
 ⟨some 8, .len (.t 7), none⟩,
 ⟨some 9, .bin .lss (.t 6) (.t 8), none⟩] []) <|
 .keep [0, 1, 4, 9] [[4]]) <|
 .cond (.t 9) (.seq (.seq (.reg [⟨some 10, .mov (.t 0), none⟩,
 ⟨some 11, .mov (.t 1), none⟩,
 ⟨some 12, .bin .add (.t 11) (.c (.v (.int .i64 1))), none⟩,
 ⟨some 13, .ixa 2 (.t 10) (.t 12), none⟩,
 ⟨some 14, .load (some 2) (.t 13), none⟩,
 ⟨none, .store 2 (.t 4) (.t 14), none⟩] []) <|
 .keep [4] [[4]]) <|
 .ret) <|
 .skip) <|
 .seq (.seq (.reg [⟨some 15, .mov (.t 0), none⟩,
 ⟨some 16, .ixa 2 (.t 15) (.c (.v (.int .i64 0))), none⟩,
 ⟨some 17, .load (some 2) (.t 16), none⟩,
 ⟨none, .store 2 (.t 4) (.t 17), none⟩] []) <|
 .keep [4] [[4]]) <|
 .ret, [.cell 4 (some 2)]⟩

def gantryref12_SameEdges_l0 : C :=
 .seq (.seq (.seq (.seq (.reg [⟨some 11, .mov (.t 5), none⟩,
 ⟨some 12, .mov (.t 0), none⟩,
 ⟨some 13, .len (.t 12), none⟩,
 ⟨some 14, .bin .lss (.t 11) (.t 13), none⟩] []) <|
 .keep [0, 1, 5, 14] []) <|
 .cond (.t 14) (.skip) <|
 .seq (.keep [] []) <|
 .exit 0) <|
 .seq (.seq (.blk 1 <|
 .seq (.seq (.reg [⟨some 17, .mov (.t 0), none⟩,
 ⟨some 18, .mov (.t 5), none⟩,
 ⟨some 19, .ixa 4 (.t 17) (.t 18), none⟩,
 ⟨some 20, .load (some 4) (.t 19), none⟩,
 ⟨some 21, .mov (.t 1), none⟩,
 ⟨some 22, .mov (.t 5), none⟩,
 ⟨some 23, .ixa 4 (.t 21) (.t 22), none⟩,
 ⟨some 24, .load (some 4) (.t 23), none⟩,
 ⟨some 25, .eqs 4 true (.t 20) (.t 24), none⟩] []) <|
 .keep [0, 1, 5, 25] []) <|
 .cond (.t 25) (.seq (.seq (.reg [⟨some 4, .mov (.c (.v (.bool false))), none⟩] []) <|
 .keep [4] []) <|
 .ret) <|
 .skip) <|
 .keep [0, 1, 5] []) <|
 .seq (.reg [⟨some 15, .mov (.t 5), none⟩,
 ⟨some 16, .bin .add (.t 15) (.c (.v (.int .i64 1))), none⟩,
 ⟨some 5, .mov (.t 16), none⟩] []) <|
 .keep [0, 1, 5] []) <|
 .keep [0, 1, 5] []
def gantryref12_SameEdges : CF := ⟨2, .seq (.seq (.reg [⟨some 4, .mov (.c (.v (.bool false))), none⟩] []) <|
 .keep [0, 1] []) <|
 .seq (.seq (.seq (.reg [⟨some 6, .mov (.t 0), none⟩,
 ⟨some 7, .len (.t 6), none⟩,
 ⟨some 8, .mov (.t 1), none⟩,
 ⟨some 9, .len (.t 8), none⟩,
 ⟨some 10, .bin .neq (.t 7) (.t 9), none⟩] []) <|
 .keep [0, 1, 10] []) <|
 .cond (.t 10) (.seq (.seq (.reg [⟨some 4, .mov (.c (.v (.bool false))), none⟩] []) <|
 .keep [4] []) <|
 .ret) <|
 .skip) <|
 .seq (.seq (.seq (.reg [⟨some 5, .mov (.c (.v (.int .i64 0))), none⟩] []) <|
 .keep [0, 1, 5] []) <|
 .seq (.blk 0 <|
 .seq (.keep [0, 1, 5] []) <|
 .loop gantryref12_SameEdges_l0) <|
 .keep [] []) <|
 .seq (.seq (.reg [⟨some 4, .mov (.c (.v (.bool true))), none⟩] []) <|
 .keep [4] []) <|
 .ret, [.t 4]⟩
end Go.AM

