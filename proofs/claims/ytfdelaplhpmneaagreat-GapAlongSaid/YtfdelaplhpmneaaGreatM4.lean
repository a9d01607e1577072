/- Part 4 of the proof: a small machine, its soundness against the model, and what the program's functions compute on it. -/
import Derived.Test.YtfdelaplhpmneaaGreatM0
import Derived.Test.YtfdelaplhpmneaaGreatProg
import Derived.KernelRfl
import Derived.Test.YtfdelaplhpmneaaGreatM3
set_option linter.unusedVariables false
set_option linter.unusedSimpArgs false
set_option maxRecDepth 100000
namespace Go.AM
open Go Go.Proofs
abbrev n_gantrylaw13_GapFinds : Nat := 3
abbrev n_gantrylaw13_GapAlong : Nat := 4
abbrev n_gantrylaw13_GapStays : Nat := 5
abbrev n_gantrylaw13_GapKeeps : Nat := 6
abbrev n_gantrylaw13_GapTouches : Nat := 7
abbrev n_gantryref12_Shape : Nat := 8
abbrev n_gantryref12_Sides : Nat := 9
abbrev n_gantryref12_Vec : Nat := 10
abbrev n_gantryref01_At : Nat := 11
abbrev n_gantryref13_Touch : Nat := 12
abbrev n_gantryref13_Times : Nat := 13
abbrev n_gantryref05_Of : Nat := 14
abbrev n_gap_Free : Nat := 15
abbrev n_gantryref13_Free : Nat := 16
abbrev n_gap_Contact : Nat := 17
abbrev n_gantryref13_Contact : Nat := 18
abbrev n_gantryref13_Plus : Nat := 19
abbrev n_gap_Best : Nat := 20
abbrev n_gantryref13_Best : Nat := 21
abbrev n_gap_Meet : Nat := 22
abbrev n_gantryref13_Meet : Nat := 23
abbrev n_gantrylaw13_lives : Nat := 24
abbrev n_gap_Along : Nat := 25
abbrev n_gantryref05_Same : Nat := 26
abbrev n_gap_Gap : Nat := 27
abbrev n_gantryref13_Gap : Nat := 28
abbrev n_gantryref06_Same : Nat := 29
abbrev n_gantryref13_Along : Nat := 30
abbrev n_rat_Add : Nat := 31
abbrev n_gantryref13_Rate : Nat := 32
abbrev n_rat_Same : Nat := 33
abbrev n_poly_Eval : Nat := 34
abbrev n_rat_Of : Nat := 35
abbrev n_gantryref06_Small : Nat := 36
abbrev n_gantryref06_Trim : Nat := 37
abbrev n_gantryref06_Mul : Nat := 38
abbrev n_gantryref06_Sub : Nat := 39
abbrev n_gantryref01_Around : Nat := 40
abbrev n_gantryref06_Scale : Nat := 41
abbrev n_gap_Stays : Nat := 42
abbrev n_gantryref13_Stays : Nat := 43
abbrev n_sturm_Stays : Nat := 44
abbrev n_convex_Sides : Nat := 45
abbrev n_convex_Sum : Nat := 46
abbrev n_rat_Mul : Nat := 47
abbrev n_rat_Sign : Nat := 48
abbrev n_convex_Has : Nat := 49
abbrev n_gantryref12_Move : Nat := 50
abbrev n_gantryref12_Norm : Nat := 51
abbrev n_gantryref12_Next : Nat := 52
abbrev n_gantryref12_Turn : Nat := 53
abbrev n_gantryref12_Most : Nat := 54
abbrev n_gantryref12_Sum : Nat := 55
abbrev n_gantryref13_Minus : Nat := 56
abbrev n_gantryref05_Mul : Nat := 57
abbrev n_gantryref05_Make : Nat := 58
abbrev n_gantryref04_Of : Nat := 59
abbrev n_slices_IndexFunc_api_Edge_api_Edge : Nat := 60
abbrev n_gap_Free_1 : Nat := 61
abbrev n_gap_Contact_1 : Nat := 62
abbrev n_gap_rate : Nat := 63
abbrev n_slices_ContainsFunc_api_Edge_api_Edge : Nat := 64
abbrev n_gap_greatest_api_Edge : Nat := 65
abbrev n_gap_Contact_2 : Nat := 66
abbrev n_gantryref05_Sign : Nat := 67
abbrev n_gantryref05_Compare : Nat := 68
abbrev n_gantryref05_Add : Nat := 69
abbrev n_gap_Best_1 : Nat := 70
abbrev n_gap_Meet_1 : Nat := 71
abbrev n_gantrylaw13_vec : Nat := 72
abbrev n_poly_Trim : Nat := 73
abbrev n_gantryref04_Same : Nat := 74
abbrev n_rat_Sub : Nat := 75
abbrev n_gantryref05_Div : Nat := 76
abbrev n_gantryref05_Sub : Nat := 77
abbrev n_gantryref12_Dot : Nat := 78
abbrev n_integer_Add : Nat := 79
abbrev n_rat_Den : Nat := 80
abbrev n_rat_Make : Nat := 81
abbrev n_integer_Mul : Nat := 82
abbrev n_rat_Same_1 : Nat := 83
abbrev n_slices_Equal_int_int : Nat := 84
abbrev n_slices_Backward_api_Poly_api_Rat : Nat := 85
abbrev n_integer_Of : Nat := 86
abbrev n_gantryref06_Add : Nat := 87
abbrev n_rat_Div : Nat := 88
abbrev n_rat_Neg : Nat := 89
abbrev n_rat_Compare : Nat := 90
abbrev n_gantryref07_Stays : Nat := 91
abbrev n_sturm_Stays_1 : Nat := 92
abbrev n_sturm_odd : Nat := 93
abbrev n_sturm_Count : Nat := 94
abbrev n_sturm_middle : Nat := 95
abbrev n_convex_Sides_1 : Nat := 96
abbrev n_convex_Sides_1_1 : Nat := 97
abbrev n_convex_Most : Nat := 98
abbrev n_convex_turned : Nat := 99
abbrev n_convex_Norm : Nat := 100
abbrev n_convex_next : Nat := 101
abbrev n_slices_MinFunc_api_Point_api_Point : Nat := 102
abbrev n_convex_Sum_1 : Nat := 103
abbrev n_cmp_Or_int : Nat := 104
abbrev n_cmp_Compare_int : Nat := 105
abbrev n_convex_cross : Nat := 106
abbrev n_convex_far : Nat := 107
abbrev n_rat_lowest : Nat := 108
abbrev n_integer_Sign : Nat := 109
abbrev n_gantryref04_Root : Nat := 110
abbrev n_gantryref04_Small : Nat := 111
abbrev n_gantryref12_divisor : Nat := 112
abbrev n_gantryref12_size : Nat := 113
abbrev n_gantryref12_Left : Nat := 114
abbrev n_gantryref04_Mul : Nat := 115
abbrev n_gantryref05_Den : Nat := 116
abbrev n_gantryref04_Gcd : Nat := 117
abbrev n_gantryref04_Div : Nat := 118
abbrev n_gantryref04_Neg : Nat := 119
abbrev n_gantryref05_one : Nat := 120
abbrev n_gantryref04_normal : Nat := 121
abbrev n_gantryref04_Sign : Nat := 122
abbrev n_gantryref04_Compare : Nat := 123
abbrev n_gantryref04_Add : Nat := 124
abbrev n_slices_Clone_api_Poly_api_Rat : Nat := 125
abbrev n_gantryref05_Neg : Nat := 126
abbrev n_integer_of : Nat := 127
abbrev n_integer_plus : Nat := 128
abbrev n_integer_compare : Nat := 129
abbrev n_integer_minus : Nat := 130
abbrev n_rat_one : Nat := 131
abbrev n_integer_Gcd : Nat := 132
abbrev n_rat_unit : Nat := 133
abbrev n_integer_Div : Nat := 134
abbrev n_integer_unsigned : Nat := 135
abbrev n_slices_Backward_api_Poly_api_Rat_1 : Nat := 136
abbrev n_gantryref06_At : Nat := 137
abbrev n_integer_Neg : Nat := 138
abbrev n_integer_Compare : Nat := 139
abbrev n_gantryref06_Eval : Nat := 140
abbrev n_gantryref06_Derive : Nat := 141
abbrev n_gantryref07_Chain : Nat := 142
abbrev n_gantryref06_Gcd : Nat := 143
abbrev n_gantryref07_within : Nat := 144
abbrev n_gantryref07_counted : Nat := 145
abbrev n_gantryref07_halved : Nat := 146
abbrev n_poly_Free : Nat := 147
abbrev n_poly_Div : Nat := 148
abbrev n_poly_Gcd : Nat := 149
abbrev n_poly_Mul : Nat := 150
abbrev n_sturm_counted : Nat := 151
abbrev n_sturm_Chain : Nat := 152
abbrev n_convex_dot : Nat := 153
abbrev n_slices_MaxFunc_api_Point_api_Point : Nat := 154
abbrev n_convex_Most_1 : Nat := 155
abbrev n_integer_Root : Nat := 156
abbrev n_integer_Small : Nat := 157
abbrev n_convex_gcd : Nat := 158
abbrev n_cmp_isNaN_int : Nat := 159
abbrev n_gantryref04_tiny : Nat := 160
abbrev n_gantryref04_divided : Nat := 161
abbrev n_gantryref04_minus : Nat := 162
abbrev n_gantryref04_compared : Nat := 163
abbrev n_gantryref04_plus : Nat := 164
abbrev n_integer_two : Nat := 165
abbrev n_integer_divide : Nat := 166
abbrev n_gantryref06_Free : Nat := 167
abbrev n_gantryref06_Div : Nat := 168
abbrev n_gantryref06_Monic : Nat := 169
abbrev n_gantryref07_Middle : Nat := 170
abbrev n_gantryref07_Changes : Nat := 171
abbrev n_poly_Derive : Nat := 172
abbrev n_poly_monic : Nat := 173
abbrev n_poly_made : Nat := 174
abbrev n_poly_Mul_1 : Nat := 175
abbrev n_sturm_Changes : Nat := 176
abbrev n_sturm_next : Nat := 177
abbrev n_gantryref04_digit : Nat := 178
abbrev n_gantryref04_times : Nat := 179
abbrev n_integer_short : Nat := 180
abbrev n_integer_long : Nat := 181
abbrev n_poly_Derive_1 : Nat := 182
abbrev n_poly_Scale : Nat := 183
abbrev n_integer_scaled : Nat := 184
abbrev n_poly_Scale_1 : Nat := 185
abbrev n_runtime_boundsError_Error : Nat := 186
abbrev n_runtime_boundsError_RuntimeError : Nat := 187
abbrev n_runtime_errorString_Error : Nat := 188
abbrev n_runtime_errorString_RuntimeError : Nat := 189
abbrev n_runtime_plainError_Error : Nat := 190
abbrev n_runtime_plainError_RuntimeError : Nat := 191
abbrev n_runtime_errorAddressString_Error : Nat := 192
abbrev n_runtime_errorAddressString_RuntimeError : Nat := 193
abbrev n_runtime_TypeAssertionError_Error : Nat := 194
abbrev n_runtime_TypeAssertionError_RuntimeError : Nat := 195
abbrev n_runtime_PanicNilError_Error : Nat := 196
abbrev n_runtime_PanicNilError_RuntimeError : Nat := 197
abbrev n_internal_abi_Type_Align : Nat := 198
abbrev n_internal_runtime_maps_unhashableTypeError_Error : Nat := 199
abbrev n_internal_runtime_maps_unhashableTypeError_RuntimeError : Nat := 200
abbrev n_internal_abi_Kind_String : Nat := 201

def gantrylaw13_GapFinds_l0 : C :=
 .seq (.seq (.seq (.seq (.reg [⟨some 75, .mov (.t 20), none⟩,
 ⟨some 76, .mov (.t 17), none⟩,
 ⟨some 77, .len (.t 76), none⟩,
 ⟨some 78, .bin .lss (.t 75) (.t 77), none⟩] []) <|
 .keep [13, 14, 15, 16, 17, 18, 19, 20, 78] [[14], [15], [19]]) <|
 .cond (.t 78) (.skip) <|
 .seq (.keep [13, 14, 15, 16, 17, 18] [[14], [15]]) <|
 .exit 2) <|
 .seq (.seq (.blk 3 <|
 .seq (.seq (.seq (.reg [⟨some 81, .mov (.t 13), none⟩,
 ⟨some 82, .load (some 8) (.t 19), none⟩,
 ⟨some 83, .mov (.t 17), none⟩,
 ⟨some 84, .mov (.t 20), none⟩,
 ⟨some 85, .ixa 8 (.t 83) (.t 84), none⟩,
 ⟨some 86, .load (some 8) (.t 85), none⟩,
 ⟨some 87, .load (some 8) (.t 15), none⟩,
 ⟨some 88, .call n_gap_Free [(.t 81), (.t 82), (.t 86), (.t 87)] false, none⟩,
 ⟨some 89, .mov (.t 13), none⟩,
 ⟨some 90, .load (some 8) (.t 19), none⟩,
 ⟨some 91, .mov (.t 17), none⟩,
 ⟨some 92, .mov (.t 20), none⟩,
 ⟨some 93, .ixa 8 (.t 91) (.t 92), none⟩,
 ⟨some 94, .load (some 8) (.t 93), none⟩,
 ⟨some 95, .load (some 8) (.t 15), none⟩,
 ⟨some 96, .call n_gantryref13_Free [(.t 89), (.t 90), (.t 94), (.t 95)] false, none⟩,
 ⟨some 97, .bin .neq (.t 88) (.t 96), none⟩,
 ⟨some 98, .mov (.t 97), none⟩,
 ⟨some 99, .mov (.t 13), (some (98, false))⟩,
 ⟨some 100, .load (some 8) (.t 19), (some (98, false))⟩,
 ⟨some 101, .mov (.t 17), (some (98, false))⟩,
 ⟨some 102, .mov (.t 20), (some (98, false))⟩,
 ⟨some 103, .ixa 8 (.t 101) (.t 102), (some (98, false))⟩,
 ⟨some 104, .load (some 8) (.t 103), (some (98, false))⟩,
 ⟨some 105, .call n_gap_Contact [(.t 99), (.t 100), (.t 104)] false, (some (98, false))⟩,
 ⟨some 106, .mov (.t 13), (some (98, false))⟩,
 ⟨some 107, .load (some 8) (.t 19), (some (98, false))⟩,
 ⟨some 108, .mov (.t 17), (some (98, false))⟩,
 ⟨some 109, .mov (.t 20), (some (98, false))⟩,
 ⟨some 110, .ixa 8 (.t 108) (.t 109), (some (98, false))⟩,
 ⟨some 111, .load (some 8) (.t 110), (some (98, false))⟩,
 ⟨some 112, .call n_gantryref13_Contact [(.t 106), (.t 107), (.t 111)] false, (some (98, false))⟩,
 ⟨some 113, .bin .neq (.t 105) (.t 112), (some (98, false))⟩,
 ⟨some 114, .pick (.t 98) (.c (.v (.bool true))) (.t 113), none⟩] []) <|
 .keep [13, 14, 15, 16, 17, 18, 19, 20, 114] [[14], [15], [19]]) <|
 .cond (.t 114) (.seq (.seq (.reg [⟨some 10, .mov (.c (.v (.bool false))), none⟩] []) <|
 .keep [10] []) <|
 .ret) <|
 .skip) <|
 .seq (.seq (.reg [⟨some 115, .load (some 8) (.t 19), none⟩,
 ⟨some 116, .mov (.t 17), none⟩,
 ⟨some 117, .mov (.t 20), none⟩,
 ⟨some 118, .ixa 8 (.t 116) (.t 117), none⟩,
 ⟨some 119, .load (some 8) (.t 118), none⟩,
 ⟨some 120, .call n_gantryref13_Plus [(.t 115), (.t 119)] false, none⟩,
 ⟨some 21, .new [.v (.bool false), .z true, .v (.bool false), .z true, .v (.bool false), .z true, .v (.bool false), .z true], none⟩,
 ⟨none, .store 8 (.t 21) (.t 120), none⟩] []) <|
 .keep [13, 14, 15, 16, 17, 18, 19, 20, 21] [[14], [15], [19], [21]]) <|
 .seq (.seq (.reg [⟨some 121, .mov (.t 13), none⟩,
 ⟨some 122, .load (some 8) (.t 19), none⟩,
 ⟨some 123, .load (some 8) (.t 21), none⟩,
 ⟨some 124, .call n_gap_Best [(.t 121), (.t 122), (.t 123)] false, none⟩,
 ⟨some 125, .mov (.t 13), none⟩,
 ⟨some 126, .load (some 8) (.t 19), none⟩,
 ⟨some 127, .load (some 8) (.t 21), none⟩,
 ⟨some 128, .call n_gantryref13_Best [(.t 125), (.t 126), (.t 127)] false, none⟩,
 ⟨some 129, .bin .neq (.t 124) (.t 128), none⟩,
 ⟨some 130, .mov (.t 129), none⟩,
 ⟨some 131, .mov (.t 13), (some (130, false))⟩,
 ⟨some 132, .load (some 8) (.t 21), (some (130, false))⟩,
 ⟨some 133, .call n_gap_Meet [(.t 131), (.t 132)] false, (some (130, false))⟩,
 ⟨some 134, .mov (.t 13), (some (130, false))⟩,
 ⟨some 135, .load (some 8) (.t 21), (some (130, false))⟩,
 ⟨some 136, .call n_gantryref13_Meet [(.t 134), (.t 135)] false, (some (130, false))⟩,
 ⟨some 137, .binb true (.t 133) (.t 136), (some (130, false))⟩,
 ⟨some 138, .pick (.t 130) (.c (.v (.bool true))) (.t 137), none⟩] []) <|
 .keep [13, 14, 15, 16, 17, 18, 19, 20, 138] [[14], [15], [19]]) <|
 .cond (.t 138) (.seq (.seq (.reg [⟨some 10, .mov (.c (.v (.bool false))), none⟩] []) <|
 .keep [10] []) <|
 .ret) <|
 .skip) <|
 .keep [13, 14, 15, 16, 17, 18, 19, 20] [[14], [15], [19]]) <|
 .seq (.reg [⟨some 79, .mov (.t 20), none⟩,
 ⟨some 80, .bin .add (.t 79) (.c (.v (.int .i64 1))), none⟩,
 ⟨some 20, .mov (.t 80), none⟩] []) <|
 .keep [13, 14, 15, 16, 17, 18, 19, 20] [[14], [15], [19]]) <|
 .keep [13, 14, 15, 16, 17, 18, 19, 20] [[14], [15], [19]]
def gantrylaw13_GapFinds_l1 : C :=
 .seq (.seq (.seq (.seq (.reg [⟨some 67, .mov (.t 18), none⟩,
 ⟨some 68, .bin .lss (.t 67) (.c (.v (.int .i64 3))), none⟩] []) <|
 .keep [13, 14, 15, 16, 17, 18, 68] [[14], [15]]) <|
 .cond (.t 68) (.skip) <|
 .seq (.keep [14] [[14]]) <|
 .exit 0) <|
 .seq (.seq (.blk 1 <|
 .seq (.seq (.reg [⟨some 71, .mov (.t 16), none⟩,
 ⟨some 72, .mov (.t 18), none⟩,
 ⟨some 73, .ixa 8 (.t 71) (.t 72), none⟩,
 ⟨some 74, .load (some 8) (.t 73), none⟩,
 ⟨some 19, .new [.v (.bool false), .z true, .v (.bool false), .z true, .v (.bool false), .z true, .v (.bool false), .z true], none⟩,
 ⟨none, .store 8 (.t 19) (.t 74), none⟩] []) <|
 .keep [13, 14, 15, 16, 17, 18, 19] [[14], [15], [19]]) <|
 .seq (.seq (.reg [⟨some 20, .mov (.c (.v (.int .i64 0))), none⟩] []) <|
 .keep [13, 14, 15, 16, 17, 18, 19, 20] [[14], [15], [19]]) <|
 .seq (.blk 2 <|
 .seq (.keep [13, 14, 15, 16, 17, 18, 19, 20] [[14], [15], [19]]) <|
 .loop gantrylaw13_GapFinds_l0) <|
 .keep [13, 14, 15, 16, 17, 18] [[14], [15]]) <|
 .keep [13, 14, 15, 16, 17, 18] [[14], [15]]) <|
 .seq (.reg [⟨some 69, .mov (.t 18), none⟩,
 ⟨some 70, .bin .add (.t 69) (.c (.v (.int .i64 1))), none⟩,
 ⟨some 18, .mov (.t 70), none⟩] []) <|
 .keep [13, 14, 15, 16, 17, 18] [[14], [15]]) <|
 .keep [13, 14, 15, 16, 17, 18] [[14], [15]]
def gantrylaw13_GapFinds : CF := ⟨5, .seq (.seq (.reg [⟨some 10, .mov (.c (.v (.bool false))), none⟩] []) <|
 .keep [0, 1, 2, 3, 4] []) <|
 .seq (.seq (.reg [⟨some 22, .mov (.t 0), none⟩,
 ⟨some 23, .call n_gantryref12_Shape [(.t 22)] false, none⟩,
 ⟨some 11, .mov (.t 23), none⟩] []) <|
 .keep [1, 2, 3, 4, 11] []) <|
 .seq (.seq (.reg [⟨some 24, .mov (.t 1), none⟩,
 ⟨some 25, .call n_gantryref12_Shape [(.t 24)] false, none⟩,
 ⟨some 12, .mov (.t 25), none⟩] []) <|
 .keep [2, 3, 4, 11, 12] []) <|
 .seq (.seq (.reg [⟨some 26, .mov (.t 11), none⟩,
 ⟨some 27, .mov (.t 12), none⟩,
 ⟨some 28, .call n_gantryref12_Sides [(.t 26), (.t 27)] false, none⟩,
 ⟨some 13, .mov (.t 28), none⟩] []) <|
 .keep [2, 3, 4, 11, 12, 13] []) <|
 .seq (.seq (.reg [⟨some 29, .mov (.t 2), none⟩,
 ⟨some 30, .call n_gantryref01_At [(.t 29), (.c (.v (.int .i64 2))), (.c (.v (.int .i64 96)))] false, none⟩,
 ⟨some 31, .mov (.t 2), none⟩,
 ⟨some 32, .call n_gantryref01_At [(.t 31), (.c (.v (.int .i64 3))), (.c (.v (.int .i64 96)))] false, none⟩,
 ⟨some 33, .call n_gantryref12_Vec [(.t 30), (.t 32)] false, none⟩,
 ⟨some 14, .new [.v (.bool false), .z true, .v (.bool false), .z true, .v (.bool false), .z true, .v (.bool false), .z true], none⟩,
 ⟨none, .store 8 (.t 14) (.t 33), none⟩] []) <|
 .keep [2, 3, 4, 11, 12, 13, 14] [[14]]) <|
 .seq (.seq (.reg [⟨some 34, .mov (.t 2), none⟩,
 ⟨some 35, .call n_gantryref01_At [(.t 34), (.c (.v (.int .i64 4))), (.c (.v (.int .i64 96)))] false, none⟩,
 ⟨some 36, .mov (.t 2), none⟩,
 ⟨some 37, .call n_gantryref01_At [(.t 36), (.c (.v (.int .i64 5))), (.c (.v (.int .i64 96)))] false, none⟩,
 ⟨some 38, .call n_gantryref12_Vec [(.t 35), (.t 37)] false, none⟩,
 ⟨some 15, .new [.v (.bool false), .z true, .v (.bool false), .z true, .v (.bool false), .z true, .v (.bool false), .z true], none⟩,
 ⟨none, .store 8 (.t 15) (.t 38), none⟩] []) <|
 .keep [2, 3, 4, 11, 12, 13, 14, 15] [[14], [15]]) <|
 .seq (.seq (.reg [⟨some 39, .mov (.t 2), none⟩,
 ⟨some 40, .call n_gantryref01_At [(.t 39), (.c (.v (.int .i64 0))), (.c (.v (.int .i64 96)))] false, none⟩,
 ⟨some 41, .mov (.t 2), none⟩,
 ⟨some 42, .call n_gantryref01_At [(.t 41), (.c (.v (.int .i64 1))), (.c (.v (.int .i64 96)))] false, none⟩,
 ⟨some 43, .call n_gantryref12_Vec [(.t 40), (.t 42)] false, none⟩,
 ⟨some 44, .mov (.t 11), none⟩,
 ⟨some 45, .mov (.t 12), none⟩,
 ⟨some 46, .mov (.t 3), none⟩,
 ⟨some 47, .mov (.t 4), none⟩,
 ⟨some 48, .call n_gantryref13_Touch [(.t 44), (.t 45), (.t 46), (.t 47)] false, none⟩,
 ⟨some 49, .mov (.t 11), none⟩,
 ⟨some 50, .mov (.t 12), none⟩,
 ⟨some 51, .mov (.t 4), none⟩,
 ⟨some 52, .mov (.t 3), none⟩,
 ⟨some 53, .call n_gantryref13_Touch [(.t 49), (.t 50), (.t 51), (.t 52)] false, none⟩,
 ⟨some 54, .lit 8 3 [.v (.bool false), .z true, .v (.bool false), .z true, .v (.bool false), .z true, .v (.bool false), .z true] [(0, (.t 43)), (1, (.t 48)), (2, (.t 53))] true, none⟩,
 ⟨some 16, .mov (.t 54), none⟩] []) <|
 .keep [13, 14, 15, 16] [[14], [15]]) <|
 .seq (.seq (.reg [⟨some 55, .load (some 8) (.t 14), none⟩,
 ⟨some 56, .build [.v (.bool false), .z true, .v (.bool false), .z true, .v (.bool false), .z true, .v (.bool false), .z true] [], none⟩,
 ⟨some 57, .call n_gantryref05_Of [(.c (.v (.int .i64 1))), (.c (.v (.int .i64 8)))] false, none⟩,
 ⟨some 58, .load (some 8) (.t 14), none⟩,
 ⟨some 59, .call n_gantryref13_Times [(.t 57), (.t 58)] false, none⟩,
 ⟨some 60, .fad 0 (.t 14), none⟩,
 ⟨some 61, .load (some 4) (.t 60), none⟩,
 ⟨some 62, .build [.v (.bool false), .z true, .v (.bool false), .z true, .v (.bool false), .z true, .v (.bool false), .z true] [(0, 4, (.t 61))], none⟩,
 ⟨some 63, .fad 4 (.t 14), none⟩,
 ⟨some 64, .load (some 4) (.t 63), none⟩,
 ⟨some 65, .build [.v (.bool false), .z true, .v (.bool false), .z true, .v (.bool false), .z true, .v (.bool false), .z true] [(4, 4, (.t 64))], none⟩,
 ⟨some 66, .lit 8 5 [.v (.bool false), .z true, .v (.bool false), .z true, .v (.bool false), .z true, .v (.bool false), .z true] [(0, (.t 55)), (1, (.t 56)), (2, (.t 59)), (3, (.t 62)), (4, (.t 65))] true, none⟩,
 ⟨some 17, .mov (.t 66), none⟩] []) <|
 .keep [13, 14, 15, 16, 17] [[14], [15]]) <|
 .seq (.seq (.seq (.reg [⟨some 18, .mov (.c (.v (.int .i64 0))), none⟩] []) <|
 .keep [13, 14, 15, 16, 17, 18] [[14], [15]]) <|
 .seq (.blk 0 <|
 .seq (.keep [13, 14, 15, 16, 17, 18] [[14], [15]]) <|
 .loop gantrylaw13_GapFinds_l1) <|
 .keep [14] [[14]]) <|
 .seq (.seq (.reg [⟨some 139, .load (some 8) (.t 14), none⟩,
 ⟨some 140, .call n_gap_Meet [(.c (.z true)), (.t 139)] false, none⟩,
 ⟨some 141, .mov (.t 140), none⟩,
 ⟨some 142, .load (some 8) (.t 14), (some (141, true))⟩,
 ⟨some 143, .load (some 8) (.t 14), (some (141, true))⟩,
 ⟨some 144, .load (some 8) (.t 14), (some (141, true))⟩,
 ⟨some 145, .call n_gap_Free [(.c (.z true)), (.t 142), (.t 143), (.t 144)] false, (some (141, true))⟩,
 ⟨some 146, .bin .eql (.t 145) (.c (.v (.int .i64 (-1)))), (some (141, true))⟩,
 ⟨some 147, .pick (.t 141) (.t 146) (.c (.v (.bool false))), none⟩,
 ⟨some 148, .mov (.t 147), none⟩,
 ⟨some 149, .load (some 8) (.t 14), (some (148, true))⟩,
 ⟨some 150, .load (some 8) (.t 14), (some (148, true))⟩,
 ⟨some 151, .call n_gap_Best [(.c (.z true)), (.t 149), (.t 150)] false, (some (148, true))⟩,
 ⟨some 152, .bin .eql (.t 151) (.c (.v (.int .i64 (-1)))), (some (148, true))⟩,
 ⟨some 153, .pick (.t 148) (.t 152) (.c (.v (.bool false))), none⟩,
 ⟨some 154, .mov (.t 153), none⟩,
 ⟨some 155, .load (some 8) (.t 14), (some (154, true))⟩,
 ⟨some 156, .load (some 8) (.t 14), (some (154, true))⟩,
 ⟨some 157, .call n_gap_Contact [(.c (.z true)), (.t 155), (.t 156)] false, (some (154, true))⟩,
 ⟨some 158, .bin .eql (.t 157) (.c (.v (.int .i64 (-1)))), (some (154, true))⟩,
 ⟨some 159, .pick (.t 154) (.t 158) (.c (.v (.bool false))), none⟩,
 ⟨some 160, .mov (.t 159), none⟩,
 ⟨some 161, .call n_gantrylaw13_lives [] false, (some (160, true))⟩,
 ⟨some 162, .pick (.t 160) (.t 161) (.c (.v (.bool false))), none⟩,
 ⟨some 10, .mov (.t 162), none⟩] []) <|
 .keep [10] []) <|
 .ret, [.t 10]⟩

def gantrylaw13_GapAlong_l0 : C :=
 .seq (.seq (.seq (.seq (.reg [⟨some 43, .mov (.t 12), none⟩,
 ⟨some 44, .mov (.t 7), none⟩,
 ⟨some 45, .len (.t 44), none⟩,
 ⟨some 46, .bin .lss (.t 43) (.t 45), none⟩] []) <|
 .keep [7, 8, 9, 10, 11, 12, 46] [[8], [9], [10], [11]]) <|
 .cond (.t 46) (.skip) <|
 .seq (.keep [] []) <|
 .exit 0) <|
 .seq (.seq (.blk 1 <|
 .seq (.seq (.reg [⟨some 49, .mov (.t 7), none⟩,
 ⟨some 50, .mov (.t 12), none⟩,
 ⟨some 51, .ixa 4 (.t 49) (.t 50), none⟩,
 ⟨some 52, .load (some 4) (.t 51), none⟩,
 ⟨some 13, .new [.v (.int .i64 0), .v (.int .i64 0), .v (.int .i64 0), .v (.int .i64 0)], none⟩,
 ⟨none, .store 4 (.t 13) (.t 52), none⟩] []) <|
 .keep [7, 8, 9, 10, 11, 12, 13] [[8], [9], [10], [11], [13]]) <|
 .seq (.seq (.reg [⟨some 53, .load (some 4) (.t 13), none⟩,
 ⟨some 54, .load (some 8) (.t 8), none⟩,
 ⟨some 55, .load (some 8) (.t 9), none⟩,
 ⟨some 56, .load (some 8) (.t 10), none⟩,
 ⟨some 57, .call n_gap_Along [(.t 53), (.t 54), (.t 55), (.t 56)] false, none⟩,
 ⟨some 14, .mov (.t 57), none⟩] []) <|
 .keep [7, 8, 9, 10, 11, 12, 13, 14] [[8], [9], [10], [11], [13]]) <|
 .seq (.seq (.seq (.reg [⟨some 58, .load (some 4) (.t 13), none⟩,
 ⟨some 59, .load (some 8) (.t 8), none⟩,
 ⟨some 60, .call n_gap_Gap [(.t 58), (.t 59)] false, none⟩,
 ⟨some 61, .load (some 4) (.t 13), none⟩,
 ⟨some 62, .load (some 8) (.t 8), none⟩,
 ⟨some 63, .call n_gantryref13_Gap [(.t 61), (.t 62)] false, none⟩,
 ⟨some 64, .call n_gantryref05_Same [(.t 60), (.t 63)] false, none⟩,
 ⟨some 65, .un .not (.t 64), none⟩,
 ⟨some 66, .mov (.t 65), none⟩,
 ⟨some 67, .mov (.t 14), (some (66, false))⟩,
 ⟨some 68, .load (some 4) (.t 13), (some (66, false))⟩,
 ⟨some 69, .load (some 8) (.t 8), (some (66, false))⟩,
 ⟨some 70, .load (some 8) (.t 9), (some (66, false))⟩,
 ⟨some 71, .load (some 8) (.t 10), (some (66, false))⟩,
 ⟨some 72, .call n_gantryref13_Along [(.t 68), (.t 69), (.t 70), (.t 71)] false, (some (66, false))⟩,
 ⟨some 73, .call n_gantryref06_Same [(.t 67), (.t 72)] false, (some (66, false))⟩,
 ⟨some 74, .un .not (.t 73), (some (66, false))⟩,
 ⟨some 75, .pick (.t 66) (.c (.v (.bool true))) (.t 74), none⟩] []) <|
 .keep [7, 8, 9, 10, 11, 12, 13, 14, 75] [[8], [9], [10], [11], [13]]) <|
 .cond (.t 75) (.seq (.seq (.reg [⟨some 6, .mov (.c (.v (.bool false))), none⟩] []) <|
 .keep [6] []) <|
 .ret) <|
 .skip) <|
 .seq (.seq (.reg [⟨some 76, .load (some 4) (.t 13), none⟩,
 ⟨some 77, .load (some 8) (.t 8), none⟩,
 ⟨some 78, .call n_gap_Gap [(.t 76), (.t 77)] false, none⟩,
 ⟨some 79, .load (some 4) (.t 13), none⟩,
 ⟨some 80, .load (some 8) (.t 9), none⟩,
 ⟨some 81, .call n_gantryref13_Rate [(.t 79), (.t 80)] false, none⟩,
 ⟨some 82, .call n_rat_Add [(.t 78), (.t 81)] false, none⟩,
 ⟨some 15, .new [.v (.bool false), .z true, .v (.bool false), .z true], none⟩,
 ⟨none, .store 4 (.t 15) (.t 82), none⟩] []) <|
 .keep [7, 8, 9, 10, 11, 12, 13, 14, 15] [[8], [9], [10], [11], [13], [15]]) <|
 .seq (.seq (.reg [⟨some 83, .load (some 4) (.t 13), none⟩,
 ⟨some 84, .load (some 8) (.t 8), none⟩,
 ⟨some 85, .load (some 8) (.t 9), none⟩,
 ⟨some 86, .call n_gantryref13_Plus [(.t 84), (.t 85)] false, none⟩,
 ⟨some 87, .call n_gap_Gap [(.t 83), (.t 86)] false, none⟩,
 ⟨some 88, .load (some 4) (.t 15), none⟩,
 ⟨some 89, .call n_rat_Same [(.t 87), (.t 88)] false, none⟩,
 ⟨some 90, .un .not (.t 89), none⟩,
 ⟨some 91, .mov (.t 90), none⟩,
 ⟨some 92, .mov (.t 14), (some (91, false))⟩,
 ⟨some 93, .build [.v (.bool false), .z true, .v (.bool false), .z true] [], (some (91, false))⟩,
 ⟨some 94, .call n_poly_Eval [(.t 92), (.t 93)] false, (some (91, false))⟩,
 ⟨some 95, .load (some 4) (.t 13), (some (91, false))⟩,
 ⟨some 96, .load (some 8) (.t 8), (some (91, false))⟩,
 ⟨some 97, .call n_gap_Gap [(.t 95), (.t 96)] false, (some (91, false))⟩,
 ⟨some 98, .call n_rat_Same [(.t 94), (.t 97)] false, (some (91, false))⟩,
 ⟨some 99, .un .not (.t 98), (some (91, false))⟩,
 ⟨some 100, .pick (.t 91) (.c (.v (.bool true))) (.t 99), none⟩,
 ⟨some 101, .mov (.t 100), none⟩,
 ⟨some 102, .mov (.t 14), (some (101, false))⟩,
 ⟨some 103, .call n_rat_Of [(.c (.v (.int .i64 1))), (.c (.v (.int .i64 1)))] false, (some (101, false))⟩,
 ⟨some 104, .call n_poly_Eval [(.t 102), (.t 103)] false, (some (101, false))⟩,
 ⟨some 105, .load (some 4) (.t 13), (some (101, false))⟩,
 ⟨some 106, .load (some 8) (.t 11), (some (101, false))⟩,
 ⟨some 107, .call n_gap_Gap [(.t 105), (.t 106)] false, (some (101, false))⟩,
 ⟨some 108, .call n_rat_Same [(.t 104), (.t 107)] false, (some (101, false))⟩,
 ⟨some 109, .un .not (.t 108), (some (101, false))⟩,
 ⟨some 110, .pick (.t 101) (.c (.v (.bool true))) (.t 109), none⟩] []) <|
 .keep [7, 8, 9, 10, 11, 12, 110] [[8], [9], [10], [11]]) <|
 .cond (.t 110) (.seq (.seq (.reg [⟨some 6, .mov (.c (.v (.bool false))), none⟩] []) <|
 .keep [6] []) <|
 .ret) <|
 .skip) <|
 .keep [7, 8, 9, 10, 11, 12] [[8], [9], [10], [11]]) <|
 .seq (.reg [⟨some 47, .mov (.t 12), none⟩,
 ⟨some 48, .bin .add (.t 47) (.c (.v (.int .i64 1))), none⟩,
 ⟨some 12, .mov (.t 48), none⟩] []) <|
 .keep [7, 8, 9, 10, 11, 12] [[8], [9], [10], [11]]) <|
 .keep [7, 8, 9, 10, 11, 12] [[8], [9], [10], [11]]
def gantrylaw13_GapAlong : CF := ⟨3, .seq (.seq (.reg [⟨some 6, .mov (.c (.v (.bool false))), none⟩] []) <|
 .keep [0, 1, 2] []) <|
 .seq (.seq (.reg [⟨some 16, .mov (.t 0), none⟩,
 ⟨some 17, .call n_gantryref12_Shape [(.t 16)] false, none⟩,
 ⟨some 18, .mov (.t 1), none⟩,
 ⟨some 19, .call n_gantryref12_Shape [(.t 18)] false, none⟩,
 ⟨some 20, .call n_gantryref12_Sides [(.t 17), (.t 19)] false, none⟩,
 ⟨some 7, .mov (.t 20), none⟩] []) <|
 .keep [2, 7] []) <|
 .seq (.seq (.reg [⟨some 21, .mov (.t 2), none⟩,
 ⟨some 22, .call n_gantryref01_At [(.t 21), (.c (.v (.int .i64 0))), (.c (.v (.int .i64 96)))] false, none⟩,
 ⟨some 23, .mov (.t 2), none⟩,
 ⟨some 24, .call n_gantryref01_At [(.t 23), (.c (.v (.int .i64 1))), (.c (.v (.int .i64 96)))] false, none⟩,
 ⟨some 25, .call n_gantryref12_Vec [(.t 22), (.t 24)] false, none⟩,
 ⟨some 8, .new [.v (.bool false), .z true, .v (.bool false), .z true, .v (.bool false), .z true, .v (.bool false), .z true], none⟩,
 ⟨none, .store 8 (.t 8) (.t 25), none⟩] []) <|
 .keep [2, 7, 8] [[8]]) <|
 .seq (.seq (.reg [⟨some 26, .mov (.t 2), none⟩,
 ⟨some 27, .call n_gantryref01_At [(.t 26), (.c (.v (.int .i64 2))), (.c (.v (.int .i64 96)))] false, none⟩,
 ⟨some 28, .mov (.t 2), none⟩,
 ⟨some 29, .call n_gantryref01_At [(.t 28), (.c (.v (.int .i64 3))), (.c (.v (.int .i64 96)))] false, none⟩,
 ⟨some 30, .call n_gantryref12_Vec [(.t 27), (.t 29)] false, none⟩,
 ⟨some 9, .new [.v (.bool false), .z true, .v (.bool false), .z true, .v (.bool false), .z true, .v (.bool false), .z true], none⟩,
 ⟨none, .store 8 (.t 9) (.t 30), none⟩] []) <|
 .keep [2, 7, 8, 9] [[8], [9]]) <|
 .seq (.seq (.reg [⟨some 31, .mov (.t 2), none⟩,
 ⟨some 32, .call n_gantryref01_At [(.t 31), (.c (.v (.int .i64 4))), (.c (.v (.int .i64 96)))] false, none⟩,
 ⟨some 33, .mov (.t 2), none⟩,
 ⟨some 34, .call n_gantryref01_At [(.t 33), (.c (.v (.int .i64 5))), (.c (.v (.int .i64 96)))] false, none⟩,
 ⟨some 35, .call n_gantryref12_Vec [(.t 32), (.t 34)] false, none⟩,
 ⟨some 10, .new [.v (.bool false), .z true, .v (.bool false), .z true, .v (.bool false), .z true, .v (.bool false), .z true], none⟩,
 ⟨none, .store 8 (.t 10) (.t 35), none⟩] []) <|
 .keep [7, 8, 9, 10] [[8], [9], [10]]) <|
 .seq (.seq (.reg [⟨some 36, .load (some 8) (.t 8), none⟩,
 ⟨some 37, .load (some 8) (.t 9), none⟩,
 ⟨some 38, .call n_gantryref13_Plus [(.t 36), (.t 37)] false, none⟩,
 ⟨some 39, .call n_gantryref05_Of [(.c (.v (.int .i64 1))), (.c (.v (.int .i64 2)))] false, none⟩,
 ⟨some 40, .load (some 8) (.t 10), none⟩,
 ⟨some 41, .call n_gantryref13_Times [(.t 39), (.t 40)] false, none⟩,
 ⟨some 42, .call n_gantryref13_Plus [(.t 38), (.t 41)] false, none⟩,
 ⟨some 11, .new [.v (.bool false), .z true, .v (.bool false), .z true, .v (.bool false), .z true, .v (.bool false), .z true], none⟩,
 ⟨none, .store 8 (.t 11) (.t 42), none⟩] []) <|
 .keep [7, 8, 9, 10, 11] [[8], [9], [10], [11]]) <|
 .seq (.seq (.seq (.reg [⟨some 12, .mov (.c (.v (.int .i64 0))), none⟩] []) <|
 .keep [7, 8, 9, 10, 11, 12] [[8], [9], [10], [11]]) <|
 .seq (.blk 0 <|
 .seq (.keep [7, 8, 9, 10, 11, 12] [[8], [9], [10], [11]]) <|
 .loop gantrylaw13_GapAlong_l0) <|
 .keep [] []) <|
 .seq (.seq (.reg [⟨some 111, .call n_gantrylaw13_lives [] false, none⟩,
 ⟨some 6, .mov (.t 111), none⟩] []) <|
 .keep [6] []) <|
 .ret, [.t 6]⟩

def gantrylaw13_GapStays_l0 : C :=
 .seq (.seq (.seq (.seq (.reg [⟨some 13, .mov (.t 6), none⟩,
 ⟨some 14, .mov (.t 0), none⟩,
 ⟨some 15, .len (.t 14), none⟩,
 ⟨some 16, .bin .lss (.t 13) (.t 15), none⟩,
 ⟨some 17, .mov (.t 16), none⟩,
 ⟨some 18, .mov (.t 6), (some (17, true))⟩,
 ⟨some 19, .bin .lss (.t 18) (.c (.v (.int .i64 3))), (some (17, true))⟩,
 ⟨some 20, .pick (.t 17) (.t 19) (.c (.v (.bool false))), none⟩] []) <|
 .keep [0, 1, 5, 6, 20] [[30]]) <|
 .cond (.t 20) (.skip) <|
 .seq (.keep [1, 5] [[30]]) <|
 .exit 0) <|
 .seq (.seq (.blk 1 <|
 .seq (.reg [⟨some 23, .mov (.t 5), none⟩,
 ⟨some 24, .mov (.t 0), none⟩,
 ⟨some 25, .mov (.t 6), none⟩,
 ⟨some 26, .ixa 1 (.t 24) (.t 25), none⟩,
 ⟨some 27, .load none (.t 26), none⟩,
 ⟨some 28, .call n_gantryref06_Small [(.t 27)] false, none⟩,
 ⟨some 29, .lit 4 1 [.v (.bool false), .z true, .v (.bool false), .z true] [(0, (.t 28))] true, none⟩,
 ⟨some 30, .app 4 64 (.t 23) (.t 29) false, none⟩,
 ⟨some 5, .mov (.t 30), none⟩] []) <|
 .keep [0, 1, 5, 6] [[30]]) <|
 .keep [0, 1, 5, 6] [[30]]) <|
 .seq (.reg [⟨some 21, .mov (.t 6), none⟩,
 ⟨some 22, .bin .add (.t 21) (.c (.v (.int .i64 1))), none⟩,
 ⟨some 6, .mov (.t 22), none⟩] []) <|
 .keep [0, 1, 5, 6] [[30]]) <|
 .keep [0, 1, 5, 6] [[30]]
def gantrylaw13_GapStays_l1 : C :=
 .seq (.seq (.seq (.seq (.reg [⟨some 61, .mov (.t 11), none⟩,
 ⟨some 62, .mov (.t 10), none⟩,
 ⟨some 63, .len (.t 62), none⟩,
 ⟨some 64, .bin .lss (.t 61) (.t 63), none⟩] []) <|
 .keep [10, 11, 64] []) <|
 .cond (.t 64) (.skip) <|
 .seq (.keep [] []) <|
 .exit 2) <|
 .seq (.seq (.blk 3 <|
 .seq (.seq (.reg [⟨some 67, .mov (.t 10), none⟩,
 ⟨some 68, .mov (.t 11), none⟩,
 ⟨some 69, .ixa 1 (.t 67) (.t 68), none⟩,
 ⟨some 70, .load none (.t 69), none⟩,
 ⟨some 71, .call n_gap_Stays [(.t 70)] false, none⟩,
 ⟨some 12, .mov (.t 71), none⟩] []) <|
 .keep [10, 11, 12] []) <|
 .seq (.seq (.reg [⟨some 72, .mov (.t 12), none⟩,
 ⟨some 73, .mov (.t 10), none⟩,
 ⟨some 74, .mov (.t 11), none⟩,
 ⟨some 75, .ixa 1 (.t 73) (.t 74), none⟩,
 ⟨some 76, .load none (.t 75), none⟩,
 ⟨some 77, .call n_gantryref13_Stays [(.t 76)] false, none⟩,
 ⟨some 78, .binb true (.t 72) (.t 77), none⟩,
 ⟨some 79, .mov (.t 78), none⟩,
 ⟨some 80, .mov (.t 12), (some (79, false))⟩,
 ⟨some 81, .mov (.t 10), (some (79, false))⟩,
 ⟨some 82, .mov (.t 11), (some (79, false))⟩,
 ⟨some 83, .ixa 1 (.t 81) (.t 82), (some (79, false))⟩,
 ⟨some 84, .load none (.t 83), (some (79, false))⟩,
 ⟨some 85, .build [.v (.bool false), .z true, .v (.bool false), .z true] [], (some (79, false))⟩,
 ⟨some 86, .call n_rat_Of [(.c (.v (.int .i64 1))), (.c (.v (.int .i64 1)))] false, (some (79, false))⟩,
 ⟨some 87, .call n_sturm_Stays [(.t 84), (.t 85), (.t 86)] false, (some (79, false))⟩,
 ⟨some 88, .binb true (.t 80) (.t 87), (some (79, false))⟩,
 ⟨some 89, .pick (.t 79) (.c (.v (.bool true))) (.t 88), none⟩] []) <|
 .keep [10, 11, 89] []) <|
 .cond (.t 89) (.seq (.seq (.reg [⟨some 4, .mov (.c (.v (.bool false))), none⟩] []) <|
 .keep [4] []) <|
 .ret) <|
 .skip) <|
 .keep [10, 11] []) <|
 .seq (.reg [⟨some 65, .mov (.t 11), none⟩,
 ⟨some 66, .bin .add (.t 65) (.c (.v (.int .i64 1))), none⟩,
 ⟨some 11, .mov (.t 66), none⟩] []) <|
 .keep [10, 11] []) <|
 .keep [10, 11] []
def gantrylaw13_GapStays : CF := ⟨2, .seq (.seq (.reg [⟨some 4, .mov (.c (.v (.bool false))), none⟩] []) <|
 .keep [0, 1] []) <|
 .seq (.seq (.reg [⟨some 5, .mov (.c (.z true)), none⟩] []) <|
 .keep [0, 1, 5] [[30]]) <|
 .seq (.seq (.seq (.reg [⟨some 6, .mov (.c (.v (.int .i64 0))), none⟩] []) <|
 .keep [0, 1, 5, 6] [[30]]) <|
 .seq (.blk 0 <|
 .seq (.keep [0, 1, 5, 6] [[30]]) <|
 .loop gantrylaw13_GapStays_l0) <|
 .keep [1, 5] [[30]]) <|
 .seq (.seq (.frz 5) <|
 .seq (.reg [⟨some 31, .mov (.t 5), none⟩,
 ⟨some 32, .call n_gantryref06_Trim [(.t 31)] false, none⟩,
 ⟨some 7, .mov (.t 32), none⟩] []) <|
 .keep [1, 5, 7] [[30]]) <|
 .seq (.seq (.frz 5) <|
 .seq (.reg [⟨some 33, .mov (.t 5), none⟩,
 ⟨some 34, .mov (.t 5), none⟩,
 ⟨some 35, .len (.t 34), none⟩,
 ⟨some 36, .mn [(.t 35), (.c (.v (.int .i64 2)))], none⟩,
 ⟨some 37, .slc 4 (.t 33) none (some (.t 36)) none, none⟩,
 ⟨some 38, .call n_gantryref06_Trim [(.t 37)] false, none⟩,
 ⟨some 39, .mov (.t 5), none⟩,
 ⟨some 40, .mov (.t 5), none⟩,
 ⟨some 41, .len (.t 40), none⟩,
 ⟨some 42, .mn [(.t 41), (.c (.v (.int .i64 2)))], none⟩,
 ⟨some 43, .slc 4 (.t 39) none (some (.t 42)) none, none⟩,
 ⟨some 44, .call n_gantryref06_Trim [(.t 43)] false, none⟩,
 ⟨some 45, .call n_gantryref06_Mul [(.t 38), (.t 44)] false, none⟩,
 ⟨some 8, .mov (.t 45), none⟩] []) <|
 .keep [1, 7, 8] []) <|
 .seq (.seq (.reg [⟨some 46, .mov (.t 8), none⟩,
 ⟨some 47, .mov (.t 1), none⟩,
 ⟨some 48, .call n_gantryref01_Around [(.t 47), (.c (.v (.int .i64 200)))] false, none⟩,
 ⟨some 49, .bin .add (.c (.v (.int .i64 1))) (.t 48), none⟩,
 ⟨some 50, .call n_gantryref05_Of [(.c (.v (.int .i64 1))), (.t 49)] false, none⟩,
 ⟨some 51, .lit 4 1 [.v (.bool false), .z true, .v (.bool false), .z true] [(0, (.t 50))] true, none⟩,
 ⟨some 52, .call n_gantryref06_Trim [(.t 51)] false, none⟩,
 ⟨some 53, .call n_gantryref06_Sub [(.t 46), (.t 52)] false, none⟩,
 ⟨some 9, .mov (.t 53), none⟩] []) <|
 .keep [7, 8, 9] []) <|
 .seq (.seq (.reg [⟨some 54, .mov (.t 7), none⟩,
 ⟨some 55, .mov (.t 8), none⟩,
 ⟨some 56, .mov (.t 9), none⟩,
 ⟨some 57, .mov (.t 8), none⟩,
 ⟨some 58, .call n_gantryref05_Of [(.c (.v (.int .i64 (-1)))), (.c (.v (.int .i64 1)))] false, none⟩,
 ⟨some 59, .call n_gantryref06_Scale [(.t 57), (.t 58)] false, none⟩,
 ⟨some 60, .lit 1 5 [.z true] [(0, (.t 54)), (1, (.t 55)), (2, (.t 56)), (3, (.c (.z true))), (4, (.t 59))] true, none⟩,
 ⟨some 10, .mov (.t 60), none⟩] []) <|
 .keep [10] []) <|
 .seq (.seq (.seq (.reg [⟨some 11, .mov (.c (.v (.int .i64 0))), none⟩] []) <|
 .keep [10, 11] []) <|
 .seq (.blk 2 <|
 .seq (.keep [10, 11] []) <|
 .loop gantrylaw13_GapStays_l1) <|
 .keep [] []) <|
 .seq (.seq (.reg [⟨some 90, .call n_gantrylaw13_lives [] false, none⟩,
 ⟨some 4, .mov (.t 90), none⟩] []) <|
 .keep [4] []) <|
 .ret, [.t 4]⟩

def gantrylaw13_GapKeeps_l0 : C :=
 .seq (.seq (.seq (.seq (.reg [⟨some 62, .mov (.t 15), none⟩,
 ⟨some 63, .bin .leq (.t 62) (.c (.v (.int .i64 4))), none⟩,
 ⟨some 64, .mov (.t 63), none⟩,
 ⟨some 65, .mov (.t 14), (some (64, true))⟩,
 ⟨some 66, .bin .geq (.t 65) (.c (.v (.int .i64 0))), (some (64, true))⟩,
 ⟨some 67, .pick (.t 64) (.t 66) (.c (.v (.bool false))), none⟩] []) <|
 .keep [9, 10, 11, 12, 13, 14, 15, 67] [[11], [12], [13]]) <|
 .cond (.t 67) (.skip) <|
 .seq (.keep [9, 10, 11, 12] [[11], [12]]) <|
 .exit 0) <|
 .seq (.seq (.blk 1 <|
 .seq (.seq (.reg [⟨some 70, .mov (.t 15), none⟩,
 ⟨some 71, .call n_rat_Of [(.t 70), (.c (.v (.int .i64 4)))] false, none⟩,
 ⟨some 16, .new [.v (.bool false), .z true, .v (.bool false), .z true], none⟩,
 ⟨none, .store 4 (.t 16) (.t 71), none⟩] []) <|
 .keep [9, 10, 11, 12, 13, 14, 15, 16] [[11], [12], [13], [16]]) <|
 .seq (.seq (.reg [⟨some 72, .load (some 8) (.t 11), none⟩,
 ⟨some 73, .load (some 4) (.t 16), none⟩,
 ⟨some 74, .load (some 8) (.t 12), none⟩,
 ⟨some 75, .call n_gantryref13_Times [(.t 73), (.t 74)] false, none⟩,
 ⟨some 76, .load (some 4) (.t 16), none⟩,
 ⟨some 77, .load (some 4) (.t 16), none⟩,
 ⟨some 78, .call n_rat_Mul [(.t 76), (.t 77)] false, none⟩,
 ⟨some 79, .call n_rat_Of [(.c (.v (.int .i64 1))), (.c (.v (.int .i64 2)))] false, none⟩,
 ⟨some 80, .call n_rat_Mul [(.t 78), (.t 79)] false, none⟩,
 ⟨some 81, .load (some 8) (.t 13), none⟩,
 ⟨some 82, .call n_gantryref13_Times [(.t 80), (.t 81)] false, none⟩,
 ⟨some 83, .call n_gantryref13_Plus [(.t 75), (.t 82)] false, none⟩,
 ⟨some 84, .call n_gantryref13_Plus [(.t 72), (.t 83)] false, none⟩,
 ⟨some 17, .new [.v (.bool false), .z true, .v (.bool false), .z true, .v (.bool false), .z true, .v (.bool false), .z true], none⟩,
 ⟨none, .store 8 (.t 17) (.t 84), none⟩] []) <|
 .keep [9, 10, 11, 12, 13, 14, 15, 17] [[11], [12], [13], [17]]) <|
 .seq (.seq (.reg [⟨some 85, .mov (.t 9), none⟩,
 ⟨some 86, .load (some 8) (.t 17), none⟩,
 ⟨some 87, .call n_gap_Meet [(.t 85), (.t 86)] false, none⟩,
 ⟨some 88, .mov (.t 87), none⟩,
 ⟨some 89, .mov (.t 9), (some (88, false))⟩,
 ⟨some 90, .mov (.t 14), (some (88, false))⟩,
 ⟨some 91, .ixa 4 (.t 89) (.t 90), (some (88, false))⟩,
 ⟨some 92, .load (some 4) (.t 91), (some (88, false))⟩,
 ⟨some 93, .load (some 8) (.t 17), (some (88, false))⟩,
 ⟨some 94, .call n_gap_Gap [(.t 92), (.t 93)] false, (some (88, false))⟩,
 ⟨some 95, .call n_rat_Sign [(.t 94)] false, (some (88, false))⟩,
 ⟨some 96, .bin .lss (.t 95) (.c (.v (.int .i64 0))), (some (88, false))⟩,
 ⟨some 97, .pick (.t 88) (.c (.v (.bool true))) (.t 96), none⟩] []) <|
 .keep [9, 10, 11, 12, 13, 14, 15, 97] [[11], [12], [13]]) <|
 .cond (.t 97) (.seq (.seq (.reg [⟨some 6, .mov (.c (.v (.bool false))), none⟩] []) <|
 .keep [6] []) <|
 .ret) <|
 .skip) <|
 .keep [9, 10, 11, 12, 13, 14, 15] [[11], [12], [13]]) <|
 .seq (.reg [⟨some 68, .mov (.t 15), none⟩,
 ⟨some 69, .bin .add (.t 68) (.c (.v (.int .i64 1))), none⟩,
 ⟨some 15, .mov (.t 69), none⟩] []) <|
 .keep [9, 10, 11, 12, 13, 14, 15] [[11], [12], [13]]) <|
 .keep [9, 10, 11, 12, 13, 14, 15] [[11], [12], [13]]
def gantrylaw13_GapKeeps : CF := ⟨3, .seq (.seq (.reg [⟨some 6, .mov (.c (.v (.bool false))), none⟩] []) <|
 .keep [0, 1, 2] []) <|
 .seq (.seq (.reg [⟨some 19, .mov (.t 0), none⟩,
 ⟨some 20, .call n_gantryref12_Shape [(.t 19)] false, none⟩,
 ⟨some 7, .mov (.t 20), none⟩] []) <|
 .keep [1, 2, 7] []) <|
 .seq (.seq (.reg [⟨some 21, .mov (.t 1), none⟩,
 ⟨some 22, .call n_gantryref12_Shape [(.t 21)] false, none⟩,
 ⟨some 8, .mov (.t 22), none⟩] []) <|
 .keep [2, 7, 8] []) <|
 .seq (.seq (.reg [⟨some 23, .mov (.t 7), none⟩,
 ⟨some 24, .mov (.t 8), none⟩,
 ⟨some 25, .call n_convex_Sides [(.t 23), (.t 24)] false, none⟩,
 ⟨some 9, .mov (.t 25), none⟩] []) <|
 .keep [2, 7, 8, 9] []) <|
 .seq (.seq (.reg [⟨some 26, .mov (.t 7), none⟩,
 ⟨some 27, .mov (.t 8), none⟩,
 ⟨some 28, .call n_convex_Sum [(.t 26), (.t 27)] false, none⟩,
 ⟨some 10, .mov (.t 28), none⟩] []) <|
 .keep [2, 9, 10] []) <|
 .seq (.seq (.reg [⟨some 29, .mov (.t 2), none⟩,
 ⟨some 30, .call n_gantryref01_At [(.t 29), (.c (.v (.int .i64 0))), (.c (.v (.int .i64 96)))] false, none⟩,
 ⟨some 31, .mov (.t 2), none⟩,
 ⟨some 32, .call n_gantryref01_At [(.t 31), (.c (.v (.int .i64 1))), (.c (.v (.int .i64 96)))] false, none⟩,
 ⟨some 33, .call n_gantryref12_Vec [(.t 30), (.t 32)] false, none⟩,
 ⟨some 11, .new [.v (.bool false), .z true, .v (.bool false), .z true, .v (.bool false), .z true, .v (.bool false), .z true], none⟩,
 ⟨none, .store 8 (.t 11) (.t 33), none⟩] []) <|
 .keep [2, 9, 10, 11] [[11]]) <|
 .seq (.seq (.reg [⟨some 34, .mov (.t 2), none⟩,
 ⟨some 35, .call n_gantryref01_At [(.t 34), (.c (.v (.int .i64 2))), (.c (.v (.int .i64 96)))] false, none⟩,
 ⟨some 36, .mov (.t 2), none⟩,
 ⟨some 37, .call n_gantryref01_At [(.t 36), (.c (.v (.int .i64 3))), (.c (.v (.int .i64 96)))] false, none⟩,
 ⟨some 38, .call n_gantryref12_Vec [(.t 35), (.t 37)] false, none⟩,
 ⟨some 12, .new [.v (.bool false), .z true, .v (.bool false), .z true, .v (.bool false), .z true, .v (.bool false), .z true], none⟩,
 ⟨none, .store 8 (.t 12) (.t 38), none⟩] []) <|
 .keep [2, 9, 10, 11, 12] [[11], [12]]) <|
 .seq (.seq (.reg [⟨some 39, .mov (.t 2), none⟩,
 ⟨some 40, .call n_gantryref01_At [(.t 39), (.c (.v (.int .i64 4))), (.c (.v (.int .i64 96)))] false, none⟩,
 ⟨some 41, .mov (.t 2), none⟩,
 ⟨some 42, .call n_gantryref01_At [(.t 41), (.c (.v (.int .i64 5))), (.c (.v (.int .i64 96)))] false, none⟩,
 ⟨some 43, .call n_gantryref12_Vec [(.t 40), (.t 42)] false, none⟩,
 ⟨some 13, .new [.v (.bool false), .z true, .v (.bool false), .z true, .v (.bool false), .z true, .v (.bool false), .z true], none⟩,
 ⟨none, .store 8 (.t 13) (.t 43), none⟩] []) <|
 .keep [9, 10, 11, 12, 13] [[11], [12], [13]]) <|
 .seq (.seq (.reg [⟨some 44, .mov (.t 9), none⟩,
 ⟨some 45, .load (some 8) (.t 11), none⟩,
 ⟨some 46, .load (some 8) (.t 12), none⟩,
 ⟨some 47, .load (some 8) (.t 13), none⟩,
 ⟨some 48, .call n_gap_Free [(.t 44), (.t 45), (.t 46), (.t 47)] false, none⟩,
 ⟨some 14, .mov (.t 48), none⟩] []) <|
 .keep [9, 10, 11, 12, 13, 14] [[11], [12], [13]]) <|
 .seq (.seq (.seq (.reg [⟨some 49, .mov (.t 14), none⟩,
 ⟨some 50, .mov (.t 9), none⟩,
 ⟨some 51, .len (.t 50), none⟩,
 ⟨some 52, .bin .geq (.t 49) (.t 51), none⟩,
 ⟨some 53, .mov (.t 52), none⟩,
 ⟨some 54, .mov (.t 14), (some (53, false))⟩,
 ⟨some 55, .bin .lss (.t 54) (.c (.v (.int .i64 (-1)))), (some (53, false))⟩,
 ⟨some 56, .pick (.t 53) (.c (.v (.bool true))) (.t 55), none⟩,
 ⟨some 57, .mov (.t 56), none⟩,
 ⟨some 58, .mov (.t 10), (some (57, false))⟩,
 ⟨some 59, .len (.t 58), (some (57, false))⟩,
 ⟨some 60, .bin .lss (.t 59) (.c (.v (.int .i64 3))), (some (57, false))⟩,
 ⟨some 61, .pick (.t 57) (.c (.v (.bool true))) (.t 60), none⟩] []) <|
 .keep [9, 10, 11, 12, 13, 14, 61] [[11], [12], [13]]) <|
 .cond (.t 61) (.seq (.seq (.reg [⟨some 6, .mov (.c (.v (.bool false))), none⟩] []) <|
 .keep [6] []) <|
 .ret) <|
 .skip) <|
 .seq (.seq (.seq (.reg [⟨some 15, .mov (.c (.v (.int .i64 0))), none⟩] []) <|
 .keep [9, 10, 11, 12, 13, 14, 15] [[11], [12], [13]]) <|
 .seq (.blk 0 <|
 .seq (.keep [9, 10, 11, 12, 13, 14, 15] [[11], [12], [13]]) <|
 .loop gantrylaw13_GapKeeps_l0) <|
 .keep [9, 10, 11, 12] [[11], [12]]) <|
 .seq (.seq (.seq (.reg [⟨some 98, .mov (.t 9), none⟩,
 ⟨some 99, .load (some 8) (.t 11), none⟩,
 ⟨some 100, .call n_gap_Meet [(.t 98), (.t 99)] false, none⟩,
 ⟨some 101, .mov (.t 9), none⟩,
 ⟨some 102, .load (some 8) (.t 11), none⟩,
 ⟨some 103, .load (some 8) (.t 11), none⟩,
 ⟨some 104, .load (some 8) (.t 12), none⟩,
 ⟨some 105, .call n_gantryref13_Plus [(.t 103), (.t 104)] false, none⟩,
 ⟨some 106, .call n_gap_Best [(.t 101), (.t 102), (.t 105)] false, none⟩,
 ⟨some 107, .bin .eql (.t 106) (.c (.v (.int .i64 (-1)))), none⟩,
 ⟨some 108, .binb true (.t 100) (.t 107), none⟩,
 ⟨some 109, .mov (.t 108), none⟩,
 ⟨some 110, .mov (.t 9), (some (109, false))⟩,
 ⟨some 111, .load (some 8) (.t 11), (some (109, false))⟩,
 ⟨some 112, .call n_gap_Meet [(.t 110), (.t 111)] false, (some (109, false))⟩,
 ⟨some 113, .mov (.t 112), (some (109, false))⟩,
 ⟨some 114, .mov (.t 10), (some (113, true))⟩,
 ⟨some 115, .load (some 8) (.t 11), (some (113, true))⟩,
 ⟨some 116, .call n_convex_Has [(.t 114), (.t 115)] false, (some (113, true))⟩,
 ⟨some 117, .un .not (.t 116), (some (113, true))⟩,
 ⟨some 118, .pick (.t 113) (.t 117) (.c (.v (.bool false))), (some (109, false))⟩,
 ⟨some 119, .pick (.t 109) (.c (.v (.bool true))) (.t 118), none⟩] []) <|
 .keep [9, 11, 12, 119] [[11], [12]]) <|
 .cond (.t 119) (.seq (.seq (.reg [⟨some 6, .mov (.c (.v (.bool false))), none⟩] []) <|
 .keep [6] []) <|
 .ret) <|
 .skip) <|
 .seq (.seq (.reg [⟨some 120, .mov (.t 9), none⟩,
 ⟨some 121, .load (some 8) (.t 11), none⟩,
 ⟨some 122, .load (some 8) (.t 11), none⟩,
 ⟨some 123, .load (some 8) (.t 12), none⟩,
 ⟨some 124, .call n_gantryref13_Plus [(.t 122), (.t 123)] false, none⟩,
 ⟨some 125, .call n_gap_Best [(.t 120), (.t 121), (.t 124)] false, none⟩,
 ⟨some 18, .mov (.t 125), none⟩] []) <|
 .keep [9, 11, 18] [[11]]) <|
 .seq (.seq (.reg [⟨some 126, .mov (.t 18), none⟩,
 ⟨some 127, .bin .lss (.t 126) (.c (.v (.int .i64 0))), none⟩,
 ⟨some 128, .mov (.t 127), none⟩,
 ⟨some 129, .mov (.t 18), (some (128, false))⟩,
 ⟨some 130, .mov (.t 9), (some (128, false))⟩,
 ⟨some 131, .len (.t 130), (some (128, false))⟩,
 ⟨some 132, .bin .lss (.t 129) (.t 131), (some (128, false))⟩,
 ⟨some 133, .mov (.t 132), (some (128, false))⟩,
 ⟨some 134, .mov (.t 9), (some (133, true))⟩,
 ⟨some 135, .mov (.t 18), (some (133, true))⟩,
 ⟨some 136, .ixa 4 (.t 134) (.t 135), (some (133, true))⟩,
 ⟨some 137, .load (some 4) (.t 136), (some (133, true))⟩,
 ⟨some 138, .load (some 8) (.t 11), (some (133, true))⟩,
 ⟨some 139, .call n_gap_Gap [(.t 137), (.t 138)] false, (some (133, true))⟩,
 ⟨some 140, .call n_rat_Sign [(.t 139)] false, (some (133, true))⟩,
 ⟨some 141, .bin .geq (.t 140) (.c (.v (.int .i64 0))), (some (133, true))⟩,
 ⟨some 142, .pick (.t 133) (.t 141) (.c (.v (.bool false))), (some (128, false))⟩,
 ⟨some 143, .pick (.t 128) (.c (.v (.bool true))) (.t 142), none⟩,
 ⟨some 144, .mov (.t 143), none⟩,
 ⟨some 145, .call n_gantrylaw13_lives [] false, (some (144, true))⟩,
 ⟨some 146, .pick (.t 144) (.t 145) (.c (.v (.bool false))), none⟩,
 ⟨some 6, .mov (.t 146), none⟩] []) <|
 .keep [6] []) <|
 .ret, [.t 6]⟩

def gantrylaw13_GapTouches_l0 : C :=
 .seq (.seq (.seq (.seq (.reg [⟨some 62, .mov (.t 18), none⟩,
 ⟨some 63, .mov (.t 13), none⟩,
 ⟨some 64, .len (.t 63), none⟩,
 ⟨some 65, .bin .lss (.t 62) (.t 64), none⟩] []) <|
 .keep [13, 14, 15, 16, 17, 18, 65] [[14], [15]]) <|
 .cond (.t 65) (.skip) <|
 .seq (.keep [13, 14, 16, 17] [[14]]) <|
 .exit 0) <|
 .seq (.seq (.blk 1 <|
 .seq (.seq (.reg [⟨some 68, .mov (.t 13), none⟩,
 ⟨some 69, .mov (.t 18), none⟩,
 ⟨some 70, .ixa 4 (.t 68) (.t 69), none⟩,
 ⟨some 71, .load (some 4) (.t 70), none⟩,
 ⟨some 72, .load (some 8) (.t 14), none⟩,
 ⟨some 73, .call n_gap_Gap [(.t 71), (.t 72)] false, none⟩,
 ⟨some 74, .call n_rat_Sign [(.t 73)] false, none⟩,
 ⟨some 19, .mov (.t 74), none⟩] []) <|
 .keep [13, 14, 15, 16, 17, 18, 19] [[14], [15]]) <|
 .seq (.seq (.seq (.reg [⟨some 75, .mov (.t 19), none⟩,
 ⟨some 76, .bin .gtr (.t 75) (.c (.v (.int .i64 0))), none⟩] []) <|
 .keep [13, 14, 15, 16, 17, 18, 19, 76] [[14], [15]]) <|
 .cond (.t 76) (.seq (.seq (.reg [⟨some 10, .mov (.c (.v (.bool false))), none⟩] []) <|
 .keep [10] []) <|
 .ret) <|
 .skip) <|
 .seq (.reg [⟨some 77, .mov (.t 17), none⟩,
 ⟨some 78, .mov (.t 77), none⟩,
 ⟨some 79, .mov (.t 19), (some (78, false))⟩,
 ⟨some 80, .bin .eql (.t 79) (.c (.v (.int .i64 0))), (some (78, false))⟩,
 ⟨some 81, .mov (.t 80), (some (78, false))⟩,
 ⟨some 82, .mov (.t 13), (some (81, true))⟩,
 ⟨some 83, .mov (.t 18), (some (81, true))⟩,
 ⟨some 84, .ixa 4 (.t 82) (.t 83), (some (81, true))⟩,
 ⟨some 85, .load (some 4) (.t 84), (some (81, true))⟩,
 ⟨some 86, .load (some 8) (.t 15), (some (81, true))⟩,
 ⟨some 87, .call n_gantryref13_Rate [(.t 85), (.t 86)] false, (some (81, true))⟩,
 ⟨some 88, .call n_rat_Sign [(.t 87)] false, (some (81, true))⟩,
 ⟨some 89, .bin .gtr (.t 88) (.c (.v (.int .i64 0))), (some (81, true))⟩,
 ⟨some 90, .pick (.t 81) (.t 89) (.c (.v (.bool false))), (some (78, false))⟩,
 ⟨some 91, .pick (.t 78) (.c (.v (.bool true))) (.t 90), none⟩,
 ⟨some 17, .mov (.t 91), none⟩] []) <|
 .keep [13, 14, 15, 16, 17, 18] [[14], [15]]) <|
 .keep [13, 14, 15, 16, 17, 18] [[14], [15]]) <|
 .seq (.reg [⟨some 66, .mov (.t 18), none⟩,
 ⟨some 67, .bin .add (.t 66) (.c (.v (.int .i64 1))), none⟩,
 ⟨some 18, .mov (.t 67), none⟩] []) <|
 .keep [13, 14, 15, 16, 17, 18] [[14], [15]]) <|
 .keep [13, 14, 15, 16, 17, 18] [[14], [15]]
def gantrylaw13_GapTouches : CF := ⟨5, .seq (.seq (.reg [⟨some 10, .mov (.c (.v (.bool false))), none⟩] []) <|
 .keep [0, 1, 2, 3, 4] []) <|
 .seq (.seq (.reg [⟨some 20, .mov (.t 0), none⟩,
 ⟨some 21, .call n_gantryref12_Shape [(.t 20)] false, none⟩,
 ⟨some 11, .mov (.t 21), none⟩] []) <|
 .keep [1, 2, 3, 4, 11] []) <|
 .seq (.seq (.reg [⟨some 22, .mov (.t 1), none⟩,
 ⟨some 23, .call n_gantryref12_Shape [(.t 22)] false, none⟩,
 ⟨some 12, .mov (.t 23), none⟩] []) <|
 .keep [2, 3, 4, 11, 12] []) <|
 .seq (.seq (.reg [⟨some 24, .mov (.t 11), none⟩,
 ⟨some 25, .mov (.t 12), none⟩,
 ⟨some 26, .call n_convex_Sides [(.t 24), (.t 25)] false, none⟩,
 ⟨some 13, .mov (.t 26), none⟩] []) <|
 .keep [2, 3, 4, 11, 12, 13] []) <|
 .seq (.seq (.reg [⟨some 27, .mov (.t 11), none⟩,
 ⟨some 28, .mov (.t 12), none⟩,
 ⟨some 29, .mov (.t 2), none⟩,
 ⟨some 30, .mov (.t 3), none⟩,
 ⟨some 31, .call n_gantryref13_Touch [(.t 27), (.t 28), (.t 29), (.t 30)] false, none⟩,
 ⟨some 14, .new [.v (.bool false), .z true, .v (.bool false), .z true, .v (.bool false), .z true, .v (.bool false), .z true], none⟩,
 ⟨none, .store 8 (.t 14) (.t 31), none⟩] []) <|
 .keep [4, 11, 12, 13, 14] [[14]]) <|
 .seq (.seq (.reg [⟨some 32, .mov (.t 4), none⟩,
 ⟨some 33, .call n_gantryref01_At [(.t 32), (.c (.v (.int .i64 0))), (.c (.v (.int .i64 96)))] false, none⟩,
 ⟨some 34, .mov (.t 4), none⟩,
 ⟨some 35, .call n_gantryref01_At [(.t 34), (.c (.v (.int .i64 1))), (.c (.v (.int .i64 96)))] false, none⟩,
 ⟨some 36, .call n_gantryref12_Vec [(.t 33), (.t 35)] false, none⟩,
 ⟨some 15, .new [.v (.bool false), .z true, .v (.bool false), .z true, .v (.bool false), .z true, .v (.bool false), .z true], none⟩,
 ⟨none, .store 8 (.t 15) (.t 36), none⟩] []) <|
 .keep [11, 12, 13, 14, 15] [[14], [15]]) <|
 .seq (.seq (.reg [⟨some 37, .mov (.t 13), none⟩,
 ⟨some 38, .load (some 8) (.t 14), none⟩,
 ⟨some 39, .load (some 8) (.t 15), none⟩,
 ⟨some 40, .call n_gap_Contact [(.t 37), (.t 38), (.t 39)] false, none⟩,
 ⟨some 16, .mov (.t 40), none⟩] []) <|
 .keep [11, 12, 13, 14, 15, 16] [[14], [15]]) <|
 .seq (.seq (.seq (.reg [⟨some 41, .mov (.t 11), none⟩,
 ⟨some 42, .mov (.t 12), none⟩,
 ⟨some 43, .call n_convex_Sum [(.t 41), (.t 42)] false, none⟩,
 ⟨some 44, .load (some 8) (.t 14), none⟩,
 ⟨some 45, .call n_convex_Has [(.t 43), (.t 44)] false, none⟩,
 ⟨some 46, .un .not (.t 45), none⟩,
 ⟨some 47, .mov (.t 46), none⟩,
 ⟨some 48, .mov (.t 13), (some (47, false))⟩,
 ⟨some 49, .load (some 8) (.t 14), (some (47, false))⟩,
 ⟨some 50, .call n_gap_Meet [(.t 48), (.t 49)] false, (some (47, false))⟩,
 ⟨some 51, .pick (.t 47) (.c (.v (.bool true))) (.t 50), none⟩,
 ⟨some 52, .mov (.t 51), none⟩,
 ⟨some 53, .mov (.t 16), (some (52, false))⟩,
 ⟨some 54, .mov (.t 13), (some (52, false))⟩,
 ⟨some 55, .len (.t 54), (some (52, false))⟩,
 ⟨some 56, .bin .geq (.t 53) (.t 55), (some (52, false))⟩,
 ⟨some 57, .pick (.t 52) (.c (.v (.bool true))) (.t 56), none⟩,
 ⟨some 58, .mov (.t 57), none⟩,
 ⟨some 59, .mov (.t 16), (some (58, false))⟩,
 ⟨some 60, .bin .lss (.t 59) (.c (.v (.int .i64 (-1)))), (some (58, false))⟩,
 ⟨some 61, .pick (.t 58) (.c (.v (.bool true))) (.t 60), none⟩] []) <|
 .keep [13, 14, 15, 16, 61] [[14], [15]]) <|
 .cond (.t 61) (.seq (.seq (.reg [⟨some 10, .mov (.c (.v (.bool false))), none⟩] []) <|
 .keep [10] []) <|
 .ret) <|
 .skip) <|
 .seq (.seq (.reg [⟨some 17, .mov (.c (.v (.bool false))), none⟩] []) <|
 .keep [13, 14, 15, 16, 17] [[14], [15]]) <|
 .seq (.seq (.seq (.reg [⟨some 18, .mov (.c (.v (.int .i64 0))), none⟩] []) <|
 .keep [13, 14, 15, 16, 17, 18] [[14], [15]]) <|
 .seq (.blk 0 <|
 .seq (.keep [13, 14, 15, 16, 17, 18] [[14], [15]]) <|
 .loop gantrylaw13_GapTouches_l0) <|
 .keep [13, 14, 16, 17] [[14]]) <|
 .seq (.seq (.seq (.reg [⟨some 92, .mov (.t 16), none⟩,
 ⟨some 93, .bin .geq (.t 92) (.c (.v (.int .i64 0))), none⟩,
 ⟨some 94, .mov (.t 93), none⟩,
 ⟨some 95, .mov (.t 13), (some (94, true))⟩,
 ⟨some 96, .mov (.t 16), (some (94, true))⟩,
 ⟨some 97, .ixa 4 (.t 95) (.t 96), (some (94, true))⟩,
 ⟨some 98, .load (some 4) (.t 97), (some (94, true))⟩,
 ⟨some 99, .load (some 8) (.t 14), (some (94, true))⟩,
 ⟨some 100, .call n_gap_Gap [(.t 98), (.t 99)] false, (some (94, true))⟩,
 ⟨some 101, .call n_rat_Sign [(.t 100)] false, (some (94, true))⟩,
 ⟨some 102, .bin .neq (.t 101) (.c (.v (.int .i64 0))), (some (94, true))⟩,
 ⟨some 103, .pick (.t 94) (.t 102) (.c (.v (.bool false))), none⟩] []) <|
 .keep [16, 17, 103] []) <|
 .cond (.t 103) (.seq (.seq (.reg [⟨some 10, .mov (.c (.v (.bool false))), none⟩] []) <|
 .keep [10] []) <|
 .ret) <|
 .skip) <|
 .seq (.seq (.reg [⟨some 104, .mov (.t 16), none⟩,
 ⟨some 105, .bin .geq (.t 104) (.c (.v (.int .i64 0))), none⟩,
 ⟨some 106, .mov (.t 17), none⟩,
 ⟨some 107, .binb true (.t 105) (.t 106), none⟩,
 ⟨some 108, .mov (.t 107), none⟩,
 ⟨some 109, .call n_gantrylaw13_lives [] false, (some (108, true))⟩,
 ⟨some 110, .pick (.t 108) (.t 109) (.c (.v (.bool false))), none⟩,
 ⟨some 10, .mov (.t 110), none⟩] []) <|
 .keep [10] []) <|
 .ret, [.t 10]⟩

def gantryref12_Shape : CF := ⟨1, .seq (.seq (.reg [⟨some 2, .mov (.c (.z true)), none⟩] []) <|
 .keep [0] []) <|
 .seq (.seq (.reg [⟨some 6, .mov (.t 0), none⟩,
 ⟨some 7, .call n_gantryref01_At [(.t 6), (.c (.v (.int .i64 1))), (.c (.v (.int .i64 3)))] false, none⟩,
 ⟨some 8, .bin .add (.c (.v (.int .i64 1))) (.t 7), none⟩,
 ⟨some 3, .mov (.t 8), none⟩] []) <|
 .keep [0, 3] []) <|
 .seq (.seq (.reg [⟨some 9, .mov (.t 0), none⟩,
 ⟨some 10, .call n_gantryref01_At [(.t 9), (.c (.v (.int .i64 2))), (.c (.v (.int .i64 6)))] false, none⟩,
 ⟨some 11, .bin .add (.c (.v (.int .i64 1))) (.t 10), none⟩,
 ⟨some 4, .mov (.t 11), none⟩] []) <|
 .keep [0, 3, 4] []) <|
 .seq (.seq (.reg [⟨some 5, .mov (.c (.z true)), none⟩] []) <|
 .keep [0, 3, 4] []) <|
 .seq (.seq (.seq (.reg [⟨some 12, .mov (.t 0), none⟩,
 ⟨some 13, .call n_gantryref01_At [(.t 12), (.c (.v (.int .i64 0))), (.c (.v (.int .i64 7)))] false, none⟩] []) <|
 .keep [0, 3, 4, 13] []) <|
 .seq (.blk 0 <|
 .seq (.seq (.seq (.reg [⟨some 25, .bin .eql (.t 13) (.c (.v (.int .i64 0))), none⟩,
 ⟨some 24, .mov (.t 25), none⟩] []) <|
 .keep [0, 3, 4, 13, 24] []) <|
 .cond (.t 24) (.skip) <|
 .seq (.seq (.reg [⟨some 26, .bin .eql (.t 13) (.c (.v (.int .i64 1))), none⟩,
 ⟨some 24, .mov (.t 26), none⟩] []) <|
 .keep [0, 3, 4, 13, 24] []) <|
 .cond (.t 24) (.skip) <|
 .seq (.reg [⟨some 27, .bin .eql (.t 13) (.c (.v (.int .i64 2))), none⟩,
 ⟨some 24, .mov (.t 27), none⟩] []) <|
 .keep [0, 3, 4, 13, 24] []) <|
 .cond (.t 24) (.seq (.reg [⟨some 28, .build [.v (.int .i64 0), .v (.int .i64 0)] [], none⟩,
 ⟨some 29, .mov (.t 3), none⟩,
 ⟨some 30, .bin .mul (.c (.v (.int .i64 2))) (.t 29), none⟩,
 ⟨some 31, .build [.v (.int .i64 0), .v (.int .i64 0)] [(0, 1, (.t 30))], none⟩,
 ⟨some 32, .mov (.t 3), none⟩,
 ⟨some 33, .bin .mul (.c (.v (.int .i64 2))) (.t 32), none⟩,
 ⟨some 34, .mov (.t 4), none⟩,
 ⟨some 35, .build [.v (.int .i64 0), .v (.int .i64 0)] [(0, 1, (.t 33)), (1, 1, (.t 34))], none⟩,
 ⟨some 36, .mov (.t 4), none⟩,
 ⟨some 37, .build [.v (.int .i64 0), .v (.int .i64 0)] [(1, 1, (.t 36))], none⟩,
 ⟨some 38, .lit 2 4 [.v (.int .i64 0), .v (.int .i64 0)] [(0, (.t 28)), (1, (.t 31)), (2, (.t 35)), (3, (.t 37))] true, none⟩,
 ⟨some 5, .mov (.t 38), none⟩] []) <|
 .keep [0, 5] []) <|
 .seq (.seq (.reg [⟨some 40, .bin .eql (.t 13) (.c (.v (.int .i64 3))), none⟩,
 ⟨some 39, .mov (.t 40), none⟩] []) <|
 .keep [0, 3, 4, 13, 39] []) <|
 .cond (.t 39) (.seq (.reg [⟨some 41, .build [.v (.int .i64 0), .v (.int .i64 0)] [], none⟩,
 ⟨some 42, .mov (.t 3), none⟩,
 ⟨some 43, .bin .mul (.c (.v (.int .i64 4))) (.t 42), none⟩,
 ⟨some 44, .build [.v (.int .i64 0), .v (.int .i64 0)] [(0, 1, (.t 43))], none⟩,
 ⟨some 45, .mov (.t 3), none⟩,
 ⟨some 46, .bin .mul (.c (.v (.int .i64 3))) (.t 45), none⟩,
 ⟨some 47, .build [.v (.int .i64 0), .v (.int .i64 0)] [(1, 1, (.t 46))], none⟩,
 ⟨some 48, .lit 2 3 [.v (.int .i64 0), .v (.int .i64 0)] [(0, (.t 41)), (1, (.t 44)), (2, (.t 47))] true, none⟩,
 ⟨some 5, .mov (.t 48), none⟩] []) <|
 .keep [0, 5] []) <|
 .seq (.seq (.reg [⟨some 50, .bin .eql (.t 13) (.c (.v (.int .i64 4))), none⟩,
 ⟨some 49, .mov (.t 50), none⟩] []) <|
 .keep [0, 3, 4, 13, 49] []) <|
 .cond (.t 49) (.seq (.reg [⟨some 51, .build [.v (.int .i64 0), .v (.int .i64 0)] [], none⟩,
 ⟨some 52, .mov (.t 3), none⟩,
 ⟨some 53, .bin .mul (.c (.v (.int .i64 4))) (.t 52), none⟩,
 ⟨some 54, .mov (.t 3), none⟩,
 ⟨some 55, .bin .mul (.c (.v (.int .i64 (-3)))) (.t 54), none⟩,
 ⟨some 56, .build [.v (.int .i64 0), .v (.int .i64 0)] [(0, 1, (.t 53)), (1, 1, (.t 55))], none⟩,
 ⟨some 57, .mov (.t 3), none⟩,
 ⟨some 58, .bin .mul (.c (.v (.int .i64 8))) (.t 57), none⟩,
 ⟨some 59, .build [.v (.int .i64 0), .v (.int .i64 0)] [(0, 1, (.t 58))], none⟩,
 ⟨some 60, .mov (.t 3), none⟩,
 ⟨some 61, .bin .mul (.c (.v (.int .i64 4))) (.t 60), none⟩,
 ⟨some 62, .mov (.t 3), none⟩,
 ⟨some 63, .bin .mul (.c (.v (.int .i64 3))) (.t 62), none⟩,
 ⟨some 64, .build [.v (.int .i64 0), .v (.int .i64 0)] [(0, 1, (.t 61)), (1, 1, (.t 63))], none⟩,
 ⟨some 65, .lit 2 4 [.v (.int .i64 0), .v (.int .i64 0)] [(0, (.t 51)), (1, (.t 56)), (2, (.t 59)), (3, (.t 64))] true, none⟩,
 ⟨some 5, .mov (.t 65), none⟩] []) <|
 .keep [0, 5] []) <|
 .seq (.seq (.reg [⟨some 67, .bin .eql (.t 13) (.c (.v (.int .i64 5))), none⟩,
 ⟨some 66, .mov (.t 67), none⟩] []) <|
 .keep [0, 3, 4, 66] []) <|
 .cond (.t 66) (.seq (.reg [⟨some 68, .build [.v (.int .i64 0), .v (.int .i64 0)] [], none⟩,
 ⟨some 69, .mov (.t 3), none⟩,
 ⟨some 70, .bin .mul (.c (.v (.int .i64 8))) (.t 69), none⟩,
 ⟨some 71, .build [.v (.int .i64 0), .v (.int .i64 0)] [(0, 1, (.t 70))], none⟩,
 ⟨some 72, .mov (.t 3), none⟩,
 ⟨some 73, .bin .mul (.c (.v (.int .i64 8))) (.t 72), none⟩,
 ⟨some 74, .mov (.t 4), none⟩,
 ⟨some 75, .build [.v (.int .i64 0), .v (.int .i64 0)] [(0, 1, (.t 73)), (1, 1, (.t 74))], none⟩,
 ⟨some 76, .mov (.t 3), none⟩,
 ⟨some 77, .bin .mul (.c (.v (.int .i64 4))) (.t 76), none⟩,
 ⟨some 78, .mov (.t 4), none⟩,
 ⟨some 79, .mov (.t 3), none⟩,
 ⟨some 80, .bin .mul (.c (.v (.int .i64 3))) (.t 79), none⟩,
 ⟨some 81, .bin .add (.t 78) (.t 80), none⟩,
 ⟨some 82, .build [.v (.int .i64 0), .v (.int .i64 0)] [(0, 1, (.t 77)), (1, 1, (.t 81))], none⟩,
 ⟨some 83, .mov (.t 4), none⟩,
 ⟨some 84, .build [.v (.int .i64 0), .v (.int .i64 0)] [(1, 1, (.t 83))], none⟩,
 ⟨some 85, .lit 2 5 [.v (.int .i64 0), .v (.int .i64 0)] [(0, (.t 68)), (1, (.t 71)), (2, (.t 75)), (3, (.t 82)), (4, (.t 84))] true, none⟩,
 ⟨some 5, .mov (.t 85), none⟩] []) <|
 .keep [0, 5] []) <|
 .seq (.reg [⟨some 14, .build [.v (.int .i64 0), .v (.int .i64 0)] [], none⟩,
 ⟨some 15, .mov (.t 3), none⟩,
 ⟨some 16, .bin .mul (.c (.v (.int .i64 6))) (.t 15), none⟩,
 ⟨some 17, .build [.v (.int .i64 0), .v (.int .i64 0)] [(0, 1, (.t 16))], none⟩,
 ⟨some 18, .mov (.t 3), none⟩,
 ⟨some 19, .bin .mul (.c (.v (.int .i64 3))) (.t 18), none⟩,
 ⟨some 20, .mov (.t 3), none⟩,
 ⟨some 21, .bin .mul (.c (.v (.int .i64 4))) (.t 20), none⟩,
 ⟨some 22, .build [.v (.int .i64 0), .v (.int .i64 0)] [(0, 1, (.t 19)), (1, 1, (.t 21))], none⟩,
 ⟨some 23, .lit 2 3 [.v (.int .i64 0), .v (.int .i64 0)] [(0, (.t 14)), (1, (.t 17)), (2, (.t 22))] true, none⟩,
 ⟨some 5, .mov (.t 23), none⟩] []) <|
 .keep [0, 5] []) <|
 .keep [0, 5] []) <|
 .seq (.seq (.reg [⟨some 86, .mov (.t 5), none⟩,
 ⟨some 87, .mov (.t 0), none⟩,
 ⟨some 88, .call n_gantryref01_At [(.t 87), (.c (.v (.int .i64 3))), (.c (.v (.int .i64 5)))] false, none⟩,
 ⟨some 89, .bin .sub (.t 88) (.c (.v (.int .i64 2))), none⟩,
 ⟨some 90, .mov (.t 0), none⟩,
 ⟨some 91, .call n_gantryref01_At [(.t 90), (.c (.v (.int .i64 4))), (.c (.v (.int .i64 5)))] false, none⟩,
 ⟨some 92, .bin .sub (.t 91) (.c (.v (.int .i64 2))), none⟩,
 ⟨some 93, .call n_gantryref12_Move [(.t 86), (.t 89), (.t 92)] false, none⟩,
 ⟨some 2, .mov (.t 93), none⟩] []) <|
 .keep [2] []) <|
 .ret, [.t 2]⟩

def gantryref12_Sides_l0 : C :=
 .seq (.seq (.seq (.seq (.reg [⟨some 16, .mov (.t 6), none⟩,
 ⟨some 17, .mov (.t 0), none⟩,
 ⟨some 18, .len (.t 17), none⟩,
 ⟨some 19, .bin .lss (.t 16) (.t 18), none⟩] []) <|
 .keep [0, 1, 5, 6, 19] [[36], [58]]) <|
 .cond (.t 19) (.skip) <|
 .seq (.keep [0, 1, 5] [[36], [58]]) <|
 .exit 0) <|
 .seq (.seq (.blk 1 <|
 .seq (.seq (.reg [⟨some 23, .mov (.t 0), none⟩,
 ⟨some 24, .mov (.t 6), none⟩,
 ⟨some 25, .ixa 2 (.t 23) (.t 24), none⟩,
 ⟨some 26, .load (some 2) (.t 25), none⟩,
 ⟨some 27, .mov (.t 0), none⟩,
 ⟨some 28, .mov (.t 6), none⟩,
 ⟨some 29, .call n_gantryref12_Next [(.t 27), (.t 28)] false, none⟩,
 ⟨some 30, .call n_gantryref12_Norm [(.t 26), (.t 29)] false, none⟩,
 ⟨some 22, .mov (.t 30), none⟩,
 ⟨some 31, .ext (.t 22) 0, none⟩,
 ⟨some 32, .ext (.t 22) 1, none⟩,
 ⟨some 7, .new [.v (.int .i64 0), .v (.int .i64 0), .v (.int .i64 0)], none⟩,
 ⟨none, .store 3 (.t 7) (.t 31), none⟩,
 ⟨some 8, .mov (.t 32), none⟩] []) <|
 .keep [0, 1, 5, 6, 7] [[7], [36], [58]]) <|
 .seq (.reg [⟨some 33, .mov (.t 5), none⟩,
 ⟨some 34, .load (some 3) (.t 7), none⟩,
 ⟨some 35, .lit 3 1 [.v (.int .i64 0), .v (.int .i64 0), .v (.int .i64 0)] [(0, (.t 34))] true, none⟩,
 ⟨some 36, .app 3 24 (.t 33) (.t 35) false, none⟩,
 ⟨some 5, .mov (.t 36), none⟩] []) <|
 .keep [0, 1, 5, 6] [[36], [58]]) <|
 .keep [0, 1, 5, 6] [[36], [58]]) <|
 .seq (.reg [⟨some 20, .mov (.t 6), none⟩,
 ⟨some 21, .bin .add (.t 20) (.c (.v (.int .i64 1))), none⟩,
 ⟨some 6, .mov (.t 21), none⟩] []) <|
 .keep [0, 1, 5, 6] [[36], [58]]) <|
 .keep [0, 1, 5, 6] [[36], [58]]
def gantryref12_Sides_l1 : C :=
 .seq (.seq (.seq (.seq (.reg [⟨some 37, .mov (.t 9), none⟩,
 ⟨some 38, .mov (.t 1), none⟩,
 ⟨some 39, .len (.t 38), none⟩,
 ⟨some 40, .bin .lss (.t 37) (.t 39), none⟩] []) <|
 .keep [0, 1, 5, 9, 40] [[36], [58]]) <|
 .cond (.t 40) (.skip) <|
 .seq (.keep [0, 1, 5] [[36], [58]]) <|
 .exit 2) <|
 .seq (.seq (.blk 3 <|
 .seq (.seq (.reg [⟨some 44, .mov (.t 1), none⟩,
 ⟨some 45, .mov (.t 9), none⟩,
 ⟨some 46, .ixa 2 (.t 44) (.t 45), none⟩,
 ⟨some 47, .load (some 2) (.t 46), none⟩,
 ⟨some 48, .mov (.t 1), none⟩,
 ⟨some 49, .mov (.t 9), none⟩,
 ⟨some 50, .call n_gantryref12_Next [(.t 48), (.t 49)] false, none⟩,
 ⟨some 51, .call n_gantryref12_Norm [(.t 47), (.t 50)] false, none⟩,
 ⟨some 43, .mov (.t 51), none⟩,
 ⟨some 52, .ext (.t 43) 0, none⟩,
 ⟨some 53, .ext (.t 43) 1, none⟩,
 ⟨some 10, .new [.v (.int .i64 0), .v (.int .i64 0), .v (.int .i64 0)], none⟩,
 ⟨none, .store 3 (.t 10) (.t 52), none⟩,
 ⟨some 11, .mov (.t 53), none⟩] []) <|
 .keep [0, 1, 5, 9, 10] [[10], [36], [58]]) <|
 .seq (.reg [⟨some 54, .mov (.t 5), none⟩,
 ⟨some 55, .load (some 3) (.t 10), none⟩,
 ⟨some 56, .call n_gantryref12_Turn [(.t 55)] false, none⟩,
 ⟨some 57, .lit 3 1 [.v (.int .i64 0), .v (.int .i64 0), .v (.int .i64 0)] [(0, (.t 56))] true, none⟩,
 ⟨some 58, .app 3 24 (.t 54) (.t 57) false, none⟩,
 ⟨some 5, .mov (.t 58), none⟩] []) <|
 .keep [0, 1, 5, 9] [[36], [58]]) <|
 .keep [0, 1, 5, 9] [[36], [58]]) <|
 .seq (.reg [⟨some 41, .mov (.t 9), none⟩,
 ⟨some 42, .bin .add (.t 41) (.c (.v (.int .i64 1))), none⟩,
 ⟨some 9, .mov (.t 42), none⟩] []) <|
 .keep [0, 1, 5, 9] [[36], [58]]) <|
 .keep [0, 1, 5, 9] [[36], [58]]
def gantryref12_Sides_l2 : C :=
 .seq (.seq (.seq (.seq (.reg [⟨some 65, .mov (.t 15), none⟩,
 ⟨some 66, .mov (.t 13), none⟩,
 ⟨some 67, .bin .lss (.t 65) (.t 66), none⟩] []) <|
 .keep [0, 1, 5, 12, 13, 14, 15, 67] [[36], [58], [104]]) <|
 .cond (.t 67) (.skip) <|
 .seq (.keep [0, 1, 5, 12, 13, 14] [[36], [58], [104]]) <|
 .exit 6) <|
 .seq (.seq (.blk 7 <|
 .seq (.reg [⟨some 70, .mov (.t 14), none⟩,
 ⟨some 71, .mov (.t 70), none⟩,
 ⟨some 72, .mov (.t 5), (some (71, true))⟩,
 ⟨some 73, .mov (.t 15), (some (71, true))⟩,
 ⟨some 74, .ixa 3 (.t 72) (.t 73), (some (71, true))⟩,
 ⟨some 75, .load (some 3) (.t 74), (some (71, true))⟩,
 ⟨some 76, .mov (.t 5), (some (71, true))⟩,
 ⟨some 77, .mov (.t 13), (some (71, true))⟩,
 ⟨some 78, .ixa 3 (.t 76) (.t 77), (some (71, true))⟩,
 ⟨some 79, .load (some 3) (.t 78), (some (71, true))⟩,
 ⟨some 80, .eqs 3 true (.t 75) (.t 79), (some (71, true))⟩,
 ⟨some 81, .pick (.t 71) (.t 80) (.c (.v (.bool false))), none⟩,
 ⟨some 14, .mov (.t 81), none⟩] []) <|
 .keep [0, 1, 5, 12, 13, 14, 15] [[36], [58], [104]]) <|
 .keep [0, 1, 5, 12, 13, 14, 15] [[36], [58], [104]]) <|
 .seq (.reg [⟨some 68, .mov (.t 15), none⟩,
 ⟨some 69, .bin .add (.t 68) (.c (.v (.int .i64 1))), none⟩,
 ⟨some 15, .mov (.t 69), none⟩] []) <|
 .keep [0, 1, 5, 12, 13, 14, 15] [[36], [58], [104]]) <|
 .keep [0, 1, 5, 12, 13, 14, 15] [[36], [58], [104]]
def gantryref12_Sides_l3 : C :=
 .seq (.seq (.seq (.seq (.reg [⟨some 59, .mov (.t 13), none⟩,
 ⟨some 60, .mov (.t 5), none⟩,
 ⟨some 61, .len (.t 60), none⟩,
 ⟨some 62, .bin .lss (.t 59) (.t 61), none⟩] []) <|
 .keep [0, 1, 5, 12, 13, 62] [[36], [58], [104]]) <|
 .cond (.t 62) (.skip) <|
 .seq (.keep [12] [[104]]) <|
 .exit 4) <|
 .seq (.seq (.blk 5 <|
 .seq (.seq (.reg [⟨some 14, .mov (.c (.v (.bool true))), none⟩] []) <|
 .keep [0, 1, 5, 12, 13, 14] [[36], [58], [104]]) <|
 .seq (.seq (.seq (.reg [⟨some 15, .mov (.c (.v (.int .i64 0))), none⟩] []) <|
 .keep [0, 1, 5, 12, 13, 14, 15] [[36], [58], [104]]) <|
 .seq (.blk 6 <|
 .seq (.keep [0, 1, 5, 12, 13, 14, 15] [[36], [58], [104]]) <|
 .loop gantryref12_Sides_l2) <|
 .keep [0, 1, 5, 12, 13, 14] [[36], [58], [104]]) <|
 .seq (.seq (.reg [⟨some 82, .mov (.t 14), none⟩] []) <|
 .keep [0, 1, 5, 12, 13, 82] [[36], [58], [104]]) <|
 .cond (.t 82) (.seq (.reg [⟨some 83, .mov (.t 12), none⟩,
 ⟨some 84, .mov (.t 5), none⟩,
 ⟨some 85, .mov (.t 13), none⟩,
 ⟨some 86, .ixa 3 (.t 84) (.t 85), none⟩,
 ⟨some 87, .load (some 3) (.t 86), none⟩,
 ⟨some 88, .mov (.t 0), none⟩,
 ⟨some 89, .mov (.t 5), none⟩,
 ⟨some 90, .mov (.t 13), none⟩,
 ⟨some 91, .ixa 3 (.t 89) (.t 90), none⟩,
 ⟨some 92, .load (some 3) (.t 91), none⟩,
 ⟨some 93, .call n_gantryref12_Most [(.t 88), (.t 92)] false, none⟩,
 ⟨some 94, .mov (.t 1), none⟩,
 ⟨some 95, .mov (.t 5), none⟩,
 ⟨some 96, .mov (.t 13), none⟩,
 ⟨some 97, .ixa 3 (.t 95) (.t 96), none⟩,
 ⟨some 98, .load (some 3) (.t 97), none⟩,
 ⟨some 99, .call n_gantryref12_Turn [(.t 98)] false, none⟩,
 ⟨some 100, .call n_gantryref12_Most [(.t 94), (.t 99)] false, none⟩,
 ⟨some 101, .bin .add (.t 93) (.t 100), none⟩,
 ⟨some 102, .build [.v (.int .i64 0), .v (.int .i64 0), .v (.int .i64 0), .v (.int .i64 0)] [(0, 3, (.t 87)), (3, 1, (.t 101))], none⟩,
 ⟨some 103, .lit 4 1 [.v (.int .i64 0), .v (.int .i64 0), .v (.int .i64 0), .v (.int .i64 0)] [(0, (.t 102))] true, none⟩,
 ⟨some 104, .app 4 32 (.t 83) (.t 103) false, none⟩,
 ⟨some 12, .mov (.t 104), none⟩] []) <|
 .keep [0, 1, 5, 12, 13] [[36], [58], [104]]) <|
 .skip) <|
 .keep [0, 1, 5, 12, 13] [[36], [58], [104]]) <|
 .seq (.reg [⟨some 63, .mov (.t 13), none⟩,
 ⟨some 64, .bin .add (.t 63) (.c (.v (.int .i64 1))), none⟩,
 ⟨some 13, .mov (.t 64), none⟩] []) <|
 .keep [0, 1, 5, 12, 13] [[36], [58], [104]]) <|
 .keep [0, 1, 5, 12, 13] [[36], [58], [104]]
def gantryref12_Sides : CF := ⟨2, .seq (.seq (.reg [⟨some 4, .mov (.c (.z true)), none⟩] []) <|
 .keep [0, 1] []) <|
 .seq (.seq (.reg [⟨some 5, .mov (.c (.z true)), none⟩] []) <|
 .keep [0, 1, 5] [[36], [58]]) <|
 .seq (.seq (.seq (.reg [⟨some 6, .mov (.c (.v (.int .i64 0))), none⟩] []) <|
 .keep [0, 1, 5, 6] [[36], [58]]) <|
 .seq (.blk 0 <|
 .seq (.keep [0, 1, 5, 6] [[36], [58]]) <|
 .loop gantryref12_Sides_l0) <|
 .keep [0, 1, 5] [[36], [58]]) <|
 .seq (.seq (.seq (.reg [⟨some 9, .mov (.c (.v (.int .i64 0))), none⟩] []) <|
 .keep [0, 1, 5, 9] [[36], [58]]) <|
 .seq (.blk 2 <|
 .seq (.keep [0, 1, 5, 9] [[36], [58]]) <|
 .loop gantryref12_Sides_l1) <|
 .keep [0, 1, 5] [[36], [58]]) <|
 .seq (.seq (.reg [⟨some 12, .mov (.c (.z true)), none⟩] []) <|
 .keep [0, 1, 5, 12] [[36], [58], [104]]) <|
 .seq (.seq (.seq (.reg [⟨some 13, .mov (.c (.v (.int .i64 0))), none⟩] []) <|
 .keep [0, 1, 5, 12, 13] [[36], [58], [104]]) <|
 .seq (.blk 4 <|
 .seq (.keep [0, 1, 5, 12, 13] [[36], [58], [104]]) <|
 .loop gantryref12_Sides_l3) <|
 .keep [12] [[104]]) <|
 .seq (.seq (.reg [⟨some 105, .mov (.t 12), none⟩,
 ⟨some 4, .mov (.t 105), none⟩] []) <|
 .keep [4] [[104]]) <|
 .ret, [.t 4]⟩

def gantryref12_Vec : CF := ⟨2, .seq (.seq (.reg [⟨some 4, .new [.v (.bool false), .z true, .v (.bool false), .z true, .v (.bool false), .z true, .v (.bool false), .z true], none⟩] []) <|
 .keep [0, 1, 4] [[4]]) <|
 .seq (.seq (.reg [⟨some 7, .mov (.t 0), none⟩,
 ⟨some 8, .call n_gantryref01_Around [(.t 7), (.c (.v (.int .i64 96)))] false, none⟩,
 ⟨some 5, .mov (.t 8), none⟩] []) <|
 .keep [1, 4, 5] [[4]]) <|
 .seq (.seq (.reg [⟨some 9, .mov (.t 1), none⟩,
 ⟨some 10, .call n_gantryref01_Around [(.t 9), (.c (.v (.int .i64 96)))] false, none⟩,
 ⟨some 6, .mov (.t 10), none⟩] []) <|
 .keep [4, 5, 6] [[4]]) <|
 .seq (.seq (.reg [⟨some 11, .mov (.t 5), none⟩,
 ⟨some 12, .bin .rem (.t 11) (.c (.v (.int .i64 24))), none⟩,
 ⟨some 13, .bin .mul (.t 12) (.c (.v (.int .i64 2))), none⟩,
 ⟨some 14, .bin .sub (.t 13) (.c (.v (.int .i64 24))), none⟩,
 ⟨some 15, .mov (.t 5), none⟩,
 ⟨some 16, .bin .quo (.t 15) (.c (.v (.int .i64 72))), none⟩,
 ⟨some 17, .bin .add (.t 14) (.t 16), none⟩,
 ⟨some 18, .mov (.t 5), none⟩,
 ⟨some 19, .bin .quo (.t 18) (.c (.v (.int .i64 48))), none⟩,
 ⟨some 20, .bin .rem (.t 19) (.c (.v (.int .i64 2))), none⟩,
 ⟨some 21, .bin .add (.c (.v (.int .i64 2))) (.t 20), none⟩,
 ⟨some 22, .call n_gantryref05_Of [(.t 17), (.t 21)] false, none⟩,
 ⟨some 23, .mov (.t 6), none⟩,
 ⟨some 24, .bin .rem (.t 23) (.c (.v (.int .i64 24))), none⟩,
 ⟨some 25, .bin .mul (.t 24) (.c (.v (.int .i64 2))), none⟩,
 ⟨some 26, .bin .sub (.t 25) (.c (.v (.int .i64 24))), none⟩,
 ⟨some 27, .mov (.t 6), none⟩,
 ⟨some 28, .bin .quo (.t 27) (.c (.v (.int .i64 72))), none⟩,
 ⟨some 29, .bin .add (.t 26) (.t 28), none⟩,
 ⟨some 30, .mov (.t 6), none⟩,
 ⟨some 31, .bin .quo (.t 30) (.c (.v (.int .i64 48))), none⟩,
 ⟨some 32, .bin .rem (.t 31) (.c (.v (.int .i64 2))), none⟩,
 ⟨some 33, .bin .add (.c (.v (.int .i64 2))) (.t 32), none⟩,
 ⟨some 34, .call n_gantryref05_Of [(.t 29), (.t 33)] false, none⟩,
 ⟨some 35, .build [.v (.bool false), .z true, .v (.bool false), .z true, .v (.bool false), .z true, .v (.bool false), .z true] [(0, 4, (.t 22)), (4, 4, (.t 34))], none⟩,
 ⟨none, .store 8 (.t 4) (.t 35), none⟩] []) <|
 .keep [4] [[4]]) <|
 .ret, [.cell 4 (some 8)]⟩

def gantryref01_At : CF := ⟨3, .seq (.seq (.reg [⟨some 6, .mov (.c (.v (.int .i64 0))), none⟩] []) <|
 .keep [0, 1, 2] []) <|
 .seq (.seq (.seq (.reg [⟨some 7, .mov (.t 1), none⟩,
 ⟨some 8, .bin .lss (.t 7) (.c (.v (.int .i64 0))), none⟩,
 ⟨some 9, .mov (.t 8), none⟩,
 ⟨some 10, .mov (.t 1), (some (9, false))⟩,
 ⟨some 11, .mov (.t 0), (some (9, false))⟩,
 ⟨some 12, .len (.t 11), (some (9, false))⟩,
 ⟨some 13, .bin .geq (.t 10) (.t 12), (some (9, false))⟩,
 ⟨some 14, .pick (.t 9) (.c (.v (.bool true))) (.t 13), none⟩] []) <|
 .keep [0, 1, 2, 14] []) <|
 .cond (.t 14) (.seq (.seq (.reg [⟨some 6, .mov (.c (.v (.int .i64 0))), none⟩] []) <|
 .keep [6] []) <|
 .ret) <|
 .skip) <|
 .seq (.seq (.reg [⟨some 15, .mov (.t 0), none⟩,
 ⟨some 16, .mov (.t 1), none⟩,
 ⟨some 17, .ixa 1 (.t 15) (.t 16), none⟩,
 ⟨some 18, .load none (.t 17), none⟩,
 ⟨some 19, .mov (.t 2), none⟩,
 ⟨some 20, .call n_gantryref01_Around [(.t 18), (.t 19)] false, none⟩,
 ⟨some 6, .mov (.t 20), none⟩] []) <|
 .keep [6] []) <|
 .ret, [.t 6]⟩

def gantryref13_Touch : CF := ⟨4, .seq (.seq (.reg [⟨some 8, .new [.v (.bool false), .z true, .v (.bool false), .z true, .v (.bool false), .z true, .v (.bool false), .z true], none⟩] []) <|
 .keep [0, 1, 2, 3, 8] [[8]]) <|
 .seq (.seq (.reg [⟨some 15, .mov (.t 0), none⟩,
 ⟨some 16, .mov (.t 1), none⟩,
 ⟨some 17, .call n_gantryref12_Sum [(.t 15), (.t 16)] false, none⟩,
 ⟨some 9, .mov (.t 17), none⟩] []) <|
 .keep [2, 3, 8, 9] [[8]]) <|
 .seq (.seq (.reg [⟨some 10, .mov (.c (.v (.int .i64 0))), none⟩] []) <|
 .keep [2, 3, 8, 9, 10] [[8]]) <|
 .seq (.seq (.seq (.reg [⟨some 18, .mov (.t 9), none⟩,
 ⟨some 19, .len (.t 18), none⟩,
 ⟨some 20, .bin .gtr (.t 19) (.c (.v (.int .i64 0))), none⟩] []) <|
 .keep [2, 3, 8, 9, 10, 20] [[8]]) <|
 .cond (.t 20) (.seq (.seq (.reg [⟨some 21, .mov (.t 2), none⟩,
 ⟨some 22, .mov (.t 9), none⟩,
 ⟨some 23, .len (.t 22), none⟩,
 ⟨some 24, .bin .rem (.t 21) (.t 23), none⟩,
 ⟨some 10, .mov (.t 24), none⟩] []) <|
 .keep [3, 8, 9, 10] [[8]]) <|
 .seq (.seq (.reg [⟨some 25, .mov (.t 10), none⟩,
 ⟨some 26, .bin .lss (.t 25) (.c (.v (.int .i64 0))), none⟩] []) <|
 .keep [3, 8, 9, 10, 26] [[8]]) <|
 .cond (.t 26) (.seq (.reg [⟨some 27, .mov (.t 10), none⟩,
 ⟨some 28, .un .neg (.t 27), none⟩,
 ⟨some 10, .mov (.t 28), none⟩] []) <|
 .keep [3, 8, 9, 10] [[8]]) <|
 .skip) <|
 .skip) <|
 .seq (.seq (.reg [⟨some 29, .mov (.t 9), none⟩,
 ⟨some 30, .mov (.t 10), none⟩,
 ⟨some 31, .ixa 2 (.t 29) (.t 30), none⟩,
 ⟨some 32, .fad 0 (.t 31), none⟩,
 ⟨some 33, .load none (.t 32), none⟩,
 ⟨some 34, .call n_gantryref05_Of [(.t 33), (.c (.v (.int .i64 1)))] false, none⟩,
 ⟨some 35, .mov (.t 9), none⟩,
 ⟨some 36, .mov (.t 10), none⟩,
 ⟨some 37, .ixa 2 (.t 35) (.t 36), none⟩,
 ⟨some 38, .fad 1 (.t 37), none⟩,
 ⟨some 39, .load none (.t 38), none⟩,
 ⟨some 40, .call n_gantryref05_Of [(.t 39), (.c (.v (.int .i64 1)))] false, none⟩,
 ⟨some 41, .build [.v (.bool false), .z true, .v (.bool false), .z true, .v (.bool false), .z true, .v (.bool false), .z true] [(0, 4, (.t 34)), (4, 4, (.t 40))], none⟩,
 ⟨some 11, .new [.v (.bool false), .z true, .v (.bool false), .z true, .v (.bool false), .z true, .v (.bool false), .z true], none⟩,
 ⟨none, .store 8 (.t 11) (.t 41), none⟩] []) <|
 .keep [3, 8, 9, 10, 11] [[8], [11]]) <|
 .seq (.seq (.reg [⟨some 42, .mov (.t 9), none⟩,
 ⟨some 43, .mov (.t 10), none⟩,
 ⟨some 44, .call n_gantryref12_Next [(.t 42), (.t 43)] false, none⟩,
 ⟨some 12, .new [.v (.int .i64 0), .v (.int .i64 0)], none⟩,
 ⟨none, .store 2 (.t 12) (.t 44), none⟩] []) <|
 .keep [3, 8, 11, 12] [[8], [11], [12]]) <|
 .seq (.seq (.reg [⟨some 45, .fad 0 (.t 12), none⟩,
 ⟨some 46, .load none (.t 45), none⟩,
 ⟨some 47, .call n_gantryref05_Of [(.t 46), (.c (.v (.int .i64 1)))] false, none⟩,
 ⟨some 48, .fad 1 (.t 12), none⟩,
 ⟨some 49, .load none (.t 48), none⟩,
 ⟨some 50, .call n_gantryref05_Of [(.t 49), (.c (.v (.int .i64 1)))] false, none⟩,
 ⟨some 51, .build [.v (.bool false), .z true, .v (.bool false), .z true, .v (.bool false), .z true, .v (.bool false), .z true] [(0, 4, (.t 47)), (4, 4, (.t 50))], none⟩,
 ⟨some 13, .new [.v (.bool false), .z true, .v (.bool false), .z true, .v (.bool false), .z true, .v (.bool false), .z true], none⟩,
 ⟨none, .store 8 (.t 13) (.t 51), none⟩] []) <|
 .keep [3, 8, 11, 13] [[8], [11], [13]]) <|
 .seq (.seq (.reg [⟨some 52, .mov (.t 3), none⟩,
 ⟨some 53, .bin .rem (.t 52) (.c (.v (.int .i64 4))), none⟩,
 ⟨some 14, .mov (.t 53), none⟩] []) <|
 .keep [8, 11, 13, 14] [[8], [11], [13]]) <|
 .seq (.seq (.seq (.reg [⟨some 54, .mov (.t 14), none⟩,
 ⟨some 55, .bin .lss (.t 54) (.c (.v (.int .i64 0))), none⟩] []) <|
 .keep [8, 11, 13, 14, 55] [[8], [11], [13]]) <|
 .cond (.t 55) (.seq (.reg [⟨some 56, .mov (.t 14), none⟩,
 ⟨some 57, .un .neg (.t 56), none⟩,
 ⟨some 14, .mov (.t 57), none⟩] []) <|
 .keep [8, 11, 13, 14] [[8], [11], [13]]) <|
 .skip) <|
 .seq (.seq (.reg [⟨some 58, .load (some 8) (.t 11), none⟩,
 ⟨some 59, .mov (.t 14), none⟩,
 ⟨some 60, .call n_gantryref05_Of [(.t 59), (.c (.v (.int .i64 4)))] false, none⟩,
 ⟨some 61, .load (some 8) (.t 13), none⟩,
 ⟨some 62, .load (some 8) (.t 11), none⟩,
 ⟨some 63, .call n_gantryref13_Minus [(.t 61), (.t 62)] false, none⟩,
 ⟨some 64, .call n_gantryref13_Times [(.t 60), (.t 63)] false, none⟩,
 ⟨some 65, .call n_gantryref13_Plus [(.t 58), (.t 64)] false, none⟩,
 ⟨none, .store 8 (.t 8) (.t 65), none⟩] []) <|
 .keep [8] [[8]]) <|
 .ret, [.cell 8 (some 8)]⟩

def gantryref13_Times : CF := ⟨2, .seq (.seq (.reg [⟨some 2, .box (.t 0), none⟩,
 ⟨some 3, .box (.t 1), none⟩,
 ⟨some 4, .new [.v (.bool false), .z true, .v (.bool false), .z true, .v (.bool false), .z true, .v (.bool false), .z true], none⟩] []) <|
 .keep [2, 3, 4] [[2], [3], [4]]) <|
 .seq (.seq (.reg [⟨some 5, .load (some 4) (.t 2), none⟩,
 ⟨some 6, .fad 0 (.t 3), none⟩,
 ⟨some 7, .load (some 4) (.t 6), none⟩,
 ⟨some 8, .call n_gantryref05_Mul [(.t 5), (.t 7)] false, none⟩,
 ⟨some 9, .load (some 4) (.t 2), none⟩,
 ⟨some 10, .fad 4 (.t 3), none⟩,
 ⟨some 11, .load (some 4) (.t 10), none⟩,
 ⟨some 12, .call n_gantryref05_Mul [(.t 9), (.t 11)] false, none⟩,
 ⟨some 13, .build [.v (.bool false), .z true, .v (.bool false), .z true, .v (.bool false), .z true, .v (.bool false), .z true] [(0, 4, (.t 8)), (4, 4, (.t 12))], none⟩,
 ⟨none, .store 8 (.t 4) (.t 13), none⟩] []) <|
 .keep [4] [[4]]) <|
 .ret, [.cell 4 (some 8)]⟩

def gantryref05_Of : CF := ⟨2, .seq (.seq (.reg [⟨some 4, .new [.v (.bool false), .z true, .v (.bool false), .z true], none⟩] []) <|
 .keep [0, 1, 4] [[4]]) <|
 .seq (.seq (.reg [⟨some 5, .mov (.t 0), none⟩,
 ⟨some 6, .call n_gantryref04_Of [(.t 5)] false, none⟩,
 ⟨some 7, .mov (.t 1), none⟩,
 ⟨some 8, .call n_gantryref04_Of [(.t 7)] false, none⟩,
 ⟨some 9, .call n_gantryref05_Make [(.t 6), (.t 8)] false, none⟩,
 ⟨none, .store 4 (.t 4) (.t 9), none⟩] []) <|
 .keep [4] [[4]]) <|
 .ret, [.cell 4 (some 4)]⟩

def gap_Free : CF := ⟨4, .seq (.seq (.reg [⟨some 5, .box (.t 1), none⟩,
 ⟨some 6, .box (.t 2), none⟩,
 ⟨some 7, .box (.t 3), none⟩,
 ⟨some 8, .mov (.c (.v (.int .i64 0))), none⟩] []) <|
 .keep [0, 5, 6, 7] [[5], [6], [7]]) <|
 .seq (.seq (.reg [⟨some 9, .mov (.t 0), none⟩,
 ⟨some 10, .mkfn n_gap_Free_1 [(.t 5), (.t 6), (.t 7)] true, none⟩,
 ⟨some 11, .call n_slices_IndexFunc_api_Edge_api_Edge [(.t 9), (.t 10)] false, none⟩,
 ⟨some 8, .mov (.t 11), none⟩] []) <|
 .keep [8] []) <|
 .ret, [.t 8]⟩

def gantryref13_Free_l0 : C :=
 .seq (.seq (.seq (.seq (.reg [⟨some 10, .mov (.t 9), none⟩,
 ⟨some 11, .mov (.t 0), none⟩,
 ⟨some 12, .len (.t 11), none⟩,
 ⟨some 13, .bin .lss (.t 10) (.t 12), none⟩] []) <|
 .keep [0, 5, 6, 7, 9, 13] [[5], [6], [7]]) <|
 .cond (.t 13) (.skip) <|
 .seq (.keep [] []) <|
 .exit 0) <|
 .seq (.seq (.blk 1 <|
 .seq (.seq (.reg [⟨some 16, .mov (.t 0), none⟩,
 ⟨some 17, .mov (.t 9), none⟩,
 ⟨some 18, .ixa 4 (.t 16) (.t 17), none⟩,
 ⟨some 19, .load (some 4) (.t 18), none⟩,
 ⟨some 20, .load (some 8) (.t 5), none⟩,
 ⟨some 21, .load (some 8) (.t 6), none⟩,
 ⟨some 22, .load (some 8) (.t 7), none⟩,
 ⟨some 23, .call n_gantryref13_Along [(.t 19), (.t 20), (.t 21), (.t 22)] false, none⟩,
 ⟨some 24, .call n_gantryref13_Stays [(.t 23)] false, none⟩] []) <|
 .keep [0, 5, 6, 7, 9, 24] [[5], [6], [7]]) <|
 .cond (.t 24) (.seq (.seq (.reg [⟨some 25, .mov (.t 9), none⟩,
 ⟨some 8, .mov (.t 25), none⟩] []) <|
 .keep [8] []) <|
 .ret) <|
 .skip) <|
 .keep [0, 5, 6, 7, 9] [[5], [6], [7]]) <|
 .seq (.reg [⟨some 14, .mov (.t 9), none⟩,
 ⟨some 15, .bin .add (.t 14) (.c (.v (.int .i64 1))), none⟩,
 ⟨some 9, .mov (.t 15), none⟩] []) <|
 .keep [0, 5, 6, 7, 9] [[5], [6], [7]]) <|
 .keep [0, 5, 6, 7, 9] [[5], [6], [7]]
def gantryref13_Free : CF := ⟨4, .seq (.seq (.reg [⟨some 5, .box (.t 1), none⟩,
 ⟨some 6, .box (.t 2), none⟩,
 ⟨some 7, .box (.t 3), none⟩,
 ⟨some 8, .mov (.c (.v (.int .i64 0))), none⟩] []) <|
 .keep [0, 5, 6, 7] [[5], [6], [7]]) <|
 .seq (.seq (.seq (.reg [⟨some 9, .mov (.c (.v (.int .i64 0))), none⟩] []) <|
 .keep [0, 5, 6, 7, 9] [[5], [6], [7]]) <|
 .seq (.blk 0 <|
 .seq (.keep [0, 5, 6, 7, 9] [[5], [6], [7]]) <|
 .loop gantryref13_Free_l0) <|
 .keep [] []) <|
 .seq (.seq (.reg [⟨some 8, .mov (.c (.v (.int .i64 (-1)))), none⟩] []) <|
 .keep [8] []) <|
 .ret, [.t 8]⟩

def gap_Contact : CF := ⟨3, .seq (.seq (.reg [⟨some 4, .box (.t 1), none⟩,
 ⟨some 5, .box (.t 2), none⟩,
 ⟨some 6, .mov (.c (.v (.int .i64 0))), none⟩] []) <|
 .keep [0, 4, 5] [[4], [5]]) <|
 .seq (.seq (.reg [⟨some 8, .mkfn n_gap_Contact_1 [(.t 4), (.t 5)] true, none⟩,
 ⟨some 7, .mov (.t 8), none⟩] []) <|
 .keep [0, 4, 5, 7] [[4], [5]]) <|
 .seq (.seq (.seq (.reg [⟨some 9, .mov (.t 0), none⟩,
 ⟨some 10, .mov (.t 7), none⟩,
 ⟨some 11, .call n_slices_ContainsFunc_api_Edge_api_Edge [(.t 9), (.t 10)] false, none⟩] []) <|
 .keep [0, 4, 5, 11] [[4], [5]]) <|
 .cond (.t 11) (.seq (.seq (.reg [⟨some 6, .mov (.c (.v (.int .i64 (-1)))), none⟩] []) <|
 .keep [6] []) <|
 .ret) <|
 .skip) <|
 .seq (.seq (.reg [⟨some 12, .mov (.t 0), none⟩,
 ⟨some 13, .mkfn n_gap_Contact_2 [(.t 5), (.t 4)] true, none⟩,
 ⟨some 14, .call n_gap_greatest_api_Edge [(.t 12), (.t 13)] false, none⟩,
 ⟨some 6, .mov (.t 14), none⟩] []) <|
 .keep [6] []) <|
 .ret, [.t 6]⟩

def gantryref13_Contact_l0 : C :=
 .seq (.seq (.seq (.seq (.reg [⟨some 10, .mov (.t 8), none⟩,
 ⟨some 11, .mov (.t 0), none⟩,
 ⟨some 12, .len (.t 11), none⟩,
 ⟨some 13, .bin .lss (.t 10) (.t 12), none⟩] []) <|
 .keep [0, 4, 5, 7, 8, 13] [[4], [5]]) <|
 .cond (.t 13) (.skip) <|
 .seq (.keep [7] []) <|
 .exit 0) <|
 .seq (.seq (.blk 1 <|
 .seq (.seq (.reg [⟨some 16, .mov (.t 0), none⟩,
 ⟨some 17, .mov (.t 8), none⟩,
 ⟨some 18, .ixa 4 (.t 16) (.t 17), none⟩,
 ⟨some 19, .load (some 4) (.t 18), none⟩,
 ⟨some 20, .load (some 8) (.t 4), none⟩,
 ⟨some 21, .call n_gantryref13_Gap [(.t 19), (.t 20)] false, none⟩,
 ⟨some 22, .call n_gantryref05_Sign [(.t 21)] false, none⟩,
 ⟨some 9, .mov (.t 22), none⟩] []) <|
 .keep [0, 4, 5, 7, 8, 9] [[4], [5]]) <|
 .seq (.seq (.seq (.reg [⟨some 23, .mov (.t 9), none⟩,
 ⟨some 24, .bin .gtr (.t 23) (.c (.v (.int .i64 0))), none⟩,
 ⟨some 25, .mov (.t 24), none⟩,
 ⟨some 26, .mov (.t 9), (some (25, false))⟩,
 ⟨some 27, .bin .eql (.t 26) (.c (.v (.int .i64 0))), (some (25, false))⟩,
 ⟨some 28, .mov (.t 27), (some (25, false))⟩,
 ⟨some 29, .mov (.t 0), (some (28, true))⟩,
 ⟨some 30, .mov (.t 8), (some (28, true))⟩,
 ⟨some 31, .ixa 4 (.t 29) (.t 30), (some (28, true))⟩,
 ⟨some 32, .load (some 4) (.t 31), (some (28, true))⟩,
 ⟨some 33, .load (some 8) (.t 5), (some (28, true))⟩,
 ⟨some 34, .call n_gantryref13_Rate [(.t 32), (.t 33)] false, (some (28, true))⟩,
 ⟨some 35, .call n_gantryref05_Sign [(.t 34)] false, (some (28, true))⟩,
 ⟨some 36, .bin .gtr (.t 35) (.c (.v (.int .i64 0))), (some (28, true))⟩,
 ⟨some 37, .pick (.t 28) (.t 36) (.c (.v (.bool false))), (some (25, false))⟩,
 ⟨some 38, .pick (.t 25) (.c (.v (.bool true))) (.t 37), none⟩] []) <|
 .keep [0, 4, 5, 7, 8, 9, 38] [[4], [5]]) <|
 .cond (.t 38) (.seq (.seq (.reg [⟨some 6, .mov (.c (.v (.int .i64 (-1)))), none⟩] []) <|
 .keep [6] []) <|
 .ret) <|
 .skip) <|
 .seq (.seq (.seq (.reg [⟨some 39, .mov (.t 9), none⟩,
 ⟨some 40, .bin .lss (.t 39) (.c (.v (.int .i64 0))), none⟩] []) <|
 .keep [0, 4, 5, 7, 8, 40] [[4], [5]]) <|
 .cond (.t 40) (.seq (.keep [0, 4, 5, 7, 8] [[4], [5]]) <|
 .exit 1) <|
 .skip) <|
 .seq (.seq (.reg [⟨some 41, .mov (.t 7), none⟩,
 ⟨some 42, .bin .lss (.t 41) (.c (.v (.int .i64 0))), none⟩] []) <|
 .keep [0, 4, 5, 7, 8, 42] [[4], [5]]) <|
 .cond (.t 42) (.seq (.reg [⟨some 43, .mov (.t 8), none⟩,
 ⟨some 7, .mov (.t 43), none⟩] []) <|
 .keep [0, 4, 5, 7, 8] [[4], [5]]) <|
 .seq (.seq (.reg [⟨some 44, .mov (.t 0), none⟩,
 ⟨some 45, .mov (.t 8), none⟩,
 ⟨some 46, .ixa 4 (.t 44) (.t 45), none⟩,
 ⟨some 47, .load (some 4) (.t 46), none⟩,
 ⟨some 48, .load (some 8) (.t 5), none⟩,
 ⟨some 49, .call n_gantryref13_Rate [(.t 47), (.t 48)] false, none⟩,
 ⟨some 50, .mov (.t 0), none⟩,
 ⟨some 51, .mov (.t 7), none⟩,
 ⟨some 52, .ixa 4 (.t 50) (.t 51), none⟩,
 ⟨some 53, .load (some 4) (.t 52), none⟩,
 ⟨some 54, .load (some 8) (.t 5), none⟩,
 ⟨some 55, .call n_gantryref13_Rate [(.t 53), (.t 54)] false, none⟩,
 ⟨some 56, .call n_gantryref05_Compare [(.t 49), (.t 55)] false, none⟩,
 ⟨some 57, .bin .gtr (.t 56) (.c (.v (.int .i64 0))), none⟩] []) <|
 .keep [0, 4, 5, 7, 8, 57] [[4], [5]]) <|
 .cond (.t 57) (.seq (.reg [⟨some 58, .mov (.t 8), none⟩,
 ⟨some 7, .mov (.t 58), none⟩] []) <|
 .keep [0, 4, 5, 7, 8] [[4], [5]]) <|
 .skip) <|
 .keep [0, 4, 5, 7, 8] [[4], [5]]) <|
 .seq (.reg [⟨some 14, .mov (.t 8), none⟩,
 ⟨some 15, .bin .add (.t 14) (.c (.v (.int .i64 1))), none⟩,
 ⟨some 8, .mov (.t 15), none⟩] []) <|
 .keep [0, 4, 5, 7, 8] [[4], [5]]) <|
 .keep [0, 4, 5, 7, 8] [[4], [5]]
def gantryref13_Contact : CF := ⟨3, .seq (.seq (.reg [⟨some 4, .box (.t 1), none⟩,
 ⟨some 5, .box (.t 2), none⟩,
 ⟨some 6, .mov (.c (.v (.int .i64 0))), none⟩] []) <|
 .keep [0, 4, 5] [[4], [5]]) <|
 .seq (.seq (.reg [⟨some 7, .mov (.c (.v (.int .i64 (-1)))), none⟩] []) <|
 .keep [0, 4, 5, 7] [[4], [5]]) <|
 .seq (.seq (.seq (.reg [⟨some 8, .mov (.c (.v (.int .i64 0))), none⟩] []) <|
 .keep [0, 4, 5, 7, 8] [[4], [5]]) <|
 .seq (.blk 0 <|
 .seq (.keep [0, 4, 5, 7, 8] [[4], [5]]) <|
 .loop gantryref13_Contact_l0) <|
 .keep [7] []) <|
 .seq (.seq (.reg [⟨some 59, .mov (.t 7), none⟩,
 ⟨some 6, .mov (.t 59), none⟩] []) <|
 .keep [6] []) <|
 .ret, [.t 6]⟩

def gantryref13_Plus : CF := ⟨2, .seq (.seq (.reg [⟨some 2, .box (.t 0), none⟩,
 ⟨some 3, .box (.t 1), none⟩,
 ⟨some 4, .new [.v (.bool false), .z true, .v (.bool false), .z true, .v (.bool false), .z true, .v (.bool false), .z true], none⟩] []) <|
 .keep [2, 3, 4] [[2], [3], [4]]) <|
 .seq (.seq (.reg [⟨some 5, .fad 0 (.t 2), none⟩,
 ⟨some 6, .load (some 4) (.t 5), none⟩,
 ⟨some 7, .fad 0 (.t 3), none⟩,
 ⟨some 8, .load (some 4) (.t 7), none⟩,
 ⟨some 9, .call n_gantryref05_Add [(.t 6), (.t 8)] false, none⟩,
 ⟨some 10, .fad 4 (.t 2), none⟩,
 ⟨some 11, .load (some 4) (.t 10), none⟩,
 ⟨some 12, .fad 4 (.t 3), none⟩,
 ⟨some 13, .load (some 4) (.t 12), none⟩,
 ⟨some 14, .call n_gantryref05_Add [(.t 11), (.t 13)] false, none⟩,
 ⟨some 15, .build [.v (.bool false), .z true, .v (.bool false), .z true, .v (.bool false), .z true, .v (.bool false), .z true] [(0, 4, (.t 9)), (4, 4, (.t 14))], none⟩,
 ⟨none, .store 8 (.t 4) (.t 15), none⟩] []) <|
 .keep [4] [[4]]) <|
 .ret, [.cell 4 (some 8)]⟩

def gap_Best : CF := ⟨3, .seq (.seq (.reg [⟨some 4, .box (.t 1), none⟩,
 ⟨some 5, .box (.t 2), none⟩,
 ⟨some 6, .mov (.c (.v (.int .i64 0))), none⟩] []) <|
 .keep [0, 4, 5] [[4], [5]]) <|
 .seq (.seq (.reg [⟨some 7, .mov (.t 0), none⟩,
 ⟨some 8, .mkfn n_gap_Best_1 [(.t 5), (.t 4)] true, none⟩,
 ⟨some 9, .call n_gap_greatest_api_Edge [(.t 7), (.t 8)] false, none⟩,
 ⟨some 6, .mov (.t 9), none⟩] []) <|
 .keep [6] []) <|
 .ret, [.t 6]⟩

def gantryref13_Best_l0 : C :=
 .seq (.seq (.seq (.seq (.reg [⟨some 9, .mov (.t 8), none⟩,
 ⟨some 10, .mov (.t 0), none⟩,
 ⟨some 11, .len (.t 10), none⟩,
 ⟨some 12, .bin .lss (.t 9) (.t 11), none⟩] []) <|
 .keep [0, 4, 5, 7, 8, 12] [[4], [5]]) <|
 .cond (.t 12) (.skip) <|
 .seq (.keep [7] []) <|
 .exit 0) <|
 .seq (.seq (.blk 1 <|
 .seq (.seq (.seq (.reg [⟨some 15, .mov (.t 0), none⟩,
 ⟨some 16, .mov (.t 8), none⟩,
 ⟨some 17, .ixa 4 (.t 15) (.t 16), none⟩,
 ⟨some 18, .load (some 4) (.t 17), none⟩,
 ⟨some 19, .load (some 8) (.t 4), none⟩,
 ⟨some 20, .call n_gantryref13_Gap [(.t 18), (.t 19)] false, none⟩,
 ⟨some 21, .call n_gantryref05_Sign [(.t 20)] false, none⟩,
 ⟨some 22, .bin .lss (.t 21) (.c (.v (.int .i64 0))), none⟩] []) <|
 .keep [0, 4, 5, 7, 8, 22] [[4], [5]]) <|
 .cond (.t 22) (.seq (.keep [0, 4, 5, 7, 8] [[4], [5]]) <|
 .exit 1) <|
 .skip) <|
 .seq (.seq (.reg [⟨some 23, .mov (.t 7), none⟩,
 ⟨some 24, .bin .lss (.t 23) (.c (.v (.int .i64 0))), none⟩] []) <|
 .keep [0, 4, 5, 7, 8, 24] [[4], [5]]) <|
 .cond (.t 24) (.seq (.reg [⟨some 25, .mov (.t 8), none⟩,
 ⟨some 7, .mov (.t 25), none⟩] []) <|
 .keep [0, 4, 5, 7, 8] [[4], [5]]) <|
 .seq (.seq (.reg [⟨some 26, .mov (.t 0), none⟩,
 ⟨some 27, .mov (.t 8), none⟩,
 ⟨some 28, .ixa 4 (.t 26) (.t 27), none⟩,
 ⟨some 29, .load (some 4) (.t 28), none⟩,
 ⟨some 30, .load (some 8) (.t 5), none⟩,
 ⟨some 31, .call n_gantryref13_Gap [(.t 29), (.t 30)] false, none⟩,
 ⟨some 32, .mov (.t 0), none⟩,
 ⟨some 33, .mov (.t 7), none⟩,
 ⟨some 34, .ixa 4 (.t 32) (.t 33), none⟩,
 ⟨some 35, .load (some 4) (.t 34), none⟩,
 ⟨some 36, .load (some 8) (.t 5), none⟩,
 ⟨some 37, .call n_gantryref13_Gap [(.t 35), (.t 36)] false, none⟩,
 ⟨some 38, .call n_gantryref05_Compare [(.t 31), (.t 37)] false, none⟩,
 ⟨some 39, .bin .gtr (.t 38) (.c (.v (.int .i64 0))), none⟩] []) <|
 .keep [0, 4, 5, 7, 8, 39] [[4], [5]]) <|
 .cond (.t 39) (.seq (.reg [⟨some 40, .mov (.t 8), none⟩,
 ⟨some 7, .mov (.t 40), none⟩] []) <|
 .keep [0, 4, 5, 7, 8] [[4], [5]]) <|
 .skip) <|
 .keep [0, 4, 5, 7, 8] [[4], [5]]) <|
 .seq (.reg [⟨some 13, .mov (.t 8), none⟩,
 ⟨some 14, .bin .add (.t 13) (.c (.v (.int .i64 1))), none⟩,
 ⟨some 8, .mov (.t 14), none⟩] []) <|
 .keep [0, 4, 5, 7, 8] [[4], [5]]) <|
 .keep [0, 4, 5, 7, 8] [[4], [5]]
def gantryref13_Best : CF := ⟨3, .seq (.seq (.reg [⟨some 4, .box (.t 1), none⟩,
 ⟨some 5, .box (.t 2), none⟩,
 ⟨some 6, .mov (.c (.v (.int .i64 0))), none⟩] []) <|
 .keep [0, 4, 5] [[4], [5]]) <|
 .seq (.seq (.reg [⟨some 7, .mov (.c (.v (.int .i64 (-1)))), none⟩] []) <|
 .keep [0, 4, 5, 7] [[4], [5]]) <|
 .seq (.seq (.seq (.reg [⟨some 8, .mov (.c (.v (.int .i64 0))), none⟩] []) <|
 .keep [0, 4, 5, 7, 8] [[4], [5]]) <|
 .seq (.blk 0 <|
 .seq (.keep [0, 4, 5, 7, 8] [[4], [5]]) <|
 .loop gantryref13_Best_l0) <|
 .keep [7] []) <|
 .seq (.seq (.reg [⟨some 41, .mov (.t 7), none⟩,
 ⟨some 6, .mov (.t 41), none⟩] []) <|
 .keep [6] []) <|
 .ret, [.t 6]⟩

def gap_Meet : CF := ⟨2, .seq (.seq (.reg [⟨some 3, .box (.t 1), none⟩,
 ⟨some 4, .mov (.c (.v (.bool false))), none⟩] []) <|
 .keep [0, 3] [[3]]) <|
 .seq (.seq (.reg [⟨some 5, .mov (.t 0), none⟩,
 ⟨some 6, .mkfn n_gap_Meet_1 [(.t 3)] true, none⟩,
 ⟨some 7, .call n_slices_ContainsFunc_api_Edge_api_Edge [(.t 5), (.t 6)] false, none⟩,
 ⟨some 8, .un .not (.t 7), none⟩,
 ⟨some 4, .mov (.t 8), none⟩] []) <|
 .keep [4] []) <|
 .ret, [.t 4]⟩

def gantryref13_Meet_l0 : C :=
 .seq (.seq (.seq (.seq (.reg [⟨some 6, .mov (.t 5), none⟩,
 ⟨some 7, .mov (.t 0), none⟩,
 ⟨some 8, .len (.t 7), none⟩,
 ⟨some 9, .bin .lss (.t 6) (.t 8), none⟩] []) <|
 .keep [0, 3, 5, 9] [[3]]) <|
 .cond (.t 9) (.skip) <|
 .seq (.keep [] []) <|
 .exit 0) <|
 .seq (.seq (.blk 1 <|
 .seq (.seq (.reg [⟨some 12, .mov (.t 0), none⟩,
 ⟨some 13, .mov (.t 5), none⟩,
 ⟨some 14, .ixa 4 (.t 12) (.t 13), none⟩,
 ⟨some 15, .load (some 4) (.t 14), none⟩,
 ⟨some 16, .load (some 8) (.t 3), none⟩,
 ⟨some 17, .call n_gantryref13_Gap [(.t 15), (.t 16)] false, none⟩,
 ⟨some 18, .call n_gantryref05_Sign [(.t 17)] false, none⟩,
 ⟨some 19, .bin .geq (.t 18) (.c (.v (.int .i64 0))), none⟩] []) <|
 .keep [0, 3, 5, 19] [[3]]) <|
 .cond (.t 19) (.seq (.seq (.reg [⟨some 4, .mov (.c (.v (.bool false))), none⟩] []) <|
 .keep [4] []) <|
 .ret) <|
 .skip) <|
 .keep [0, 3, 5] [[3]]) <|
 .seq (.reg [⟨some 10, .mov (.t 5), none⟩,
 ⟨some 11, .bin .add (.t 10) (.c (.v (.int .i64 1))), none⟩,
 ⟨some 5, .mov (.t 11), none⟩] []) <|
 .keep [0, 3, 5] [[3]]) <|
 .keep [0, 3, 5] [[3]]
def gantryref13_Meet : CF := ⟨2, .seq (.seq (.reg [⟨some 3, .box (.t 1), none⟩,
 ⟨some 4, .mov (.c (.v (.bool false))), none⟩] []) <|
 .keep [0, 3] [[3]]) <|
 .seq (.seq (.seq (.reg [⟨some 5, .mov (.c (.v (.int .i64 0))), none⟩] []) <|
 .keep [0, 3, 5] [[3]]) <|
 .seq (.blk 0 <|
 .seq (.keep [0, 3, 5] [[3]]) <|
 .loop gantryref13_Meet_l0) <|
 .keep [] []) <|
 .seq (.seq (.reg [⟨some 4, .mov (.c (.v (.bool true))), none⟩] []) <|
 .keep [4] []) <|
 .ret, [.t 4]⟩

def gantrylaw13_lives : CF := ⟨0, .seq (.seq (.reg [⟨some 0, .mov (.c (.v (.bool false))), none⟩] []) <|
 .keep [] []) <|
 .seq (.seq (.reg [⟨some 7, .build [.v (.int .i64 0), .v (.int .i64 0)] [], none⟩,
 ⟨some 8, .build [.v (.int .i64 0), .v (.int .i64 0)] [(0, 1, (.c (.v (.int .i64 2))))], none⟩,
 ⟨some 9, .build [.v (.int .i64 0), .v (.int .i64 0)] [(0, 1, (.c (.v (.int .i64 2)))), (1, 1, (.c (.v (.int .i64 2))))], none⟩,
 ⟨some 10, .build [.v (.int .i64 0), .v (.int .i64 0)] [(1, 1, (.c (.v (.int .i64 2))))], none⟩,
 ⟨some 11, .lit 2 4 [.v (.int .i64 0), .v (.int .i64 0)] [(0, (.t 7)), (1, (.t 8)), (2, (.t 9)), (3, (.t 10))] true, none⟩,
 ⟨some 1, .mov (.t 11), none⟩] []) <|
 .keep [1] []) <|
 .seq (.seq (.reg [⟨some 12, .mov (.t 1), none⟩,
 ⟨some 13, .mov (.t 1), none⟩,
 ⟨some 14, .call n_gantryref12_Sides [(.t 12), (.t 13)] false, none⟩,
 ⟨some 2, .mov (.t 14), none⟩] []) <|
 .keep [2] []) <|
 .seq (.seq (.reg [⟨some 15, .call n_gantrylaw13_vec [(.c (.v (.int .i64 0))), (.c (.v (.int .i64 0)))] false, none⟩,
 ⟨some 3, .new [.v (.bool false), .z true, .v (.bool false), .z true, .v (.bool false), .z true, .v (.bool false), .z true], none⟩,
 ⟨none, .store 8 (.t 3) (.t 15), none⟩] []) <|
 .keep [2, 3] [[3]]) <|
 .seq (.seq (.reg [⟨some 16, .mov (.t 2), none⟩,
 ⟨some 17, .ixa 4 (.t 16) (.c (.v (.int .i64 2))), none⟩,
 ⟨some 18, .load (some 4) (.t 17), none⟩,
 ⟨some 19, .call n_gantrylaw13_vec [(.c (.v (.int .i64 1))), (.c (.v (.int .i64 5)))] false, none⟩,
 ⟨some 20, .call n_gap_Gap [(.t 18), (.t 19)] false, none⟩,
 ⟨some 21, .call n_gantryref05_Of [(.c (.v (.int .i64 3))), (.c (.v (.int .i64 1)))] false, none⟩,
 ⟨some 22, .call n_gantryref05_Same [(.t 20), (.t 21)] false, none⟩,
 ⟨some 23, .mov (.t 22), none⟩,
 ⟨some 24, .mov (.t 2), (some (23, true))⟩,
 ⟨some 25, .call n_gantrylaw13_vec [(.c (.v (.int .i64 1))), (.c (.v (.int .i64 1)))] false, (some (23, true))⟩,
 ⟨some 26, .call n_gap_Meet [(.t 24), (.t 25)] false, (some (23, true))⟩,
 ⟨some 27, .pick (.t 23) (.t 26) (.c (.v (.bool false))), none⟩,
 ⟨some 28, .mov (.t 27), none⟩,
 ⟨some 29, .mov (.t 2), (some (28, true))⟩,
 ⟨some 30, .call n_gantrylaw13_vec [(.c (.v (.int .i64 2))), (.c (.v (.int .i64 0)))] false, (some (28, true))⟩,
 ⟨some 31, .call n_gap_Meet [(.t 29), (.t 30)] false, (some (28, true))⟩,
 ⟨some 32, .un .not (.t 31), (some (28, true))⟩,
 ⟨some 33, .pick (.t 28) (.t 32) (.c (.v (.bool false))), none⟩,
 ⟨some 4, .mov (.t 33), none⟩] []) <|
 .keep [2, 3, 4] [[3]]) <|
 .seq (.seq (.reg [⟨some 34, .mov (.t 2), none⟩,
 ⟨some 35, .call n_gantrylaw13_vec [(.c (.v (.int .i64 0))), (.c (.v (.int .i64 3)))] false, none⟩,
 ⟨some 36, .call n_gantrylaw13_vec [(.c (.v (.int .i64 0))), (.c (.v (.int .i64 (-2))))] false, none⟩,
 ⟨some 37, .load (some 8) (.t 3), none⟩,
 ⟨some 38, .call n_gap_Free [(.t 34), (.t 35), (.t 36), (.t 37)] false, none⟩,
 ⟨some 39, .bin .eql (.t 38) (.c (.v (.int .i64 (-1)))), none⟩,
 ⟨some 40, .mov (.t 39), none⟩,
 ⟨some 41, .mov (.t 2), (some (40, true))⟩,
 ⟨some 42, .call n_gantrylaw13_vec [(.c (.v (.int .i64 0))), (.c (.v (.int .i64 3)))] false, (some (40, true))⟩,
 ⟨some 43, .call n_gantrylaw13_vec [(.c (.v (.int .i64 5))), (.c (.v (.int .i64 (-2))))] false, (some (40, true))⟩,
 ⟨some 44, .load (some 8) (.t 3), (some (40, true))⟩,
 ⟨some 45, .call n_gap_Free [(.t 41), (.t 42), (.t 43), (.t 44)] false, (some (40, true))⟩,
 ⟨some 46, .bin .eql (.t 45) (.c (.v (.int .i64 (-1)))), (some (40, true))⟩,
 ⟨some 47, .pick (.t 40) (.t 46) (.c (.v (.bool false))), none⟩,
 ⟨some 48, .mov (.t 47), none⟩,
 ⟨some 49, .mov (.t 2), (some (48, true))⟩,
 ⟨some 50, .call n_gantrylaw13_vec [(.c (.v (.int .i64 0))), (.c (.v (.int .i64 3)))] false, (some (48, true))⟩,
 ⟨some 51, .call n_gantrylaw13_vec [(.c (.v (.int .i64 5))), (.c (.v (.int .i64 1)))] false, (some (48, true))⟩,
 ⟨some 52, .call n_gap_Best [(.t 49), (.t 50), (.t 51)] false, (some (48, true))⟩,
 ⟨some 53, .bin .eql (.t 52) (.c (.v (.int .i64 2))), (some (48, true))⟩,
 ⟨some 54, .pick (.t 48) (.t 53) (.c (.v (.bool false))), none⟩,
 ⟨some 5, .mov (.t 54), none⟩] []) <|
 .keep [2, 3, 4, 5] [[3]]) <|
 .seq (.seq (.reg [⟨some 55, .mov (.t 2), none⟩,
 ⟨some 56, .call n_gantrylaw13_vec [(.c (.v (.int .i64 1))), (.c (.v (.int .i64 2)))] false, none⟩,
 ⟨some 57, .call n_gantrylaw13_vec [(.c (.v (.int .i64 1))), (.c (.v (.int .i64 0)))] false, none⟩,
 ⟨some 58, .call n_gap_Contact [(.t 55), (.t 56), (.t 57)] false, none⟩,
 ⟨some 59, .bin .eql (.t 58) (.c (.v (.int .i64 2))), none⟩,
 ⟨some 60, .mov (.t 59), none⟩,
 ⟨some 61, .mov (.t 2), (some (60, true))⟩,
 ⟨some 62, .call n_gantrylaw13_vec [(.c (.v (.int .i64 1))), (.c (.v (.int .i64 2)))] false, (some (60, true))⟩,
 ⟨some 63, .call n_gantrylaw13_vec [(.c (.v (.int .i64 1))), (.c (.v (.int .i64 (-1))))] false, (some (60, true))⟩,
 ⟨some 64, .call n_gap_Contact [(.t 61), (.t 62), (.t 63)] false, (some (60, true))⟩,
 ⟨some 65, .bin .eql (.t 64) (.c (.v (.int .i64 2))), (some (60, true))⟩,
 ⟨some 66, .pick (.t 60) (.t 65) (.c (.v (.bool false))), none⟩,
 ⟨some 67, .mov (.t 66), none⟩,
 ⟨some 68, .mov (.t 2), (some (67, true))⟩,
 ⟨some 69, .call n_gantrylaw13_vec [(.c (.v (.int .i64 1))), (.c (.v (.int .i64 2)))] false, (some (67, true))⟩,
 ⟨some 70, .call n_gantrylaw13_vec [(.c (.v (.int .i64 0))), (.c (.v (.int .i64 1)))] false, (some (67, true))⟩,
 ⟨some 71, .call n_gap_Contact [(.t 68), (.t 69), (.t 70)] false, (some (67, true))⟩,
 ⟨some 72, .bin .eql (.t 71) (.c (.v (.int .i64 (-1)))), (some (67, true))⟩,
 ⟨some 73, .pick (.t 67) (.t 72) (.c (.v (.bool false))), none⟩,
 ⟨some 6, .mov (.t 73), none⟩] []) <|
 .keep [2, 3, 4, 5, 6] [[3]]) <|
 .seq (.seq (.reg [⟨some 74, .mov (.t 4), none⟩,
 ⟨some 75, .mov (.t 74), none⟩,
 ⟨some 76, .mov (.t 5), (some (75, true))⟩,
 ⟨some 77, .pick (.t 75) (.t 76) (.c (.v (.bool false))), none⟩,
 ⟨some 78, .mov (.t 77), none⟩,
 ⟨some 79, .mov (.t 6), (some (78, true))⟩,
 ⟨some 80, .pick (.t 78) (.t 79) (.c (.v (.bool false))), none⟩,
 ⟨some 81, .mov (.t 80), none⟩,
 ⟨some 82, .mov (.t 2), (some (81, true))⟩,
 ⟨some 83, .call n_gantrylaw13_vec [(.c (.v (.int .i64 2))), (.c (.v (.int .i64 2)))] false, (some (81, true))⟩,
 ⟨some 84, .call n_gantrylaw13_vec [(.c (.v (.int .i64 (-1)))), (.c (.v (.int .i64 (-2))))] false, (some (81, true))⟩,
 ⟨some 85, .call n_gap_Contact [(.t 82), (.t 83), (.t 84)] false, (some (81, true))⟩,
 ⟨some 86, .bin .eql (.t 85) (.c (.v (.int .i64 1))), (some (81, true))⟩,
 ⟨some 87, .pick (.t 81) (.t 86) (.c (.v (.bool false))), none⟩,
 ⟨some 88, .mov (.t 87), none⟩,
 ⟨some 89, .mov (.t 2), (some (88, true))⟩,
 ⟨some 90, .call n_gantrylaw13_vec [(.c (.v (.int .i64 0))), (.c (.v (.int .i64 3)))] false, (some (88, true))⟩,
 ⟨some 91, .call n_gantrylaw13_vec [(.c (.v (.int .i64 0))), (.c (.v (.int .i64 (-1))))] false, (some (88, true))⟩,
 ⟨some 92, .load (some 8) (.t 3), (some (88, true))⟩,
 ⟨some 93, .call n_gap_Free [(.t 89), (.t 90), (.t 91), (.t 92)] false, (some (88, true))⟩,
 ⟨some 94, .bin .eql (.t 93) (.c (.v (.int .i64 2))), (some (88, true))⟩,
 ⟨some 95, .pick (.t 88) (.t 94) (.c (.v (.bool false))), none⟩,
 ⟨some 0, .mov (.t 95), none⟩] []) <|
 .keep [0] []) <|
 .ret, [.t 0]⟩

def gap_Along : CF := ⟨4, .seq (.seq (.reg [⟨some 4, .box (.t 0), none⟩,
 ⟨some 5, .box (.t 1), none⟩,
 ⟨some 6, .box (.t 2), none⟩,
 ⟨some 7, .box (.t 3), none⟩,
 ⟨some 8, .mov (.c (.z true)), none⟩] []) <|
 .keep [4, 5, 6, 7] [[4], [5], [6], [7]]) <|
 .seq (.seq (.reg [⟨some 9, .load (some 4) (.t 4), none⟩,
 ⟨some 10, .load (some 8) (.t 5), none⟩,
 ⟨some 11, .call n_gap_Gap [(.t 9), (.t 10)] false, none⟩,
 ⟨some 12, .fad 0 (.t 4), none⟩,
 ⟨some 13, .load (some 3) (.t 12), none⟩,
 ⟨some 14, .load (some 8) (.t 6), none⟩,
 ⟨some 15, .call n_gap_rate [(.t 13), (.t 14)] false, none⟩,
 ⟨some 16, .fad 0 (.t 4), none⟩,
 ⟨some 17, .load (some 3) (.t 16), none⟩,
 ⟨some 18, .load (some 8) (.t 7), none⟩,
 ⟨some 19, .call n_gap_rate [(.t 17), (.t 18)] false, none⟩,
 ⟨some 20, .call n_rat_Of [(.c (.v (.int .i64 1))), (.c (.v (.int .i64 2)))] false, none⟩,
 ⟨some 21, .call n_rat_Mul [(.t 19), (.t 20)] false, none⟩,
 ⟨some 22, .lit 4 3 [.v (.bool false), .z true, .v (.bool false), .z true] [(0, (.t 11)), (1, (.t 15)), (2, (.t 21))] true, none⟩,
 ⟨some 23, .call n_poly_Trim [(.t 22)] false, none⟩,
 ⟨some 8, .mov (.t 23), none⟩] []) <|
 .keep [8] []) <|
 .ret, [.t 8]⟩

def gantryref05_Same : CF := ⟨2, .seq (.seq (.reg [⟨some 2, .box (.t 0), none⟩,
 ⟨some 3, .box (.t 1), none⟩,
 ⟨some 4, .mov (.c (.v (.bool false))), none⟩] []) <|
 .keep [2, 3] [[2], [3]]) <|
 .seq (.seq (.reg [⟨some 5, .fad 0 (.t 2), none⟩,
 ⟨some 6, .load (some 2) (.t 5), none⟩,
 ⟨some 7, .fad 0 (.t 3), none⟩,
 ⟨some 8, .load (some 2) (.t 7), none⟩,
 ⟨some 9, .call n_gantryref04_Same [(.t 6), (.t 8)] false, none⟩,
 ⟨some 10, .mov (.t 9), none⟩,
 ⟨some 11, .fad 2 (.t 2), (some (10, true))⟩,
 ⟨some 12, .load (some 2) (.t 11), (some (10, true))⟩,
 ⟨some 13, .fad 2 (.t 3), (some (10, true))⟩,
 ⟨some 14, .load (some 2) (.t 13), (some (10, true))⟩,
 ⟨some 15, .call n_gantryref04_Same [(.t 12), (.t 14)] false, (some (10, true))⟩,
 ⟨some 16, .pick (.t 10) (.t 15) (.c (.v (.bool false))), none⟩,
 ⟨some 4, .mov (.t 16), none⟩] []) <|
 .keep [4] []) <|
 .ret, [.t 4]⟩

def gap_Gap : CF := ⟨2, .seq (.seq (.reg [⟨some 2, .box (.t 0), none⟩,
 ⟨some 3, .box (.t 1), none⟩,
 ⟨some 4, .new [.v (.bool false), .z true, .v (.bool false), .z true], none⟩] []) <|
 .keep [2, 3, 4] [[2], [3], [4]]) <|
 .seq (.seq (.reg [⟨some 5, .fad 0 (.t 2), none⟩,
 ⟨some 6, .load (some 3) (.t 5), none⟩,
 ⟨some 7, .load (some 8) (.t 3), none⟩,
 ⟨some 8, .call n_gap_rate [(.t 6), (.t 7)] false, none⟩,
 ⟨some 9, .fad 3 (.t 2), none⟩,
 ⟨some 10, .load none (.t 9), none⟩,
 ⟨some 11, .fad 0 (.t 2), none⟩,
 ⟨some 12, .fad 2 (.t 11), none⟩,
 ⟨some 13, .load none (.t 12), none⟩,
 ⟨some 14, .call n_rat_Of [(.t 10), (.t 13)] false, none⟩,
 ⟨some 15, .call n_rat_Sub [(.t 8), (.t 14)] false, none⟩,
 ⟨none, .store 4 (.t 4) (.t 15), none⟩] []) <|
 .keep [4] [[4]]) <|
 .ret, [.cell 4 (some 4)]⟩

def gantryref13_Gap : CF := ⟨2, .seq (.seq (.reg [⟨some 2, .box (.t 0), none⟩,
 ⟨some 3, .box (.t 1), none⟩,
 ⟨some 4, .new [.v (.bool false), .z true, .v (.bool false), .z true], none⟩] []) <|
 .keep [2, 3, 4] [[2], [3], [4]]) <|
 .seq (.seq (.reg [⟨some 5, .fad 0 (.t 2), none⟩,
 ⟨some 6, .load (some 3) (.t 5), none⟩,
 ⟨some 7, .load (some 8) (.t 3), none⟩,
 ⟨some 8, .call n_gantryref12_Dot [(.t 6), (.t 7)] false, none⟩,
 ⟨some 9, .fad 3 (.t 2), none⟩,
 ⟨some 10, .load none (.t 9), none⟩,
 ⟨some 11, .call n_gantryref05_Of [(.t 10), (.c (.v (.int .i64 1)))] false, none⟩,
 ⟨some 12, .call n_gantryref05_Sub [(.t 8), (.t 11)] false, none⟩,
 ⟨some 13, .fad 0 (.t 2), none⟩,
 ⟨some 14, .fad 2 (.t 13), none⟩,
 ⟨some 15, .load none (.t 14), none⟩,
 ⟨some 16, .call n_gantryref05_Of [(.t 15), (.c (.v (.int .i64 1)))] false, none⟩,
 ⟨some 17, .call n_gantryref05_Div [(.t 12), (.t 16)] false, none⟩,
 ⟨none, .store 4 (.t 4) (.t 17), none⟩] []) <|
 .keep [4] [[4]]) <|
 .ret, [.cell 4 (some 4)]⟩

def gantryref06_Same_l0 : C :=
 .seq (.seq (.seq (.seq (.reg [⟨some 11, .mov (.t 5), none⟩,
 ⟨some 12, .mov (.t 0), none⟩,
 ⟨some 13, .len (.t 12), none⟩,
 ⟨some 14, .bin .lss (.t 11) (.t 13), none⟩] []) <|
 .keep [0, 1, 5, 14] []) <|
 .cond (.t 14) (.skip) <|
 .seq (.keep [] []) <|
 .exit 0) <|
 .seq (.seq (.blk 1 <|
 .seq (.seq (.reg [⟨some 17, .mov (.t 0), none⟩,
 ⟨some 18, .mov (.t 5), none⟩,
 ⟨some 19, .ixa 4 (.t 17) (.t 18), none⟩,
 ⟨some 20, .load (some 4) (.t 19), none⟩,
 ⟨some 21, .mov (.t 1), none⟩,
 ⟨some 22, .mov (.t 5), none⟩,
 ⟨some 23, .ixa 4 (.t 21) (.t 22), none⟩,
 ⟨some 24, .load (some 4) (.t 23), none⟩,
 ⟨some 25, .call n_gantryref05_Same [(.t 20), (.t 24)] false, none⟩,
 ⟨some 26, .un .not (.t 25), none⟩] []) <|
 .keep [0, 1, 5, 26] []) <|
 .cond (.t 26) (.seq (.seq (.reg [⟨some 4, .mov (.c (.v (.bool false))), none⟩] []) <|
 .keep [4] []) <|
 .ret) <|
 .skip) <|
 .keep [0, 1, 5] []) <|
 .seq (.reg [⟨some 15, .mov (.t 5), none⟩,
 ⟨some 16, .bin .add (.t 15) (.c (.v (.int .i64 1))), none⟩,
 ⟨some 5, .mov (.t 16), none⟩] []) <|
 .keep [0, 1, 5] []) <|
 .keep [0, 1, 5] []
def gantryref06_Same : CF := ⟨2, .seq (.seq (.reg [⟨some 4, .mov (.c (.v (.bool false))), none⟩] []) <|
 .keep [0, 1] []) <|
 .seq (.seq (.seq (.reg [⟨some 6, .mov (.t 0), none⟩,
 ⟨some 7, .len (.t 6), none⟩,
 ⟨some 8, .mov (.t 1), none⟩,
 ⟨some 9, .len (.t 8), none⟩,
 ⟨some 10, .bin .neq (.t 7) (.t 9), none⟩] []) <|
 .keep [0, 1, 10] []) <|
 .cond (.t 10) (.seq (.seq (.reg [⟨some 4, .mov (.c (.v (.bool false))), none⟩] []) <|
 .keep [4] []) <|
 .ret) <|
 .skip) <|
 .seq (.seq (.seq (.reg [⟨some 5, .mov (.c (.v (.int .i64 0))), none⟩] []) <|
 .keep [0, 1, 5] []) <|
 .seq (.blk 0 <|
 .seq (.keep [0, 1, 5] []) <|
 .loop gantryref06_Same_l0) <|
 .keep [] []) <|
 .seq (.seq (.reg [⟨some 4, .mov (.c (.v (.bool true))), none⟩] []) <|
 .keep [4] []) <|
 .ret, [.t 4]⟩

def gantryref13_Along : CF := ⟨4, .seq (.seq (.reg [⟨some 4, .box (.t 0), none⟩,
 ⟨some 5, .box (.t 1), none⟩,
 ⟨some 6, .box (.t 2), none⟩,
 ⟨some 7, .box (.t 3), none⟩,
 ⟨some 8, .mov (.c (.z true)), none⟩] []) <|
 .keep [4, 5, 6, 7] [[4], [5], [6], [7]]) <|
 .seq (.seq (.reg [⟨some 9, .load (some 4) (.t 4), none⟩,
 ⟨some 10, .load (some 8) (.t 5), none⟩,
 ⟨some 11, .call n_gantryref13_Gap [(.t 9), (.t 10)] false, none⟩,
 ⟨some 12, .load (some 4) (.t 4), none⟩,
 ⟨some 13, .load (some 8) (.t 6), none⟩,
 ⟨some 14, .call n_gantryref13_Rate [(.t 12), (.t 13)] false, none⟩,
 ⟨some 15, .load (some 4) (.t 4), none⟩,
 ⟨some 16, .load (some 8) (.t 7), none⟩,
 ⟨some 17, .call n_gantryref13_Rate [(.t 15), (.t 16)] false, none⟩,
 ⟨some 18, .call n_gantryref05_Of [(.c (.v (.int .i64 2))), (.c (.v (.int .i64 1)))] false, none⟩,
 ⟨some 19, .call n_gantryref05_Div [(.t 17), (.t 18)] false, none⟩,
 ⟨some 20, .lit 4 3 [.v (.bool false), .z true, .v (.bool false), .z true] [(0, (.t 11)), (1, (.t 14)), (2, (.t 19))] true, none⟩,
 ⟨some 21, .call n_gantryref06_Trim [(.t 20)] false, none⟩,
 ⟨some 8, .mov (.t 21), none⟩] []) <|
 .keep [8] []) <|
 .ret, [.t 8]⟩

def rat_Add : CF := ⟨2, .seq (.seq (.reg [⟨some 2, .box (.t 0), none⟩,
 ⟨some 3, .box (.t 1), none⟩,
 ⟨some 4, .new [.v (.bool false), .z true, .v (.bool false), .z true], none⟩] []) <|
 .keep [2, 3, 4] [[2], [3], [4]]) <|
 .seq (.seq (.blk 0 <|
 .seq (.seq (.reg [⟨some 8, .fad 2 (.t 2), none⟩,
 ⟨some 9, .fad 1 (.t 8), none⟩,
 ⟨some 10, .load none (.t 9), none⟩,
 ⟨some 11, .len (.t 10), none⟩,
 ⟨some 12, .bin .eql (.t 11) (.c (.v (.int .i64 0))), none⟩,
 ⟨some 13, .mov (.t 12), none⟩,
 ⟨some 14, .fad 2 (.t 3), (some (13, true))⟩,
 ⟨some 15, .fad 1 (.t 14), (some (13, true))⟩,
 ⟨some 16, .load none (.t 15), (some (13, true))⟩,
 ⟨some 17, .len (.t 16), (some (13, true))⟩,
 ⟨some 18, .bin .eql (.t 17) (.c (.v (.int .i64 0))), (some (13, true))⟩,
 ⟨some 19, .pick (.t 13) (.t 18) (.c (.v (.bool false))), none⟩,
 ⟨some 7, .mov (.t 19), none⟩] []) <|
 .keep [2, 3, 4, 7] [[2], [3], [4]]) <|
 .cond (.t 7) (.seq (.seq (.reg [⟨some 20, .fad 0 (.t 2), none⟩,
 ⟨some 21, .load (some 2) (.t 20), none⟩,
 ⟨some 22, .fad 0 (.t 3), none⟩,
 ⟨some 23, .load (some 2) (.t 22), none⟩,
 ⟨some 24, .call n_integer_Add [(.t 21), (.t 23)] false, none⟩,
 ⟨some 25, .build [.v (.bool false), .z true, .v (.bool false), .z true] [(0, 2, (.t 24))], none⟩,
 ⟨none, .store 4 (.t 4) (.t 25), none⟩] []) <|
 .keep [4] [[4]]) <|
 .ret) <|
 .seq (.seq (.reg [⟨some 27, .fad 0 (.t 2), none⟩,
 ⟨some 28, .fad 1 (.t 27), none⟩,
 ⟨some 29, .load none (.t 28), none⟩,
 ⟨some 30, .len (.t 29), none⟩,
 ⟨some 31, .bin .eql (.t 30) (.c (.v (.int .i64 0))), none⟩,
 ⟨some 26, .mov (.t 31), none⟩] []) <|
 .keep [2, 3, 4, 26] [[2], [3], [4]]) <|
 .cond (.t 26) (.seq (.seq (.reg [⟨some 32, .load (some 4) (.t 3), none⟩,
 ⟨none, .store 4 (.t 4) (.t 32), none⟩] []) <|
 .keep [4] [[4]]) <|
 .ret) <|
 .seq (.seq (.reg [⟨some 34, .fad 0 (.t 3), none⟩,
 ⟨some 35, .fad 1 (.t 34), none⟩,
 ⟨some 36, .load none (.t 35), none⟩,
 ⟨some 37, .len (.t 36), none⟩,
 ⟨some 38, .bin .eql (.t 37) (.c (.v (.int .i64 0))), none⟩,
 ⟨some 33, .mov (.t 38), none⟩] []) <|
 .keep [2, 3, 4, 33] [[2], [3], [4]]) <|
 .cond (.t 33) (.seq (.seq (.reg [⟨some 39, .load (some 4) (.t 2), none⟩,
 ⟨none, .store 4 (.t 4) (.t 39), none⟩] []) <|
 .keep [4] [[4]]) <|
 .ret) <|
 .skip) <|
 .keep [2, 3, 4] [[2], [3], [4]]) <|
 .seq (.seq (.reg [⟨some 40, .load (some 4) (.t 2), none⟩,
 ⟨some 41, .call n_rat_Den [(.t 40)] false, none⟩,
 ⟨some 42, .load (some 4) (.t 3), none⟩,
 ⟨some 43, .call n_rat_Den [(.t 42)] false, none⟩,
 ⟨some 5, .new [.v (.bool false), .z true], none⟩,
 ⟨some 6, .new [.v (.bool false), .z true], none⟩,
 ⟨none, .store 2 (.t 5) (.t 41), none⟩,
 ⟨none, .store 2 (.t 6) (.t 43), none⟩] []) <|
 .keep [2, 3, 4, 5, 6] [[2], [3], [4], [5], [6]]) <|
 .seq (.seq (.reg [⟨some 44, .fad 0 (.t 2), none⟩,
 ⟨some 45, .load (some 2) (.t 44), none⟩,
 ⟨some 46, .load (some 2) (.t 6), none⟩,
 ⟨some 47, .call n_integer_Mul [(.t 45), (.t 46)] false, none⟩,
 ⟨some 48, .fad 0 (.t 3), none⟩,
 ⟨some 49, .load (some 2) (.t 48), none⟩,
 ⟨some 50, .load (some 2) (.t 5), none⟩,
 ⟨some 51, .call n_integer_Mul [(.t 49), (.t 50)] false, none⟩,
 ⟨some 52, .call n_integer_Add [(.t 47), (.t 51)] false, none⟩,
 ⟨some 53, .load (some 2) (.t 5), none⟩,
 ⟨some 54, .load (some 2) (.t 6), none⟩,
 ⟨some 55, .call n_integer_Mul [(.t 53), (.t 54)] false, none⟩,
 ⟨some 56, .call n_rat_Make [(.t 52), (.t 55)] false, none⟩,
 ⟨none, .store 4 (.t 4) (.t 56), none⟩] []) <|
 .keep [4] [[4]]) <|
 .ret, [.cell 4 (some 4)]⟩

def gantryref13_Rate : CF := ⟨2, .seq (.seq (.reg [⟨some 2, .box (.t 0), none⟩,
 ⟨some 3, .box (.t 1), none⟩,
 ⟨some 4, .new [.v (.bool false), .z true, .v (.bool false), .z true], none⟩] []) <|
 .keep [2, 3, 4] [[2], [3], [4]]) <|
 .seq (.seq (.reg [⟨some 5, .fad 0 (.t 2), none⟩,
 ⟨some 6, .load (some 3) (.t 5), none⟩,
 ⟨some 7, .load (some 8) (.t 3), none⟩,
 ⟨some 8, .call n_gantryref12_Dot [(.t 6), (.t 7)] false, none⟩,
 ⟨some 9, .fad 0 (.t 2), none⟩,
 ⟨some 10, .fad 2 (.t 9), none⟩,
 ⟨some 11, .load none (.t 10), none⟩,
 ⟨some 12, .call n_gantryref05_Of [(.t 11), (.c (.v (.int .i64 1)))] false, none⟩,
 ⟨some 13, .call n_gantryref05_Div [(.t 8), (.t 12)] false, none⟩,
 ⟨none, .store 4 (.t 4) (.t 13), none⟩] []) <|
 .keep [4] [[4]]) <|
 .ret, [.cell 4 (some 4)]⟩

def rat_Same : CF := ⟨2, .seq (.seq (.reg [⟨some 2, .box (.t 0), none⟩,
 ⟨some 3, .box (.t 1), none⟩,
 ⟨some 4, .mov (.c (.v (.bool false))), none⟩] []) <|
 .keep [2, 3] [[2], [3]]) <|
 .seq (.seq (.reg [⟨some 5, .mov (.f n_rat_Same_1), none⟩] []) <|
 .keep [2, 3, 5] [[2], [3]]) <|
 .seq (.seq (.reg [⟨some 6, .mov (.t 5), none⟩,
 ⟨some 7, .fad 0 (.t 2), none⟩,
 ⟨some 8, .load (some 2) (.t 7), none⟩,
 ⟨some 9, .fad 0 (.t 3), none⟩,
 ⟨some 10, .load (some 2) (.t 9), none⟩,
 ⟨some 11, .calv (.t 6) [(.t 8), (.t 10)], none⟩,
 ⟨some 12, .mov (.t 11), none⟩,
 ⟨some 13, .mov (.t 5), (some (12, true))⟩,
 ⟨some 14, .fad 2 (.t 2), (some (12, true))⟩,
 ⟨some 15, .load (some 2) (.t 14), (some (12, true))⟩,
 ⟨some 16, .fad 2 (.t 3), (some (12, true))⟩,
 ⟨some 17, .load (some 2) (.t 16), (some (12, true))⟩,
 ⟨some 18, .calv (.t 13) [(.t 15), (.t 17)], (some (12, true))⟩,
 ⟨some 19, .pick (.t 12) (.t 18) (.c (.v (.bool false))), none⟩,
 ⟨some 4, .mov (.t 19), none⟩] []) <|
 .keep [4] []) <|
 .ret, [.t 4]⟩

def poly_Eval_a0 : C :=
 .seq (.reg [⟨some 7, .new [.v (.bool false), .z true, .v (.bool false), .z true], none⟩,
 ⟨none, .store 4 (.t 7) (.t 11), none⟩] []) <|
 .keep [3, 5, 7] [[3], [5], [7], [4]]
def poly_Eval_b0 : C :=
 .seq (.blk 1 <|
 .seq (.reg [⟨some 12, .load (some 4) (.t 5), none⟩,
 ⟨some 13, .load (some 4) (.t 3), none⟩,
 ⟨some 14, .call n_rat_Mul [(.t 12), (.t 13)] false, none⟩,
 ⟨some 15, .load (some 4) (.t 7), none⟩,
 ⟨some 16, .call n_rat_Add [(.t 14), (.t 15)] false, none⟩,
 ⟨none, .store 4 (.t 5) (.t 16), none⟩] []) <|
 .keep [] [[3], [4], [5]]) <|
 .keep [] [[3], [4], [5]]
def poly_Eval : CF := ⟨2, .seq (.seq (.reg [⟨some 3, .box (.t 1), none⟩,
 ⟨some 4, .new [.v (.bool false), .z true, .v (.bool false), .z true], none⟩] []) <|
 .keep [0, 3, 4] [[3], [4]]) <|
 .seq (.seq (.reg [⟨some 5, .new [.v (.bool false), .z true, .v (.bool false), .z true], none⟩] []) <|
 .keep [0, 3, 4, 5] [[3], [4], [5]]) <|
 .seq (.seq (.seq (.reg [⟨some 8, .mov (.t 0), none⟩,
 ⟨some 9, .call n_slices_Backward_api_Poly_api_Rat [(.t 8)] false, none⟩] []) <|
 .keep [3, 4, 5, 9] [[3], [4], [5]]) <|
 .seq (.blk 0 <|
 .seq (.rfn (.t 9) [10, 11] poly_Eval_a0 poly_Eval_b0 [3, 4, 5] [[3], [4], [5]]) <|
 .keep [4, 5] [[4], [5]]) <|
 .keep [4, 5] [[4], [5]]) <|
 .seq (.seq (.reg [⟨some 17, .load (some 4) (.t 5), none⟩,
 ⟨none, .store 4 (.t 4) (.t 17), none⟩] []) <|
 .keep [4] [[4]]) <|
 .ret, [.cell 4 (some 4)]⟩

def rat_Of : CF := ⟨2, .seq (.seq (.reg [⟨some 4, .new [.v (.bool false), .z true, .v (.bool false), .z true], none⟩] []) <|
 .keep [0, 1, 4] [[4]]) <|
 .seq (.seq (.reg [⟨some 5, .mov (.t 0), none⟩,
 ⟨some 6, .call n_integer_Of [(.t 5)] false, none⟩,
 ⟨some 7, .mov (.t 1), none⟩,
 ⟨some 8, .call n_integer_Of [(.t 7)] false, none⟩,
 ⟨some 9, .call n_rat_Make [(.t 6), (.t 8)] false, none⟩,
 ⟨none, .store 4 (.t 4) (.t 9), none⟩] []) <|
 .keep [4] [[4]]) <|
 .ret, [.cell 4 (some 4)]⟩

def gantryref06_Small : CF := ⟨1, .seq (.seq (.reg [⟨some 2, .new [.v (.bool false), .z true, .v (.bool false), .z true], none⟩] []) <|
 .keep [0, 2] [[2]]) <|
 .seq (.seq (.reg [⟨some 4, .mov (.t 0), none⟩,
 ⟨some 5, .call n_gantryref01_Around [(.t 4), (.c (.v (.int .i64 105)))] false, none⟩,
 ⟨some 3, .mov (.t 5), none⟩] []) <|
 .keep [2, 3] [[2]]) <|
 .seq (.seq (.reg [⟨some 6, .mov (.t 3), none⟩,
 ⟨some 7, .bin .rem (.t 6) (.c (.v (.int .i64 15))), none⟩,
 ⟨some 8, .bin .sub (.t 7) (.c (.v (.int .i64 7))), none⟩,
 ⟨some 9, .mov (.t 3), none⟩,
 ⟨some 10, .bin .quo (.t 9) (.c (.v (.int .i64 15))), none⟩,
 ⟨some 11, .bin .rem (.t 10) (.c (.v (.int .i64 4))), none⟩,
 ⟨some 12, .bin .add (.c (.v (.int .i64 1))) (.t 11), none⟩,
 ⟨some 13, .call n_gantryref05_Of [(.t 8), (.t 12)] false, none⟩,
 ⟨none, .store 4 (.t 2) (.t 13), none⟩] []) <|
 .keep [2] [[2]]) <|
 .ret, [.cell 2 (some 4)]⟩

def gantryref06_Trim_l0 : C :=
 .seq (.seq (.seq (.seq (.reg [⟨some 7, .mov (.t 3), none⟩,
 ⟨some 8, .bin .gtr (.t 7) (.c (.v (.int .i64 0))), none⟩,
 ⟨some 9, .mov (.t 8), none⟩,
 ⟨some 10, .mov (.t 0), (some (9, true))⟩,
 ⟨some 11, .mov (.t 3), (some (9, true))⟩,
 ⟨some 12, .bin .sub (.t 11) (.c (.v (.int .i64 1))), (some (9, true))⟩,
 ⟨some 13, .mx [(.t 12), (.c (.v (.int .i64 0)))], (some (9, true))⟩,
 ⟨some 14, .ixa 4 (.t 10) (.t 13), (some (9, true))⟩,
 ⟨some 15, .load (some 4) (.t 14), (some (9, true))⟩,
 ⟨some 16, .call n_gantryref05_Sign [(.t 15)] false, (some (9, true))⟩,
 ⟨some 17, .bin .eql (.t 16) (.c (.v (.int .i64 0))), (some (9, true))⟩,
 ⟨some 18, .pick (.t 9) (.t 17) (.c (.v (.bool false))), none⟩] []) <|
 .keep [0, 3, 18] []) <|
 .cond (.t 18) (.skip) <|
 .seq (.keep [0, 3] []) <|
 .exit 0) <|
 .seq (.blk 1 <|
 .seq (.reg [⟨some 19, .mov (.t 3), none⟩,
 ⟨some 20, .bin .sub (.t 19) (.c (.v (.int .i64 1))), none⟩,
 ⟨some 3, .mov (.t 20), none⟩] []) <|
 .keep [0, 3] []) <|
 .keep [0, 3] []) <|
 .keep [0, 3] []
def gantryref06_Trim : CF := ⟨1, .seq (.seq (.reg [⟨some 2, .mov (.c (.z true)), none⟩] []) <|
 .keep [0] []) <|
 .seq (.seq (.reg [⟨some 5, .mov (.t 0), none⟩,
 ⟨some 6, .len (.t 5), none⟩,
 ⟨some 3, .mov (.t 6), none⟩] []) <|
 .keep [0, 3] []) <|
 .seq (.seq (.blk 0 <|
 .seq (.keep [0, 3] []) <|
 .loop gantryref06_Trim_l0) <|
 .keep [0, 3] []) <|
 .seq (.seq (.reg [⟨some 4, .mov (.c (.z true)), none⟩] []) <|
 .keep [0, 3, 4] []) <|
 .seq (.seq (.reg [⟨some 21, .mov (.t 4), none⟩,
 ⟨some 22, .mov (.t 0), none⟩,
 ⟨some 23, .mov (.t 3), none⟩,
 ⟨some 24, .slc 4 (.t 22) none (some (.t 23)) none, none⟩,
 ⟨some 25, .app 4 64 (.t 21) (.t 24) true, none⟩,
 ⟨some 2, .mov (.t 25), none⟩] []) <|
 .keep [2] [[25]]) <|
 .ret, [.t 2]⟩

def gantryref06_Mul_l0 : C :=
 .seq (.seq (.seq (.seq (.reg [⟨some 29, .mov (.t 7), none⟩,
 ⟨some 30, .mov (.t 1), none⟩,
 ⟨some 31, .len (.t 30), none⟩,
 ⟨some 32, .bin .lss (.t 29) (.t 31), none⟩] []) <|
 .keep [0, 1, 5, 6, 7, 32] [[22]]) <|
 .cond (.t 32) (.skip) <|
 .seq (.keep [0, 1, 5, 6] [[22]]) <|
 .exit 2) <|
 .seq (.seq (.blk 3 <|
 .seq (.reg [⟨some 35, .mov (.t 5), none⟩,
 ⟨some 36, .mov (.t 6), none⟩,
 ⟨some 37, .mov (.t 7), none⟩,
 ⟨some 38, .bin .add (.t 36) (.t 37), none⟩,
 ⟨some 39, .mov (.t 5), none⟩,
 ⟨some 40, .mov (.t 6), none⟩,
 ⟨some 41, .mov (.t 7), none⟩,
 ⟨some 42, .bin .add (.t 40) (.t 41), none⟩,
 ⟨some 43, .ixa 4 (.t 39) (.t 42), none⟩,
 ⟨some 44, .load (some 4) (.t 43), none⟩,
 ⟨some 45, .mov (.t 0), none⟩,
 ⟨some 46, .mov (.t 6), none⟩,
 ⟨some 47, .ixa 4 (.t 45) (.t 46), none⟩,
 ⟨some 48, .load (some 4) (.t 47), none⟩,
 ⟨some 49, .mov (.t 1), none⟩,
 ⟨some 50, .mov (.t 7), none⟩,
 ⟨some 51, .ixa 4 (.t 49) (.t 50), none⟩,
 ⟨some 52, .load (some 4) (.t 51), none⟩,
 ⟨some 53, .call n_gantryref05_Mul [(.t 48), (.t 52)] false, none⟩,
 ⟨some 54, .call n_gantryref05_Add [(.t 44), (.t 53)] false, none⟩,
 ⟨some 55, .ixa 4 (.t 35) (.t 38), none⟩,
 ⟨none, .store 4 (.t 55) (.t 54), none⟩] []) <|
 .keep [0, 1, 5, 6, 7] [[22]]) <|
 .keep [0, 1, 5, 6, 7] [[22]]) <|
 .seq (.reg [⟨some 33, .mov (.t 7), none⟩,
 ⟨some 34, .bin .add (.t 33) (.c (.v (.int .i64 1))), none⟩,
 ⟨some 7, .mov (.t 34), none⟩] []) <|
 .keep [0, 1, 5, 6, 7] [[22]]) <|
 .keep [0, 1, 5, 6, 7] [[22]]
def gantryref06_Mul_l1 : C :=
 .seq (.seq (.seq (.seq (.reg [⟨some 23, .mov (.t 6), none⟩,
 ⟨some 24, .mov (.t 0), none⟩,
 ⟨some 25, .len (.t 24), none⟩,
 ⟨some 26, .bin .lss (.t 23) (.t 25), none⟩] []) <|
 .keep [0, 1, 5, 6, 26] [[22]]) <|
 .cond (.t 26) (.skip) <|
 .seq (.keep [5] [[22]]) <|
 .exit 0) <|
 .seq (.seq (.blk 1 <|
 .seq (.seq (.reg [⟨some 7, .mov (.c (.v (.int .i64 0))), none⟩] []) <|
 .keep [0, 1, 5, 6, 7] [[22]]) <|
 .seq (.blk 2 <|
 .seq (.keep [0, 1, 5, 6, 7] [[22]]) <|
 .loop gantryref06_Mul_l0) <|
 .keep [0, 1, 5, 6] [[22]]) <|
 .keep [0, 1, 5, 6] [[22]]) <|
 .seq (.reg [⟨some 27, .mov (.t 6), none⟩,
 ⟨some 28, .bin .add (.t 27) (.c (.v (.int .i64 1))), none⟩,
 ⟨some 6, .mov (.t 28), none⟩] []) <|
 .keep [0, 1, 5, 6] [[22]]) <|
 .keep [0, 1, 5, 6] [[22]]
def gantryref06_Mul : CF := ⟨2, .seq (.seq (.reg [⟨some 4, .mov (.c (.z true)), none⟩] []) <|
 .keep [0, 1] []) <|
 .seq (.seq (.seq (.reg [⟨some 8, .mov (.t 0), none⟩,
 ⟨some 9, .len (.t 8), none⟩,
 ⟨some 10, .bin .eql (.t 9) (.c (.v (.int .i64 0))), none⟩,
 ⟨some 11, .mov (.t 10), none⟩,
 ⟨some 12, .mov (.t 1), (some (11, false))⟩,
 ⟨some 13, .len (.t 12), (some (11, false))⟩,
 ⟨some 14, .bin .eql (.t 13) (.c (.v (.int .i64 0))), (some (11, false))⟩,
 ⟨some 15, .pick (.t 11) (.c (.v (.bool true))) (.t 14), none⟩] []) <|
 .keep [0, 1, 15] []) <|
 .cond (.t 15) (.seq (.seq (.reg [⟨some 4, .mov (.c (.z true)), none⟩] []) <|
 .keep [4] []) <|
 .ret) <|
 .skip) <|
 .seq (.seq (.reg [⟨some 16, .mov (.t 0), none⟩,
 ⟨some 17, .len (.t 16), none⟩,
 ⟨some 18, .mov (.t 1), none⟩,
 ⟨some 19, .len (.t 18), none⟩,
 ⟨some 20, .bin .add (.t 17) (.t 19), none⟩,
 ⟨some 21, .bin .sub (.t 20) (.c (.v (.int .i64 1))), none⟩,
 ⟨some 22, .mksl 4 64 [.v (.bool false), .z true, .v (.bool false), .z true] (.t 21) (.t 21), none⟩,
 ⟨some 5, .mov (.t 22), none⟩] []) <|
 .keep [0, 1, 5] [[22]]) <|
 .seq (.seq (.seq (.reg [⟨some 6, .mov (.c (.v (.int .i64 0))), none⟩] []) <|
 .keep [0, 1, 5, 6] [[22]]) <|
 .seq (.blk 0 <|
 .seq (.keep [0, 1, 5, 6] [[22]]) <|
 .loop gantryref06_Mul_l1) <|
 .keep [5] [[22]]) <|
 .seq (.seq (.frz 5) <|
 .seq (.reg [⟨some 56, .mov (.t 5), none⟩,
 ⟨some 57, .call n_gantryref06_Trim [(.t 56)] false, none⟩,
 ⟨some 4, .mov (.t 57), none⟩] []) <|
 .keep [4] []) <|
 .ret, [.t 4]⟩

def gantryref06_Sub : CF := ⟨2, .seq (.seq (.reg [⟨some 4, .mov (.c (.z true)), none⟩] []) <|
 .keep [0, 1] []) <|
 .seq (.seq (.reg [⟨some 5, .mov (.t 0), none⟩,
 ⟨some 6, .mov (.t 1), none⟩,
 ⟨some 7, .call n_gantryref05_Of [(.c (.v (.int .i64 (-1)))), (.c (.v (.int .i64 1)))] false, none⟩,
 ⟨some 8, .call n_gantryref06_Scale [(.t 6), (.t 7)] false, none⟩,
 ⟨some 9, .call n_gantryref06_Add [(.t 5), (.t 8)] false, none⟩,
 ⟨some 4, .mov (.t 9), none⟩] []) <|
 .keep [4] []) <|
 .ret, [.t 4]⟩

def gantryref01_Around : CF := ⟨2, .seq (.seq (.reg [⟨some 4, .mov (.c (.v (.int .i64 0))), none⟩] []) <|
 .keep [0, 1] []) <|
 .seq (.seq (.seq (.reg [⟨some 5, .mov (.t 0), none⟩,
 ⟨some 6, .bin .lss (.t 5) (.c (.v (.int .i64 0))), none⟩] []) <|
 .keep [0, 1, 6] []) <|
 .cond (.t 6) (.seq (.reg [⟨some 7, .mov (.t 0), none⟩,
 ⟨some 8, .bin .add (.t 7) (.c (.v (.int .i64 1))), none⟩,
 ⟨some 9, .un .neg (.t 8), none⟩,
 ⟨some 0, .mov (.t 9), none⟩] []) <|
 .keep [0, 1] []) <|
 .skip) <|
 .seq (.seq (.reg [⟨some 10, .mov (.t 0), none⟩,
 ⟨some 11, .mov (.t 1), none⟩,
 ⟨some 12, .bin .rem (.t 10) (.t 11), none⟩,
 ⟨some 4, .mov (.t 12), none⟩] []) <|
 .keep [4] []) <|
 .ret, [.t 4]⟩

def gantryref06_Scale_l0 : C :=
 .seq (.seq (.seq (.seq (.reg [⟨some 7, .mov (.t 6), none⟩,
 ⟨some 8, .mov (.t 0), none⟩,
 ⟨some 9, .len (.t 8), none⟩,
 ⟨some 10, .bin .lss (.t 7) (.t 9), none⟩] []) <|
 .keep [0, 3, 5, 6, 10] [[3], [21]]) <|
 .cond (.t 10) (.skip) <|
 .seq (.keep [5] [[21]]) <|
 .exit 0) <|
 .seq (.seq (.blk 1 <|
 .seq (.reg [⟨some 13, .mov (.t 5), none⟩,
 ⟨some 14, .mov (.t 0), none⟩,
 ⟨some 15, .mov (.t 6), none⟩,
 ⟨some 16, .ixa 4 (.t 14) (.t 15), none⟩,
 ⟨some 17, .load (some 4) (.t 16), none⟩,
 ⟨some 18, .load (some 4) (.t 3), none⟩,
 ⟨some 19, .call n_gantryref05_Mul [(.t 17), (.t 18)] false, none⟩,
 ⟨some 20, .lit 4 1 [.v (.bool false), .z true, .v (.bool false), .z true] [(0, (.t 19))] true, none⟩,
 ⟨some 21, .app 4 64 (.t 13) (.t 20) false, none⟩,
 ⟨some 5, .mov (.t 21), none⟩] []) <|
 .keep [0, 3, 5, 6] [[3], [21]]) <|
 .keep [0, 3, 5, 6] [[3], [21]]) <|
 .seq (.reg [⟨some 11, .mov (.t 6), none⟩,
 ⟨some 12, .bin .add (.t 11) (.c (.v (.int .i64 1))), none⟩,
 ⟨some 6, .mov (.t 12), none⟩] []) <|
 .keep [0, 3, 5, 6] [[3], [21]]) <|
 .keep [0, 3, 5, 6] [[3], [21]]
def gantryref06_Scale : CF := ⟨2, .seq (.seq (.reg [⟨some 3, .box (.t 1), none⟩,
 ⟨some 4, .mov (.c (.z true)), none⟩] []) <|
 .keep [0, 3] [[3]]) <|
 .seq (.seq (.reg [⟨some 5, .mov (.c (.z true)), none⟩] []) <|
 .keep [0, 3, 5] [[3], [21]]) <|
 .seq (.seq (.seq (.reg [⟨some 6, .mov (.c (.v (.int .i64 0))), none⟩] []) <|
 .keep [0, 3, 5, 6] [[3], [21]]) <|
 .seq (.blk 0 <|
 .seq (.keep [0, 3, 5, 6] [[3], [21]]) <|
 .loop gantryref06_Scale_l0) <|
 .keep [5] [[21]]) <|
 .seq (.seq (.frz 5) <|
 .seq (.reg [⟨some 22, .mov (.t 5), none⟩,
 ⟨some 23, .call n_gantryref06_Trim [(.t 22)] false, none⟩,
 ⟨some 4, .mov (.t 23), none⟩] []) <|
 .keep [4] []) <|
 .ret, [.t 4]⟩

def gap_Stays : CF := ⟨1, .seq (.seq (.reg [⟨some 2, .mov (.c (.v (.bool false))), none⟩] []) <|
 .keep [0] []) <|
 .seq (.seq (.reg [⟨some 5, .call n_rat_Of [(.c (.v (.int .i64 1))), (.c (.v (.int .i64 1)))] false, none⟩,
 ⟨some 3, .new [.v (.bool false), .z true, .v (.bool false), .z true], none⟩,
 ⟨none, .store 4 (.t 3) (.t 5), none⟩] []) <|
 .keep [0, 3] [[3]]) <|
 .seq (.seq (.seq (.reg [⟨some 6, .mov (.t 0), none⟩,
 ⟨some 7, .build [.v (.bool false), .z true, .v (.bool false), .z true] [], none⟩,
 ⟨some 8, .call n_poly_Eval [(.t 6), (.t 7)] false, none⟩,
 ⟨some 9, .call n_rat_Sign [(.t 8)] false, none⟩,
 ⟨some 10, .bin .lss (.t 9) (.c (.v (.int .i64 0))), none⟩,
 ⟨some 11, .mov (.t 10), none⟩,
 ⟨some 12, .mov (.t 0), (some (11, false))⟩,
 ⟨some 13, .load (some 4) (.t 3), (some (11, false))⟩,
 ⟨some 14, .call n_poly_Eval [(.t 12), (.t 13)] false, (some (11, false))⟩,
 ⟨some 15, .call n_rat_Sign [(.t 14)] false, (some (11, false))⟩,
 ⟨some 16, .bin .lss (.t 15) (.c (.v (.int .i64 0))), (some (11, false))⟩,
 ⟨some 17, .pick (.t 11) (.c (.v (.bool true))) (.t 16), none⟩] []) <|
 .keep [0, 3, 17] [[3]]) <|
 .cond (.t 17) (.seq (.seq (.reg [⟨some 2, .mov (.c (.v (.bool false))), none⟩] []) <|
 .keep [2] []) <|
 .ret) <|
 .skip) <|
 .seq (.seq (.seq (.reg [⟨some 18, .mov (.t 0), none⟩,
 ⟨some 19, .len (.t 18), none⟩,
 ⟨some 20, .bin .lss (.t 19) (.c (.v (.int .i64 3))), none⟩,
 ⟨some 21, .mov (.t 20), none⟩,
 ⟨some 22, .mov (.t 0), (some (21, false))⟩,
 ⟨some 23, .ixa 4 (.t 22) (.c (.v (.int .i64 2))), (some (21, false))⟩,
 ⟨some 24, .load (some 4) (.t 23), (some (21, false))⟩,
 ⟨some 25, .call n_rat_Sign [(.t 24)] false, (some (21, false))⟩,
 ⟨some 26, .bin .lss (.t 25) (.c (.v (.int .i64 0))), (some (21, false))⟩,
 ⟨some 27, .pick (.t 21) (.c (.v (.bool true))) (.t 26), none⟩] []) <|
 .keep [0, 3, 27] [[3]]) <|
 .cond (.t 27) (.seq (.seq (.reg [⟨some 2, .mov (.c (.v (.bool true))), none⟩] []) <|
 .keep [2] []) <|
 .ret) <|
 .skip) <|
 .seq (.seq (.reg [⟨some 28, .mov (.t 0), none⟩,
 ⟨some 29, .ixa 4 (.t 28) (.c (.v (.int .i64 1))), none⟩,
 ⟨some 30, .load (some 4) (.t 29), none⟩,
 ⟨some 31, .call n_rat_Neg [(.t 30)] false, none⟩,
 ⟨some 32, .mov (.t 0), none⟩,
 ⟨some 33, .ixa 4 (.t 32) (.c (.v (.int .i64 2))), none⟩,
 ⟨some 34, .load (some 4) (.t 33), none⟩,
 ⟨some 35, .call n_rat_Of [(.c (.v (.int .i64 2))), (.c (.v (.int .i64 1)))] false, none⟩,
 ⟨some 36, .call n_rat_Mul [(.t 34), (.t 35)] false, none⟩,
 ⟨some 37, .call n_rat_Div [(.t 31), (.t 36)] false, none⟩,
 ⟨some 4, .new [.v (.bool false), .z true, .v (.bool false), .z true], none⟩,
 ⟨none, .store 4 (.t 4) (.t 37), none⟩] []) <|
 .keep [0, 3, 4] [[3], [4]]) <|
 .seq (.seq (.reg [⟨some 38, .load (some 4) (.t 4), none⟩,
 ⟨some 39, .call n_rat_Sign [(.t 38)] false, none⟩,
 ⟨some 40, .bin .leq (.t 39) (.c (.v (.int .i64 0))), none⟩,
 ⟨some 41, .mov (.t 40), none⟩,
 ⟨some 42, .load (some 4) (.t 4), (some (41, false))⟩,
 ⟨some 43, .load (some 4) (.t 3), (some (41, false))⟩,
 ⟨some 44, .call n_rat_Compare [(.t 42), (.t 43)] false, (some (41, false))⟩,
 ⟨some 45, .bin .geq (.t 44) (.c (.v (.int .i64 0))), (some (41, false))⟩,
 ⟨some 46, .pick (.t 41) (.c (.v (.bool true))) (.t 45), none⟩,
 ⟨some 47, .mov (.t 46), none⟩,
 ⟨some 48, .mov (.t 0), (some (47, false))⟩,
 ⟨some 49, .load (some 4) (.t 4), (some (47, false))⟩,
 ⟨some 50, .call n_poly_Eval [(.t 48), (.t 49)] false, (some (47, false))⟩,
 ⟨some 51, .call n_rat_Sign [(.t 50)] false, (some (47, false))⟩,
 ⟨some 52, .bin .geq (.t 51) (.c (.v (.int .i64 0))), (some (47, false))⟩,
 ⟨some 53, .pick (.t 47) (.c (.v (.bool true))) (.t 52), none⟩,
 ⟨some 2, .mov (.t 53), none⟩] []) <|
 .keep [2] []) <|
 .ret, [.t 2]⟩

def gantryref13_Stays : CF := ⟨1, .seq (.seq (.reg [⟨some 2, .mov (.c (.v (.bool false))), none⟩] []) <|
 .keep [0] []) <|
 .seq (.seq (.reg [⟨some 3, .mov (.t 0), none⟩,
 ⟨some 4, .build [.v (.bool false), .z true, .v (.bool false), .z true] [], none⟩,
 ⟨some 5, .call n_gantryref05_Of [(.c (.v (.int .i64 1))), (.c (.v (.int .i64 1)))] false, none⟩,
 ⟨some 6, .call n_gantryref07_Stays [(.t 3), (.t 4), (.t 5)] false, none⟩,
 ⟨some 2, .mov (.t 6), none⟩] []) <|
 .keep [2] []) <|
 .ret, [.t 2]⟩

def sturm_Stays_l0 : C :=
 .seq (.seq (.seq (.reg [⟨some 52, .bin .lss (.t 51) (.t 50), none⟩] []) <|
 .keep [4, 7, 10, 50, 51, 52] [[4], [10]]) <|
 .seq (.cond (.t 52) (.skip) <|
 .seq (.keep [] []) <|
 .exit 0) <|
 .seq (.seq (.blk 1 <|
 .seq (.seq (.reg [⟨some 53, .load (some 4) (.t 4), none⟩,
 ⟨some 54, .load (some 4) (.t 10), none⟩,
 ⟨some 55, .build [.v (.bool false), .z true, .v (.bool false), .z true, .v (.bool false), .z true, .v (.bool false), .z true] [(0, 4, (.t 53)), (4, 4, (.t 54))], none⟩,
 ⟨some 56, .call n_sturm_middle [(.t 55)] false, none⟩,
 ⟨none, .store 4 (.t 10) (.t 56), none⟩] []) <|
 .keep [4, 7, 10, 50, 51] [[4], [10]]) <|
 .seq (.seq (.reg [⟨some 57, .mov (.t 7), none⟩,
 ⟨some 58, .load (some 4) (.t 10), none⟩,
 ⟨some 59, .calv (.t 57) [(.t 58)], none⟩] []) <|
 .keep [4, 7, 10, 50, 51, 59] [[4], [10]]) <|
 .cond (.t 59) (.seq (.seq (.reg [⟨some 6, .mov (.c (.v (.bool false))), none⟩] []) <|
 .keep [6] []) <|
 .ret) <|
 .skip) <|
 .keep [4, 7, 10, 50, 51] [[4], [10]]) <|
 .seq (.reg [⟨some 60, .bin .add (.t 51) (.c (.v (.int .i64 1))), none⟩,
 ⟨some 51, .mov (.t 60), none⟩] []) <|
 .keep [4, 7, 10, 50, 51] [[4], [10]]) <|
 .keep [4, 7, 10, 50, 51] [[4], [10]]
def sturm_Stays : CF := ⟨3, .seq (.seq (.reg [⟨some 3, .box (.t 0), none⟩,
 ⟨some 4, .box (.t 1), none⟩,
 ⟨some 5, .box (.t 2), none⟩,
 ⟨some 6, .mov (.c (.v (.bool false))), none⟩] []) <|
 .keep [3, 4, 5] [[3], [4], [5]]) <|
 .seq (.seq (.seq (.reg [⟨some 11, .load (some 4) (.t 4), none⟩,
 ⟨some 12, .load (some 4) (.t 5), none⟩,
 ⟨some 13, .call n_rat_Compare [(.t 11), (.t 12)] false, none⟩,
 ⟨some 14, .bin .gtr (.t 13) (.c (.v (.int .i64 0))), none⟩,
 ⟨some 15, .mov (.t 14), none⟩,
 ⟨some 16, .load none (.t 3), (some (15, false))⟩,
 ⟨some 17, .len (.t 16), (some (15, false))⟩,
 ⟨some 18, .bin .eql (.t 17) (.c (.v (.int .i64 0))), (some (15, false))⟩,
 ⟨some 19, .pick (.t 15) (.c (.v (.bool true))) (.t 18), none⟩] []) <|
 .keep [3, 4, 5, 19] [[3], [4], [5]]) <|
 .cond (.t 19) (.seq (.seq (.reg [⟨some 6, .mov (.c (.v (.bool true))), none⟩] []) <|
 .keep [6] []) <|
 .ret) <|
 .skip) <|
 .seq (.seq (.reg [⟨some 20, .mkfn n_sturm_Stays_1 [(.t 3)] true, none⟩,
 ⟨some 7, .mov (.t 20), none⟩] []) <|
 .keep [3, 4, 5, 7] [[3], [4], [5]]) <|
 .seq (.seq (.seq (.reg [⟨some 21, .mov (.t 7), none⟩,
 ⟨some 22, .load (some 4) (.t 4), none⟩,
 ⟨some 23, .calv (.t 21) [(.t 22)], none⟩,
 ⟨some 24, .mov (.t 23), none⟩,
 ⟨some 25, .mov (.t 7), (some (24, false))⟩,
 ⟨some 26, .load (some 4) (.t 5), (some (24, false))⟩,
 ⟨some 27, .calv (.t 25) [(.t 26)], (some (24, false))⟩,
 ⟨some 28, .pick (.t 24) (.c (.v (.bool true))) (.t 27), none⟩] []) <|
 .keep [3, 4, 5, 7, 28] [[3], [4], [5]]) <|
 .cond (.t 28) (.seq (.seq (.reg [⟨some 6, .mov (.c (.v (.bool false))), none⟩] []) <|
 .keep [6] []) <|
 .ret) <|
 .skip) <|
 .seq (.seq (.reg [⟨some 29, .load none (.t 3), none⟩,
 ⟨some 30, .call n_sturm_odd [(.t 29)] false, none⟩,
 ⟨some 8, .mov (.t 30), none⟩] []) <|
 .keep [3, 4, 5, 7, 8] [[3], [4], [5]]) <|
 .seq (.seq (.reg [⟨some 31, .mov (.t 8), none⟩,
 ⟨some 32, .load (some 4) (.t 4), none⟩,
 ⟨some 33, .load (some 4) (.t 5), none⟩,
 ⟨some 34, .call n_sturm_Count [(.t 31), (.t 32), (.t 33)] false, none⟩,
 ⟨some 9, .mov (.t 34), none⟩] []) <|
 .keep [3, 4, 5, 7, 8, 9] [[3], [4], [5]]) <|
 .seq (.seq (.seq (.reg [⟨some 35, .mov (.t 9), none⟩,
 ⟨some 36, .bin .gtr (.t 35) (.c (.v (.int .i64 0))), none⟩,
 ⟨some 37, .mov (.t 36), none⟩,
 ⟨some 38, .mov (.t 8), (some (37, true))⟩,
 ⟨some 39, .load (some 4) (.t 5), (some (37, true))⟩,
 ⟨some 40, .call n_poly_Eval [(.t 38), (.t 39)] false, (some (37, true))⟩,
 ⟨some 41, .call n_rat_Sign [(.t 40)] false, (some (37, true))⟩,
 ⟨some 42, .bin .eql (.t 41) (.c (.v (.int .i64 0))), (some (37, true))⟩,
 ⟨some 43, .pick (.t 37) (.t 42) (.c (.v (.bool false))), none⟩] []) <|
 .keep [3, 4, 5, 7, 9, 43] [[3], [4], [5]]) <|
 .cond (.t 43) (.seq (.reg [⟨some 44, .mov (.t 9), none⟩,
 ⟨some 45, .bin .sub (.t 44) (.c (.v (.int .i64 1))), none⟩,
 ⟨some 9, .mov (.t 45), none⟩] []) <|
 .keep [3, 4, 5, 7, 9] [[3], [4], [5]]) <|
 .skip) <|
 .seq (.seq (.seq (.reg [⟨some 46, .mov (.t 9), none⟩,
 ⟨some 47, .bin .gtr (.t 46) (.c (.v (.int .i64 0))), none⟩] []) <|
 .keep [3, 4, 5, 7, 47] [[3], [4], [5]]) <|
 .cond (.t 47) (.seq (.seq (.reg [⟨some 6, .mov (.c (.v (.bool false))), none⟩] []) <|
 .keep [6] []) <|
 .ret) <|
 .skip) <|
 .seq (.seq (.reg [⟨some 48, .load (some 4) (.t 5), none⟩,
 ⟨some 10, .new [.v (.bool false), .z true, .v (.bool false), .z true], none⟩,
 ⟨none, .store 4 (.t 10) (.t 48), none⟩] []) <|
 .keep [3, 4, 7, 10] [[3], [4], [10]]) <|
 .seq (.seq (.seq (.reg [⟨some 49, .load none (.t 3), none⟩,
 ⟨some 50, .len (.t 49), none⟩,
 ⟨some 51, .mov (.c (.v (.int .i64 0))), none⟩] []) <|
 .keep [4, 7, 10, 50, 51] [[4], [10]]) <|
 .seq (.blk 0 <|
 .seq (.keep [4, 7, 10, 50, 51] [[4], [10]]) <|
 .loop sturm_Stays_l0) <|
 .keep [] []) <|
 .seq (.seq (.reg [⟨some 6, .mov (.c (.v (.bool true))), none⟩] []) <|
 .keep [6] []) <|
 .ret, [.t 6]⟩
end Go.AM

