/- Part 4 of the proof: a small machine, its soundness against the model, and what the program's functions compute on it. -/
import Derived.Test.YthhdbchmjfdgmaaM0
import Derived.Test.YthhdbchmjfdgmaaProg
import Derived.KernelRfl
import Derived.Test.YthhdbchmjfdgmaaM3
set_option linter.unusedVariables false
set_option linter.unusedSimpArgs false
set_option maxRecDepth 100000
namespace Go.AM
open Go Go.Proofs
abbrev n_gantrylaw06_PolyMakes : Nat := 3
abbrev n_gantrylaw06_PolyDivisors : Nat := 4
abbrev n_gantrylaw06_PolyDerives : Nat := 5
abbrev n_gantryref06_Poly : Nat := 6
abbrev n_gantryref01_Around : Nat := 7
abbrev n_poly_Trim : Nat := 8
abbrev n_gantryref06_Same : Nat := 9
abbrev n_poly_Degree : Nat := 10
abbrev n_poly_Valid : Nat := 11
abbrev n_gantryref06_Valid : Nat := 12
abbrev n_gantrylaw06_lives : Nat := 13
abbrev n_poly_Gcd : Nat := 14
abbrev n_poly_Div : Nat := 15
abbrev n_poly_Mul : Nat := 16
abbrev n_gantrylaw06_is : Nat := 17
abbrev n_gantryref06_Monic : Nat := 18
abbrev n_poly_Free : Nat := 19
abbrev n_poly_Derive : Nat := 20
abbrev n_gantryref06_Small : Nat := 21
abbrev n_poly_Add : Nat := 22
abbrev n_poly_Shift : Nat := 23
abbrev n_rat_Add : Nat := 24
abbrev n_rat_Same : Nat := 25
abbrev n_poly_Eval : Nat := 26
abbrev n_gantryref01_At : Nat := 27
abbrev n_gantryref06_Trim : Nat := 28
abbrev n_gantryref05_Of : Nat := 29
abbrev n_gantryref05_Neg : Nat := 30
abbrev n_gantryref06_Mul : Nat := 31
abbrev n_rat_Sign : Nat := 32
abbrev n_slices_Clone_api_Poly_api_Rat : Nat := 33
abbrev n_gantryref05_Same : Nat := 34
abbrev n_slices_ContainsFunc_api_Poly_api_Rat : Nat := 35
abbrev n_poly_Valid_1 : Nat := 36
abbrev n_rat_Valid : Nat := 37
abbrev n_gantryref05_Valid : Nat := 38
abbrev n_gantryref05_Sign : Nat := 39
abbrev n_gantrylaw06_of : Nat := 40
abbrev n_poly_monic : Nat := 41
abbrev n_rat_Div : Nat := 42
abbrev n_rat_Sub : Nat := 43
abbrev n_rat_Mul : Nat := 44
abbrev n_poly_made : Nat := 45
abbrev n_poly_Mul_1 : Nat := 46
abbrev n_gantryref06_Scale : Nat := 47
abbrev n_gantryref05_Div : Nat := 48
abbrev n_poly_Derive_1 : Nat := 49
abbrev n_rat_Of : Nat := 50
abbrev n_poly_Add_1 : Nat := 51
abbrev n_poly_at : Nat := 52
abbrev n_integer_Add : Nat := 53
abbrev n_rat_Den : Nat := 54
abbrev n_rat_Make : Nat := 55
abbrev n_integer_Mul : Nat := 56
abbrev n_rat_Same_1 : Nat := 57
abbrev n_slices_Equal_int_int : Nat := 58
abbrev n_slices_Backward_api_Poly_api_Rat : Nat := 59
abbrev n_gantryref05_Make : Nat := 60
abbrev n_gantryref04_Of : Nat := 61
abbrev n_gantryref04_Neg : Nat := 62
abbrev n_gantryref05_Add : Nat := 63
abbrev n_gantryref05_Mul : Nat := 64
abbrev n_integer_Sign : Nat := 65
abbrev n_gantryref04_Same : Nat := 66
abbrev n_slices_IndexFunc_api_Poly_api_Rat : Nat := 67
abbrev n_integer_Valid : Nat := 68
abbrev n_rat_unit : Nat := 69
abbrev n_integer_Gcd : Nat := 70
abbrev n_gantryref04_Valid : Nat := 71
abbrev n_gantryref05_one : Nat := 72
abbrev n_gantryref04_Gcd : Nat := 73
abbrev n_gantryref04_Sign : Nat := 74
abbrev n_poly_Scale : Nat := 75
abbrev n_rat_lowest : Nat := 76
abbrev n_rat_Neg : Nat := 77
abbrev n_gantryref04_Mul : Nat := 78
abbrev n_gantryref05_Den : Nat := 79
abbrev n_integer_Of : Nat := 80
abbrev n_integer_of : Nat := 81
abbrev n_integer_plus : Nat := 82
abbrev n_integer_compare : Nat := 83
abbrev n_integer_minus : Nat := 84
abbrev n_rat_one : Nat := 85
abbrev n_integer_Div : Nat := 86
abbrev n_integer_unsigned : Nat := 87
abbrev n_slices_Backward_api_Poly_api_Rat_1 : Nat := 88
abbrev n_gantryref04_Div : Nat := 89
abbrev n_gantryref04_normal : Nat := 90
abbrev n_gantryref04_Add : Nat := 91
abbrev n_slices_ContainsFunc_int_int : Nat := 92
abbrev n_integer_Valid_1 : Nat := 93
abbrev n_integer_two : Nat := 94
abbrev n_integer_divide : Nat := 95
abbrev n_gantryref04_tiny : Nat := 96
abbrev n_gantryref04_Compare : Nat := 97
abbrev n_poly_Scale_1 : Nat := 98
abbrev n_integer_Neg : Nat := 99
abbrev n_cmp_Compare_int : Nat := 100
abbrev n_gantryref04_divided : Nat := 101
abbrev n_gantryref04_minus : Nat := 102
abbrev n_gantryref04_plus : Nat := 103
abbrev n_gantryref04_compared : Nat := 104
abbrev n_slices_IndexFunc_int_int : Nat := 105
abbrev n_integer_short : Nat := 106
abbrev n_integer_long : Nat := 107
abbrev n_gantryref04_digit : Nat := 108
abbrev n_cmp_isNaN_int : Nat := 109
abbrev n_gantryref04_times : Nat := 110
abbrev n_integer_scaled : Nat := 111
abbrev n_runtime_boundsError_Error : Nat := 112
abbrev n_runtime_boundsError_RuntimeError : Nat := 113
abbrev n_runtime_errorString_Error : Nat := 114
abbrev n_runtime_errorString_RuntimeError : Nat := 115
abbrev n_runtime_plainError_Error : Nat := 116
abbrev n_runtime_plainError_RuntimeError : Nat := 117
abbrev n_runtime_errorAddressString_Error : Nat := 118
abbrev n_runtime_errorAddressString_RuntimeError : Nat := 119
abbrev n_runtime_TypeAssertionError_Error : Nat := 120
abbrev n_runtime_TypeAssertionError_RuntimeError : Nat := 121
abbrev n_runtime_PanicNilError_Error : Nat := 122
abbrev n_runtime_PanicNilError_RuntimeError : Nat := 123
abbrev n_internal_abi_Type_Align : Nat := 124
abbrev n_internal_runtime_maps_unhashableTypeError_Error : Nat := 125
abbrev n_internal_runtime_maps_unhashableTypeError_RuntimeError : Nat := 126
abbrev n_internal_abi_Kind_String : Nat := 127

def gantrylaw06_PolyDivisors : CF := ⟨3, .seq (.seq (.reg [⟨some 6, .mov (.c (.v (.bool false))), none⟩] []) <|
 .keep [0, 1, 2] []) <|
 .seq (.seq (.reg [⟨some 18, .mov (.t 0), none⟩,
 ⟨some 19, .call n_gantryref06_Poly [(.t 18)] false, none⟩,
 ⟨some 7, .mov (.t 19), none⟩] []) <|
 .keep [1, 2, 7] []) <|
 .seq (.seq (.reg [⟨some 20, .mov (.t 1), none⟩,
 ⟨some 21, .call n_gantryref06_Poly [(.t 20)] false, none⟩,
 ⟨some 8, .mov (.t 21), none⟩] []) <|
 .keep [2, 7, 8] []) <|
 .seq (.seq (.reg [⟨some 22, .mov (.t 2), none⟩,
 ⟨some 23, .call n_gantryref06_Poly [(.t 22)] false, none⟩,
 ⟨some 9, .mov (.t 23), none⟩] []) <|
 .keep [7, 8, 9] []) <|
 .seq (.seq (.seq (.reg [⟨some 24, .mov (.t 9), none⟩,
 ⟨some 25, .len (.t 24), none⟩,
 ⟨some 26, .bin .gtr (.t 25) (.c (.v (.int .i64 3))), none⟩] []) <|
 .keep [7, 8, 9, 26] []) <|
 .cond (.t 26) (.seq (.reg [⟨some 27, .mov (.t 9), none⟩,
 ⟨some 28, .slc 4 (.t 27) none (some (.c (.v (.int .i64 0)))) none, none⟩,
 ⟨some 9, .mov (.t 28), none⟩] []) <|
 .keep [7, 8, 9] []) <|
 .skip) <|
 .seq (.seq (.reg [⟨some 29, .mov (.t 7), none⟩,
 ⟨some 30, .mov (.t 8), none⟩,
 ⟨some 31, .call n_poly_Gcd [(.t 29), (.t 30)] false, none⟩,
 ⟨some 10, .mov (.t 31), none⟩] []) <|
 .keep [7, 8, 9, 10] []) <|
 .seq (.seq (.seq (.reg [⟨some 32, .mov (.t 7), none⟩,
 ⟨some 33, .len (.t 32), none⟩,
 ⟨some 34, .mov (.t 8), none⟩,
 ⟨some 35, .len (.t 34), none⟩,
 ⟨some 36, .bin .add (.t 33) (.t 35), none⟩,
 ⟨some 37, .bin .eql (.t 36) (.c (.v (.int .i64 0))), none⟩] []) <|
 .keep [7, 8, 9, 10, 37] []) <|
 .cond (.t 37) (.seq (.seq (.reg [⟨some 38, .mov (.t 10), none⟩,
 ⟨some 39, .len (.t 38), none⟩,
 ⟨some 40, .bin .eql (.t 39) (.c (.v (.int .i64 0))), none⟩,
 ⟨some 41, .mov (.t 40), none⟩,
 ⟨some 42, .call n_gantrylaw06_lives [] false, (some (41, true))⟩,
 ⟨some 43, .pick (.t 41) (.t 42) (.c (.v (.bool false))), none⟩,
 ⟨some 6, .mov (.t 43), none⟩] []) <|
 .keep [6] []) <|
 .ret) <|
 .skip) <|
 .seq (.seq (.reg [⟨some 45, .mov (.t 7), none⟩,
 ⟨some 46, .mov (.t 10), none⟩,
 ⟨some 47, .call n_poly_Div [(.t 45), (.t 46)] false, none⟩,
 ⟨some 44, .mov (.t 47), none⟩,
 ⟨some 48, .ext (.t 44) 0, none⟩,
 ⟨some 49, .ext (.t 44) 1, none⟩,
 ⟨some 11, .mov (.t 48), none⟩,
 ⟨some 12, .mov (.t 49), none⟩] []) <|
 .keep [7, 8, 9, 10, 11, 12] []) <|
 .seq (.seq (.reg [⟨some 51, .mov (.t 8), none⟩,
 ⟨some 52, .mov (.t 10), none⟩,
 ⟨some 53, .call n_poly_Div [(.t 51), (.t 52)] false, none⟩,
 ⟨some 50, .mov (.t 53), none⟩,
 ⟨some 54, .ext (.t 50) 0, none⟩,
 ⟨some 55, .ext (.t 50) 1, none⟩,
 ⟨some 13, .mov (.t 54), none⟩,
 ⟨some 14, .mov (.t 55), none⟩] []) <|
 .keep [7, 8, 9, 10, 11, 12, 13, 14] []) <|
 .seq (.seq (.seq (.reg [⟨some 56, .mov (.t 10), none⟩,
 ⟨some 57, .len (.t 56), none⟩,
 ⟨some 58, .bin .eql (.t 57) (.c (.v (.int .i64 0))), none⟩,
 ⟨some 59, .mov (.t 58), none⟩,
 ⟨some 60, .mov (.t 12), (some (59, false))⟩,
 ⟨some 61, .len (.t 60), (some (59, false))⟩,
 ⟨some 62, .mov (.t 14), (some (59, false))⟩,
 ⟨some 63, .len (.t 62), (some (59, false))⟩,
 ⟨some 64, .bin .add (.t 61) (.t 63), (some (59, false))⟩,
 ⟨some 65, .bin .gtr (.t 64) (.c (.v (.int .i64 0))), (some (59, false))⟩,
 ⟨some 66, .pick (.t 59) (.c (.v (.bool true))) (.t 65), none⟩,
 ⟨some 67, .mov (.t 66), none⟩,
 ⟨some 68, .mov (.t 11), (some (67, false))⟩,
 ⟨some 69, .mov (.t 10), (some (67, false))⟩,
 ⟨some 70, .call n_poly_Mul [(.t 68), (.t 69)] false, (some (67, false))⟩,
 ⟨some 71, .mov (.t 7), (some (67, false))⟩,
 ⟨some 72, .call n_gantryref06_Same [(.t 70), (.t 71)] false, (some (67, false))⟩,
 ⟨some 73, .un .not (.t 72), (some (67, false))⟩,
 ⟨some 74, .pick (.t 67) (.c (.v (.bool true))) (.t 73), none⟩,
 ⟨some 75, .mov (.t 74), none⟩,
 ⟨some 76, .mov (.t 13), (some (75, false))⟩,
 ⟨some 77, .mov (.t 10), (some (75, false))⟩,
 ⟨some 78, .call n_poly_Mul [(.t 76), (.t 77)] false, (some (75, false))⟩,
 ⟨some 79, .mov (.t 8), (some (75, false))⟩,
 ⟨some 80, .call n_gantryref06_Same [(.t 78), (.t 79)] false, (some (75, false))⟩,
 ⟨some 81, .un .not (.t 80), (some (75, false))⟩,
 ⟨some 82, .pick (.t 75) (.c (.v (.bool true))) (.t 81), none⟩,
 ⟨some 83, .mov (.t 82), none⟩,
 ⟨some 84, .mov (.t 11), (some (83, false))⟩,
 ⟨some 85, .mov (.t 13), (some (83, false))⟩,
 ⟨some 86, .call n_poly_Gcd [(.t 84), (.t 85)] false, (some (83, false))⟩,
 ⟨some 87, .lit 1 1 [.v (.int .i64 0)] [(0, (.c (.v (.int .i64 1))))] true, (some (83, false))⟩,
 ⟨some 88, .call n_gantrylaw06_is [(.t 86), (.t 87)] false, (some (83, false))⟩,
 ⟨some 89, .un .not (.t 88), (some (83, false))⟩,
 ⟨some 90, .pick (.t 83) (.c (.v (.bool true))) (.t 89), none⟩] []) <|
 .keep [7, 8, 9, 10, 90] []) <|
 .cond (.t 90) (.seq (.seq (.reg [⟨some 6, .mov (.c (.v (.bool false))), none⟩] []) <|
 .keep [6] []) <|
 .ret) <|
 .skip) <|
 .seq (.seq (.seq (.reg [⟨some 91, .mov (.t 9), none⟩,
 ⟨some 92, .len (.t 91), none⟩,
 ⟨some 93, .bin .gtr (.t 92) (.c (.v (.int .i64 0))), none⟩,
 ⟨some 94, .mov (.t 93), none⟩,
 ⟨some 95, .mov (.t 7), (some (94, true))⟩,
 ⟨some 96, .mov (.t 9), (some (94, true))⟩,
 ⟨some 97, .call n_poly_Mul [(.t 95), (.t 96)] false, (some (94, true))⟩,
 ⟨some 98, .mov (.t 8), (some (94, true))⟩,
 ⟨some 99, .mov (.t 9), (some (94, true))⟩,
 ⟨some 100, .call n_poly_Mul [(.t 98), (.t 99)] false, (some (94, true))⟩,
 ⟨some 101, .call n_poly_Gcd [(.t 97), (.t 100)] false, (some (94, true))⟩,
 ⟨some 102, .mov (.t 10), (some (94, true))⟩,
 ⟨some 103, .mov (.t 9), (some (94, true))⟩,
 ⟨some 104, .call n_poly_Mul [(.t 102), (.t 103)] false, (some (94, true))⟩,
 ⟨some 105, .call n_gantryref06_Monic [(.t 104)] false, (some (94, true))⟩,
 ⟨some 106, .call n_gantryref06_Same [(.t 101), (.t 105)] false, (some (94, true))⟩,
 ⟨some 107, .un .not (.t 106), (some (94, true))⟩,
 ⟨some 108, .pick (.t 94) (.t 107) (.c (.v (.bool false))), none⟩] []) <|
 .keep [7, 108] []) <|
 .cond (.t 108) (.seq (.seq (.reg [⟨some 6, .mov (.c (.v (.bool false))), none⟩] []) <|
 .keep [6] []) <|
 .ret) <|
 .skip) <|
 .seq (.seq (.reg [⟨some 109, .mov (.t 7), none⟩,
 ⟨some 110, .call n_poly_Free [(.t 109)] false, none⟩,
 ⟨some 15, .mov (.t 110), none⟩] []) <|
 .keep [7, 15] []) <|
 .seq (.seq (.seq (.reg [⟨some 111, .mov (.t 7), none⟩,
 ⟨some 112, .len (.t 111), none⟩,
 ⟨some 113, .bin .eql (.t 112) (.c (.v (.int .i64 0))), none⟩] []) <|
 .keep [7, 15, 113] []) <|
 .cond (.t 113) (.seq (.seq (.reg [⟨some 114, .mov (.t 15), none⟩,
 ⟨some 115, .len (.t 114), none⟩,
 ⟨some 116, .bin .eql (.t 115) (.c (.v (.int .i64 0))), none⟩,
 ⟨some 117, .mov (.t 116), none⟩,
 ⟨some 118, .call n_gantrylaw06_lives [] false, (some (117, true))⟩,
 ⟨some 119, .pick (.t 117) (.t 118) (.c (.v (.bool false))), none⟩,
 ⟨some 6, .mov (.t 119), none⟩] []) <|
 .keep [6] []) <|
 .ret) <|
 .skip) <|
 .seq (.seq (.reg [⟨some 121, .mov (.t 7), none⟩,
 ⟨some 122, .mov (.t 15), none⟩,
 ⟨some 123, .call n_poly_Div [(.t 121), (.t 122)] false, none⟩,
 ⟨some 120, .mov (.t 123), none⟩,
 ⟨some 124, .ext (.t 120) 0, none⟩,
 ⟨some 125, .ext (.t 120) 1, none⟩,
 ⟨some 16, .mov (.t 124), none⟩,
 ⟨some 17, .mov (.t 125), none⟩] []) <|
 .keep [7, 15, 17] []) <|
 .seq (.seq (.reg [⟨some 126, .mov (.t 15), none⟩,
 ⟨some 127, .len (.t 126), none⟩,
 ⟨some 128, .bin .gtr (.t 127) (.c (.v (.int .i64 0))), none⟩,
 ⟨some 129, .mov (.t 128), none⟩,
 ⟨some 130, .mov (.t 17), (some (129, true))⟩,
 ⟨some 131, .len (.t 130), (some (129, true))⟩,
 ⟨some 132, .bin .eql (.t 131) (.c (.v (.int .i64 0))), (some (129, true))⟩,
 ⟨some 133, .pick (.t 129) (.t 132) (.c (.v (.bool false))), none⟩,
 ⟨some 134, .mov (.t 133), none⟩,
 ⟨some 135, .mov (.t 15), (some (134, true))⟩,
 ⟨some 136, .mov (.t 15), (some (134, true))⟩,
 ⟨some 137, .call n_poly_Derive [(.t 136)] false, (some (134, true))⟩,
 ⟨some 138, .call n_poly_Gcd [(.t 135), (.t 137)] false, (some (134, true))⟩,
 ⟨some 139, .lit 1 1 [.v (.int .i64 0)] [(0, (.c (.v (.int .i64 1))))] true, (some (134, true))⟩,
 ⟨some 140, .call n_gantrylaw06_is [(.t 138), (.t 139)] false, (some (134, true))⟩,
 ⟨some 141, .pick (.t 134) (.t 140) (.c (.v (.bool false))), none⟩,
 ⟨some 142, .mov (.t 141), none⟩,
 ⟨some 143, .mov (.t 7), (some (142, true))⟩,
 ⟨some 144, .mov (.t 7), (some (142, true))⟩,
 ⟨some 145, .call n_poly_Mul [(.t 143), (.t 144)] false, (some (142, true))⟩,
 ⟨some 146, .call n_poly_Free [(.t 145)] false, (some (142, true))⟩,
 ⟨some 147, .mov (.t 15), (some (142, true))⟩,
 ⟨some 148, .call n_gantryref06_Same [(.t 146), (.t 147)] false, (some (142, true))⟩,
 ⟨some 149, .pick (.t 142) (.t 148) (.c (.v (.bool false))), none⟩,
 ⟨some 150, .mov (.t 149), none⟩,
 ⟨some 151, .call n_gantrylaw06_lives [] false, (some (150, true))⟩,
 ⟨some 152, .pick (.t 150) (.t 151) (.c (.v (.bool false))), none⟩,
 ⟨some 6, .mov (.t 152), none⟩] []) <|
 .keep [6] []) <|
 .ret, [.t 6]⟩

def gantryref06_Poly_l0 : C :=
 .seq (.seq (.seq (.seq (.reg [⟨some 11, .mov (.t 4), none⟩,
 ⟨some 12, .mov (.t 0), none⟩,
 ⟨some 13, .len (.t 12), none⟩,
 ⟨some 14, .bin .lss (.t 11) (.t 13), none⟩,
 ⟨some 15, .mov (.t 14), none⟩,
 ⟨some 16, .mov (.t 4), (some (15, true))⟩,
 ⟨some 17, .bin .lss (.t 16) (.c (.v (.int .i64 6))), (some (15, true))⟩,
 ⟨some 18, .pick (.t 15) (.t 17) (.c (.v (.bool false))), none⟩] []) <|
 .keep [0, 3, 4, 18] [[28]]) <|
 .cond (.t 18) (.skip) <|
 .seq (.keep [3] [[28]]) <|
 .exit 0) <|
 .seq (.seq (.blk 1 <|
 .seq (.reg [⟨some 21, .mov (.t 3), none⟩,
 ⟨some 22, .mov (.t 0), none⟩,
 ⟨some 23, .mov (.t 4), none⟩,
 ⟨some 24, .ixa 1 (.t 22) (.t 23), none⟩,
 ⟨some 25, .load none (.t 24), none⟩,
 ⟨some 26, .call n_gantryref06_Small [(.t 25)] false, none⟩,
 ⟨some 27, .lit 4 1 [.v (.bool false), .z true, .v (.bool false), .z true] [(0, (.t 26))] true, none⟩,
 ⟨some 28, .app 4 64 (.t 21) (.t 27) false, none⟩,
 ⟨some 3, .mov (.t 28), none⟩] []) <|
 .keep [0, 3, 4] [[28]]) <|
 .keep [0, 3, 4] [[28]]) <|
 .seq (.reg [⟨some 19, .mov (.t 4), none⟩,
 ⟨some 20, .bin .add (.t 19) (.c (.v (.int .i64 1))), none⟩,
 ⟨some 4, .mov (.t 20), none⟩] []) <|
 .keep [0, 3, 4] [[28]]) <|
 .keep [0, 3, 4] [[28]]
def gantryref06_Poly_l1 : C :=
 .seq (.seq (.seq (.seq (.reg [⟨some 37, .mov (.t 6), none⟩,
 ⟨some 38, .mov (.t 0), none⟩,
 ⟨some 39, .len (.t 38), none⟩,
 ⟨some 40, .bin .lss (.t 37) (.t 39), none⟩,
 ⟨some 41, .mov (.t 40), none⟩,
 ⟨some 42, .mov (.t 6), (some (41, true))⟩,
 ⟨some 43, .bin .lss (.t 42) (.c (.v (.int .i64 5))), (some (41, true))⟩,
 ⟨some 44, .pick (.t 41) (.t 43) (.c (.v (.bool false))), none⟩] []) <|
 .keep [0, 5, 6, 44] []) <|
 .cond (.t 44) (.skip) <|
 .seq (.keep [5] []) <|
 .exit 2) <|
 .seq (.seq (.blk 3 <|
 .seq (.seq (.reg [⟨some 47, .mov (.t 0), none⟩,
 ⟨some 48, .mov (.t 6), none⟩,
 ⟨some 49, .ixa 1 (.t 47) (.t 48), none⟩,
 ⟨some 50, .load none (.t 49), none⟩,
 ⟨some 51, .call n_gantryref06_Small [(.t 50)] false, none⟩,
 ⟨some 52, .call n_gantryref05_Neg [(.t 51)] false, none⟩,
 ⟨some 53, .call n_gantryref05_Of [(.c (.v (.int .i64 1))), (.c (.v (.int .i64 1)))] false, none⟩,
 ⟨some 54, .lit 4 2 [.v (.bool false), .z true, .v (.bool false), .z true] [(0, (.t 52)), (1, (.t 53))] true, none⟩,
 ⟨some 7, .mov (.t 54), none⟩] []) <|
 .keep [0, 5, 6, 7] []) <|
 .seq (.seq (.seq (.reg [⟨some 55, .mov (.t 0), none⟩,
 ⟨some 56, .mov (.t 6), none⟩,
 ⟨some 57, .ixa 1 (.t 55) (.t 56), none⟩,
 ⟨some 58, .load none (.t 57), none⟩,
 ⟨some 59, .bin .rem (.t 58) (.c (.v (.int .i64 7))), none⟩,
 ⟨some 60, .bin .eql (.t 59) (.c (.v (.int .i64 3))), none⟩,
 ⟨some 61, .mov (.t 60), none⟩,
 ⟨some 62, .mov (.t 6), (some (61, true))⟩,
 ⟨some 63, .bin .lss (.t 62) (.c (.v (.int .i64 4))), (some (61, true))⟩,
 ⟨some 64, .pick (.t 61) (.t 63) (.c (.v (.bool false))), none⟩,
 ⟨some 65, .mov (.t 64), none⟩,
 ⟨some 66, .mov (.t 5), (some (65, true))⟩,
 ⟨some 67, .len (.t 66), (some (65, true))⟩,
 ⟨some 68, .bin .lss (.t 67) (.c (.v (.int .i64 4))), (some (65, true))⟩,
 ⟨some 69, .pick (.t 65) (.t 68) (.c (.v (.bool false))), none⟩] []) <|
 .keep [0, 5, 6, 7, 69] []) <|
 .cond (.t 69) (.seq (.reg [⟨some 70, .mov (.t 0), none⟩,
 ⟨some 71, .mov (.t 6), none⟩,
 ⟨some 72, .ixa 1 (.t 70) (.t 71), none⟩,
 ⟨some 73, .load none (.t 72), none⟩,
 ⟨some 74, .bin .quo (.t 73) (.c (.v (.int .i64 7))), none⟩,
 ⟨some 75, .call n_gantryref06_Small [(.t 74)] false, none⟩,
 ⟨some 76, .mov (.t 0), none⟩,
 ⟨some 77, .mov (.t 6), none⟩,
 ⟨some 78, .ixa 1 (.t 76) (.t 77), none⟩,
 ⟨some 79, .load none (.t 78), none⟩,
 ⟨some 80, .bin .quo (.t 79) (.c (.v (.int .i64 3))), none⟩,
 ⟨some 81, .call n_gantryref06_Small [(.t 80)] false, none⟩,
 ⟨some 82, .call n_gantryref05_Of [(.c (.v (.int .i64 1))), (.c (.v (.int .i64 1)))] false, none⟩,
 ⟨some 83, .lit 4 3 [.v (.bool false), .z true, .v (.bool false), .z true] [(0, (.t 75)), (1, (.t 81)), (2, (.t 82))] true, none⟩,
 ⟨some 7, .mov (.t 83), none⟩] []) <|
 .keep [0, 5, 6, 7] []) <|
 .skip) <|
 .seq (.reg [⟨some 84, .mov (.t 5), none⟩,
 ⟨some 85, .mov (.t 7), none⟩,
 ⟨some 86, .call n_gantryref06_Trim [(.t 85)] false, none⟩,
 ⟨some 87, .call n_gantryref06_Mul [(.t 84), (.t 86)] false, none⟩,
 ⟨some 5, .mov (.t 87), none⟩] []) <|
 .keep [0, 5, 6] []) <|
 .keep [0, 5, 6] []) <|
 .seq (.reg [⟨some 45, .mov (.t 6), none⟩,
 ⟨some 46, .bin .add (.t 45) (.c (.v (.int .i64 1))), none⟩,
 ⟨some 6, .mov (.t 46), none⟩] []) <|
 .keep [0, 5, 6] []) <|
 .keep [0, 5, 6] []
def gantryref06_Poly : CF := ⟨1, .seq (.seq (.reg [⟨some 2, .mov (.c (.z true)), none⟩] []) <|
 .keep [0] []) <|
 .seq (.seq (.seq (.reg [⟨some 8, .mov (.t 0), none⟩,
 ⟨some 9, .call n_gantryref01_At [(.t 8), (.c (.v (.int .i64 0))), (.c (.v (.int .i64 3)))] false, none⟩,
 ⟨some 10, .bin .eql (.t 9) (.c (.v (.int .i64 0))), none⟩] []) <|
 .keep [0, 10] []) <|
 .cond (.t 10) (.seq (.seq (.reg [⟨some 3, .mov (.c (.z true)), none⟩] []) <|
 .keep [0, 3] [[28]]) <|
 .seq (.seq (.seq (.reg [⟨some 4, .mov (.c (.v (.int .i64 1))), none⟩] []) <|
 .keep [0, 3, 4] [[28]]) <|
 .seq (.blk 0 <|
 .seq (.keep [0, 3, 4] [[28]]) <|
 .loop gantryref06_Poly_l0) <|
 .keep [3] [[28]]) <|
 .seq (.seq (.frz 3) <|
 .seq (.reg [⟨some 29, .mov (.t 3), none⟩,
 ⟨some 30, .call n_gantryref06_Trim [(.t 29)] false, none⟩,
 ⟨some 2, .mov (.t 30), none⟩] []) <|
 .keep [2] []) <|
 .ret) <|
 .skip) <|
 .seq (.seq (.reg [⟨some 31, .mov (.t 0), none⟩,
 ⟨some 32, .call n_gantryref01_At [(.t 31), (.c (.v (.int .i64 1))), (.c (.v (.int .i64 5)))] false, none⟩,
 ⟨some 33, .bin .add (.c (.v (.int .i64 1))) (.t 32), none⟩,
 ⟨some 34, .call n_gantryref05_Of [(.t 33), (.c (.v (.int .i64 1)))] false, none⟩,
 ⟨some 35, .lit 4 1 [.v (.bool false), .z true, .v (.bool false), .z true] [(0, (.t 34))] true, none⟩,
 ⟨some 36, .call n_gantryref06_Trim [(.t 35)] false, none⟩,
 ⟨some 5, .mov (.t 36), none⟩] []) <|
 .keep [0, 5] []) <|
 .seq (.seq (.seq (.reg [⟨some 6, .mov (.c (.v (.int .i64 2))), none⟩] []) <|
 .keep [0, 5, 6] []) <|
 .seq (.blk 2 <|
 .seq (.keep [0, 5, 6] []) <|
 .loop gantryref06_Poly_l1) <|
 .keep [5] []) <|
 .seq (.seq (.reg [⟨some 88, .mov (.t 5), none⟩,
 ⟨some 2, .mov (.t 88), none⟩] []) <|
 .keep [2] []) <|
 .ret, [.t 2]⟩

def gantryref01_Around : CF := ⟨2, .seq (.seq (.reg [⟨some 4, .mov (.c (.v (.int .i64 0))), none⟩] []) <|
 .keep [0, 1] []) <|
 .seq (.seq (.seq (.reg [⟨some 5, .mov (.t 0), none⟩,
 ⟨some 6, .bin .lss (.t 5) (.c (.v (.int .i64 0))), none⟩] []) <|
 .keep [0, 1, 6] []) <|
 .cond (.t 6) (.seq (.reg [⟨some 7, .mov (.t 0), none⟩,
 ⟨some 8, .bin .add (.t 7) (.c (.v (.int .i64 1))), none⟩,
 ⟨some 9, .un .neg (.t 8), none⟩,
 ⟨some 0, .mov (.t 9), none⟩] []) <|
 .keep [0, 1] []) <|
 .skip) <|
 .seq (.seq (.reg [⟨some 10, .mov (.t 0), none⟩,
 ⟨some 11, .mov (.t 1), none⟩,
 ⟨some 12, .bin .rem (.t 10) (.t 11), none⟩,
 ⟨some 4, .mov (.t 12), none⟩] []) <|
 .keep [4] []) <|
 .ret, [.t 4]⟩

def poly_Trim_l0 : C :=
 .seq (.seq (.seq (.seq (.reg [⟨some 6, .mov (.t 3), none⟩,
 ⟨some 7, .bin .gtr (.t 6) (.c (.v (.int .i64 0))), none⟩,
 ⟨some 8, .mov (.t 7), none⟩,
 ⟨some 9, .mov (.t 0), (some (8, true))⟩,
 ⟨some 10, .mov (.t 3), (some (8, true))⟩,
 ⟨some 11, .bin .sub (.t 10) (.c (.v (.int .i64 1))), (some (8, true))⟩,
 ⟨some 12, .ixa 4 (.t 9) (.t 11), (some (8, true))⟩,
 ⟨some 13, .load (some 4) (.t 12), (some (8, true))⟩,
 ⟨some 14, .call n_rat_Sign [(.t 13)] false, (some (8, true))⟩,
 ⟨some 15, .bin .eql (.t 14) (.c (.v (.int .i64 0))), (some (8, true))⟩,
 ⟨some 16, .pick (.t 8) (.t 15) (.c (.v (.bool false))), none⟩] []) <|
 .keep [0, 3, 16] []) <|
 .cond (.t 16) (.skip) <|
 .seq (.keep [0, 3] []) <|
 .exit 0) <|
 .seq (.blk 1 <|
 .seq (.reg [⟨some 17, .mov (.t 3), none⟩,
 ⟨some 18, .bin .sub (.t 17) (.c (.v (.int .i64 1))), none⟩,
 ⟨some 3, .mov (.t 18), none⟩] []) <|
 .keep [0, 3] []) <|
 .keep [0, 3] []) <|
 .keep [0, 3] []
def poly_Trim : CF := ⟨1, .seq (.seq (.reg [⟨some 2, .mov (.c (.z true)), none⟩] []) <|
 .keep [0] []) <|
 .seq (.seq (.reg [⟨some 4, .mov (.t 0), none⟩,
 ⟨some 5, .len (.t 4), none⟩,
 ⟨some 3, .mov (.t 5), none⟩] []) <|
 .keep [0, 3] []) <|
 .seq (.seq (.blk 0 <|
 .seq (.keep [0, 3] []) <|
 .loop poly_Trim_l0) <|
 .keep [0, 3] []) <|
 .seq (.seq (.reg [⟨some 19, .mov (.t 0), none⟩,
 ⟨some 20, .mov (.t 3), none⟩,
 ⟨some 21, .slc 4 (.t 19) none (some (.t 20)) none, none⟩,
 ⟨some 22, .call n_slices_Clone_api_Poly_api_Rat [(.t 21)] false, none⟩,
 ⟨some 2, .mov (.t 22), none⟩] []) <|
 .keep [2] []) <|
 .ret, [.t 2]⟩

def gantryref06_Same_l0 : C :=
 .seq (.seq (.seq (.seq (.reg [⟨some 11, .mov (.t 5), none⟩,
 ⟨some 12, .mov (.t 0), none⟩,
 ⟨some 13, .len (.t 12), none⟩,
 ⟨some 14, .bin .lss (.t 11) (.t 13), none⟩] []) <|
 .keep [0, 1, 5, 14] []) <|
 .cond (.t 14) (.skip) <|
 .seq (.keep [] []) <|
 .exit 0) <|
 .seq (.seq (.blk 1 <|
 .seq (.seq (.reg [⟨some 17, .mov (.t 0), none⟩,
 ⟨some 18, .mov (.t 5), none⟩,
 ⟨some 19, .ixa 4 (.t 17) (.t 18), none⟩,
 ⟨some 20, .load (some 4) (.t 19), none⟩,
 ⟨some 21, .mov (.t 1), none⟩,
 ⟨some 22, .mov (.t 5), none⟩,
 ⟨some 23, .ixa 4 (.t 21) (.t 22), none⟩,
 ⟨some 24, .load (some 4) (.t 23), none⟩,
 ⟨some 25, .call n_gantryref05_Same [(.t 20), (.t 24)] false, none⟩,
 ⟨some 26, .un .not (.t 25), none⟩] []) <|
 .keep [0, 1, 5, 26] []) <|
 .cond (.t 26) (.seq (.seq (.reg [⟨some 4, .mov (.c (.v (.bool false))), none⟩] []) <|
 .keep [4] []) <|
 .ret) <|
 .skip) <|
 .keep [0, 1, 5] []) <|
 .seq (.reg [⟨some 15, .mov (.t 5), none⟩,
 ⟨some 16, .bin .add (.t 15) (.c (.v (.int .i64 1))), none⟩,
 ⟨some 5, .mov (.t 16), none⟩] []) <|
 .keep [0, 1, 5] []) <|
 .keep [0, 1, 5] []
def gantryref06_Same : CF := ⟨2, .seq (.seq (.reg [⟨some 4, .mov (.c (.v (.bool false))), none⟩] []) <|
 .keep [0, 1] []) <|
 .seq (.seq (.seq (.reg [⟨some 6, .mov (.t 0), none⟩,
 ⟨some 7, .len (.t 6), none⟩,
 ⟨some 8, .mov (.t 1), none⟩,
 ⟨some 9, .len (.t 8), none⟩,
 ⟨some 10, .bin .neq (.t 7) (.t 9), none⟩] []) <|
 .keep [0, 1, 10] []) <|
 .cond (.t 10) (.seq (.seq (.reg [⟨some 4, .mov (.c (.v (.bool false))), none⟩] []) <|
 .keep [4] []) <|
 .ret) <|
 .skip) <|
 .seq (.seq (.seq (.reg [⟨some 5, .mov (.c (.v (.int .i64 0))), none⟩] []) <|
 .keep [0, 1, 5] []) <|
 .seq (.blk 0 <|
 .seq (.keep [0, 1, 5] []) <|
 .loop gantryref06_Same_l0) <|
 .keep [] []) <|
 .seq (.seq (.reg [⟨some 4, .mov (.c (.v (.bool true))), none⟩] []) <|
 .keep [4] []) <|
 .ret, [.t 4]⟩

def poly_Degree : CF := ⟨1, .seq (.seq (.reg [⟨some 2, .mov (.c (.v (.int .i64 0))), none⟩] []) <|
 .keep [0] []) <|
 .seq (.seq (.reg [⟨some 3, .mov (.t 0), none⟩,
 ⟨some 4, .len (.t 3), none⟩,
 ⟨some 5, .bin .sub (.t 4) (.c (.v (.int .i64 1))), none⟩,
 ⟨some 2, .mov (.t 5), none⟩] []) <|
 .keep [2] []) <|
 .ret, [.t 2]⟩

def poly_Valid : CF := ⟨1, .seq (.seq (.reg [⟨some 2, .mov (.c (.v (.bool false))), none⟩] []) <|
 .keep [0] []) <|
 .seq (.seq (.reg [⟨some 4, .mov (.t 0), none⟩,
 ⟨some 5, .len (.t 4), none⟩,
 ⟨some 3, .mov (.t 5), none⟩] []) <|
 .keep [0, 3] []) <|
 .seq (.seq (.reg [⟨some 6, .mov (.t 0), none⟩,
 ⟨some 7, .call n_slices_ContainsFunc_api_Poly_api_Rat [(.t 6), (.f n_poly_Valid_1)] false, none⟩,
 ⟨some 8, .un .not (.t 7), none⟩,
 ⟨some 9, .mov (.t 8), none⟩,
 ⟨some 10, .mov (.t 3), (some (9, true))⟩,
 ⟨some 11, .bin .eql (.t 10) (.c (.v (.int .i64 0))), (some (9, true))⟩,
 ⟨some 12, .mov (.t 11), (some (9, true))⟩,
 ⟨some 13, .mov (.t 0), (some (12, false))⟩,
 ⟨some 14, .mov (.t 3), (some (12, false))⟩,
 ⟨some 15, .bin .sub (.t 14) (.c (.v (.int .i64 1))), (some (12, false))⟩,
 ⟨some 16, .ixa 4 (.t 13) (.t 15), (some (12, false))⟩,
 ⟨some 17, .load (some 4) (.t 16), (some (12, false))⟩,
 ⟨some 18, .call n_rat_Sign [(.t 17)] false, (some (12, false))⟩,
 ⟨some 19, .bin .neq (.t 18) (.c (.v (.int .i64 0))), (some (12, false))⟩,
 ⟨some 20, .pick (.t 12) (.c (.v (.bool true))) (.t 19), (some (9, true))⟩,
 ⟨some 21, .pick (.t 9) (.t 20) (.c (.v (.bool false))), none⟩,
 ⟨some 2, .mov (.t 21), none⟩] []) <|
 .keep [2] []) <|
 .ret, [.t 2]⟩

def gantrylaw06_lives : CF := ⟨0, .seq (.seq (.reg [⟨some 0, .mov (.c (.v (.bool false))), none⟩] []) <|
 .keep [] []) <|
 .seq (.seq (.reg [⟨some 10, .lit 1 3 [.v (.int .i64 0)] [(0, (.c (.v (.int .i64 (-1))))), (1, (.c (.v (.int .i64 0)))), (2, (.c (.v (.int .i64 1))))] true, none⟩,
 ⟨some 11, .call n_gantrylaw06_of [(.t 10)] false, none⟩,
 ⟨some 1, .mov (.t 11), none⟩] []) <|
 .keep [1] []) <|
 .seq (.seq (.reg [⟨some 12, .lit 1 2 [.v (.int .i64 0)] [(0, (.c (.v (.int .i64 (-1))))), (1, (.c (.v (.int .i64 1))))] true, none⟩,
 ⟨some 13, .call n_gantrylaw06_of [(.t 12)] false, none⟩,
 ⟨some 2, .mov (.t 13), none⟩] []) <|
 .keep [1, 2] []) <|
 .seq (.seq (.reg [⟨some 14, .mov (.t 1), none⟩,
 ⟨some 15, .mov (.t 2), none⟩,
 ⟨some 16, .call n_poly_Mul [(.t 14), (.t 15)] false, none⟩,
 ⟨some 3, .mov (.t 16), none⟩] []) <|
 .keep [1, 2, 3] []) <|
 .seq (.seq (.reg [⟨some 18, .mov (.t 1), none⟩,
 ⟨some 19, .mov (.t 2), none⟩,
 ⟨some 20, .call n_poly_Div [(.t 18), (.t 19)] false, none⟩,
 ⟨some 17, .mov (.t 20), none⟩,
 ⟨some 21, .ext (.t 17) 0, none⟩,
 ⟨some 22, .ext (.t 17) 1, none⟩,
 ⟨some 4, .mov (.t 21), none⟩,
 ⟨some 5, .mov (.t 22), none⟩] []) <|
 .keep [1, 2, 3, 4, 5] []) <|
 .seq (.seq (.reg [⟨some 24, .mov (.t 2), none⟩,
 ⟨some 25, .mov (.t 1), none⟩,
 ⟨some 26, .call n_poly_Div [(.t 24), (.t 25)] false, none⟩,
 ⟨some 23, .mov (.t 26), none⟩,
 ⟨some 27, .ext (.t 23) 0, none⟩,
 ⟨some 28, .ext (.t 23) 1, none⟩,
 ⟨some 6, .mov (.t 27), none⟩,
 ⟨some 7, .mov (.t 28), none⟩] []) <|
 .keep [1, 2, 3, 4, 5, 6, 7] []) <|
 .seq (.seq (.reg [⟨some 29, .mov (.t 3), none⟩,
 ⟨some 30, .lit 1 4 [.v (.int .i64 0)] [(0, (.c (.v (.int .i64 1)))), (1, (.c (.v (.int .i64 (-1))))), (2, (.c (.v (.int .i64 (-1))))), (3, (.c (.v (.int .i64 1))))] true, none⟩,
 ⟨some 31, .call n_gantrylaw06_is [(.t 29), (.t 30)] false, none⟩,
 ⟨some 32, .mov (.t 31), none⟩,
 ⟨some 33, .mov (.t 4), (some (32, true))⟩,
 ⟨some 34, .lit 1 2 [.v (.int .i64 0)] [(0, (.c (.v (.int .i64 1)))), (1, (.c (.v (.int .i64 1))))] true, (some (32, true))⟩,
 ⟨some 35, .call n_gantrylaw06_is [(.t 33), (.t 34)] false, (some (32, true))⟩,
 ⟨some 36, .pick (.t 32) (.t 35) (.c (.v (.bool false))), none⟩,
 ⟨some 37, .mov (.t 36), none⟩,
 ⟨some 38, .mov (.t 5), (some (37, true))⟩,
 ⟨some 39, .len (.t 38), (some (37, true))⟩,
 ⟨some 40, .bin .eql (.t 39) (.c (.v (.int .i64 0))), (some (37, true))⟩,
 ⟨some 41, .pick (.t 37) (.t 40) (.c (.v (.bool false))), none⟩,
 ⟨some 42, .mov (.t 41), none⟩,
 ⟨some 43, .mov (.t 6), (some (42, true))⟩,
 ⟨some 44, .len (.t 43), (some (42, true))⟩,
 ⟨some 45, .bin .eql (.t 44) (.c (.v (.int .i64 0))), (some (42, true))⟩,
 ⟨some 46, .pick (.t 42) (.t 45) (.c (.v (.bool false))), none⟩,
 ⟨some 47, .mov (.t 46), none⟩,
 ⟨some 48, .mov (.t 7), (some (47, true))⟩,
 ⟨some 49, .lit 1 2 [.v (.int .i64 0)] [(0, (.c (.v (.int .i64 (-1))))), (1, (.c (.v (.int .i64 1))))] true, (some (47, true))⟩,
 ⟨some 50, .call n_gantrylaw06_is [(.t 48), (.t 49)] false, (some (47, true))⟩,
 ⟨some 51, .pick (.t 47) (.t 50) (.c (.v (.bool false))), none⟩,
 ⟨some 8, .mov (.t 51), none⟩] []) <|
 .keep [1, 2, 3, 8] []) <|
 .seq (.seq (.reg [⟨some 52, .mov (.t 1), none⟩,
 ⟨some 53, .mov (.t 2), none⟩,
 ⟨some 54, .mov (.t 2), none⟩,
 ⟨some 55, .call n_poly_Mul [(.t 53), (.t 54)] false, none⟩,
 ⟨some 56, .call n_poly_Gcd [(.t 52), (.t 55)] false, none⟩,
 ⟨some 57, .lit 1 2 [.v (.int .i64 0)] [(0, (.c (.v (.int .i64 (-1))))), (1, (.c (.v (.int .i64 1))))] true, none⟩,
 ⟨some 58, .call n_gantrylaw06_is [(.t 56), (.t 57)] false, none⟩,
 ⟨some 59, .mov (.t 58), none⟩,
 ⟨some 60, .mov (.t 3), (some (59, true))⟩,
 ⟨some 61, .call n_poly_Free [(.t 60)] false, (some (59, true))⟩,
 ⟨some 62, .lit 1 3 [.v (.int .i64 0)] [(0, (.c (.v (.int .i64 (-1))))), (1, (.c (.v (.int .i64 0)))), (2, (.c (.v (.int .i64 1))))] true, (some (59, true))⟩,
 ⟨some 63, .call n_gantrylaw06_is [(.t 61), (.t 62)] false, (some (59, true))⟩,
 ⟨some 64, .pick (.t 59) (.t 63) (.c (.v (.bool false))), none⟩,
 ⟨some 65, .mov (.t 64), none⟩,
 ⟨some 66, .mov (.t 1), (some (65, true))⟩,
 ⟨some 67, .call n_gantryref05_Of [(.c (.v (.int .i64 1))), (.c (.v (.int .i64 1)))] false, (some (65, true))⟩,
 ⟨some 68, .call n_poly_Shift [(.t 66), (.t 67)] false, (some (65, true))⟩,
 ⟨some 69, .lit 1 3 [.v (.int .i64 0)] [(0, (.c (.v (.int .i64 0)))), (1, (.c (.v (.int .i64 2)))), (2, (.c (.v (.int .i64 1))))] true, (some (65, true))⟩,
 ⟨some 70, .call n_gantrylaw06_is [(.t 68), (.t 69)] false, (some (65, true))⟩,
 ⟨some 71, .pick (.t 65) (.t 70) (.c (.v (.bool false))), none⟩,
 ⟨some 9, .mov (.t 71), none⟩] []) <|
 .keep [1, 8, 9] []) <|
 .seq (.seq (.reg [⟨some 72, .mov (.t 8), none⟩,
 ⟨some 73, .mov (.t 72), none⟩,
 ⟨some 74, .mov (.t 9), (some (73, true))⟩,
 ⟨some 75, .pick (.t 73) (.t 74) (.c (.v (.bool false))), none⟩,
 ⟨some 76, .mov (.t 75), none⟩,
 ⟨some 77, .mov (.t 1), (some (76, true))⟩,
 ⟨some 78, .call n_gantryref05_Of [(.c (.v (.int .i64 3))), (.c (.v (.int .i64 1)))] false, (some (76, true))⟩,
 ⟨some 79, .call n_poly_Eval [(.t 77), (.t 78)] false, (some (76, true))⟩,
 ⟨some 80, .call n_gantryref05_Of [(.c (.v (.int .i64 8))), (.c (.v (.int .i64 1)))] false, (some (76, true))⟩,
 ⟨some 81, .call n_gantryref05_Same [(.t 79), (.t 80)] false, (some (76, true))⟩,
 ⟨some 82, .pick (.t 76) (.t 81) (.c (.v (.bool false))), none⟩,
 ⟨some 83, .mov (.t 82), none⟩,
 ⟨some 84, .mov (.t 1), (some (83, true))⟩,
 ⟨some 85, .call n_poly_Degree [(.t 84)] false, (some (83, true))⟩,
 ⟨some 86, .bin .eql (.t 85) (.c (.v (.int .i64 2))), (some (83, true))⟩,
 ⟨some 87, .pick (.t 83) (.t 86) (.c (.v (.bool false))), none⟩,
 ⟨some 88, .mov (.t 87), none⟩,
 ⟨some 89, .mov (.t 1), (some (88, true))⟩,
 ⟨some 90, .call n_poly_Valid [(.t 89)] false, (some (88, true))⟩,
 ⟨some 91, .pick (.t 88) (.t 90) (.c (.v (.bool false))), none⟩,
 ⟨some 0, .mov (.t 91), none⟩] []) <|
 .keep [0] []) <|
 .ret, [.t 0]⟩

def poly_Gcd_l0 : C :=
 .seq (.seq (.seq (.seq (.reg [⟨some 11, .mov (.t 1), none⟩,
 ⟨some 12, .len (.t 11), none⟩,
 ⟨some 13, .bin .gtr (.t 12) (.c (.v (.int .i64 0))), none⟩] []) <|
 .keep [0, 1, 13] []) <|
 .cond (.t 13) (.skip) <|
 .seq (.keep [0] []) <|
 .exit 0) <|
 .seq (.blk 1 <|
 .seq (.seq (.reg [⟨some 15, .mov (.t 0), none⟩,
 ⟨some 16, .mov (.t 1), none⟩,
 ⟨some 17, .call n_poly_Div [(.t 15), (.t 16)] false, none⟩,
 ⟨some 14, .mov (.t 17), none⟩,
 ⟨some 18, .ext (.t 14) 0, none⟩,
 ⟨some 19, .ext (.t 14) 1, none⟩,
 ⟨some 5, .mov (.t 18), none⟩,
 ⟨some 6, .mov (.t 19), none⟩] []) <|
 .keep [1, 6] []) <|
 .seq (.reg [⟨some 20, .mov (.t 1), none⟩,
 ⟨some 21, .mov (.t 6), none⟩,
 ⟨some 22, .call n_poly_monic [(.t 21)] false, none⟩,
 ⟨some 0, .mov (.t 20), none⟩,
 ⟨some 1, .mov (.t 22), none⟩] []) <|
 .keep [0, 1] []) <|
 .keep [0, 1] []) <|
 .keep [0, 1] []
def poly_Gcd : CF := ⟨2, .seq (.seq (.reg [⟨some 4, .mov (.c (.z true)), none⟩] []) <|
 .keep [0, 1] []) <|
 .seq (.seq (.reg [⟨some 7, .mov (.t 0), none⟩,
 ⟨some 8, .call n_poly_monic [(.t 7)] false, none⟩,
 ⟨some 9, .mov (.t 1), none⟩,
 ⟨some 10, .call n_poly_monic [(.t 9)] false, none⟩,
 ⟨some 0, .mov (.t 8), none⟩,
 ⟨some 1, .mov (.t 10), none⟩] []) <|
 .keep [0, 1] []) <|
 .seq (.seq (.blk 0 <|
 .seq (.keep [0, 1] []) <|
 .loop poly_Gcd_l0) <|
 .keep [0] []) <|
 .seq (.seq (.reg [⟨some 23, .mov (.t 0), none⟩,
 ⟨some 4, .mov (.t 23), none⟩] []) <|
 .keep [4] []) <|
 .ret, [.t 4]⟩

def poly_Div_l0 : C :=
 .seq (.seq (.seq (.reg [⟨some 56, .bin .lss (.t 55) (.t 54), none⟩] []) <|
 .keep [1, 6, 7, 8, 9, 53, 54, 55, 56] [[9], [16], [24]]) <|
 .seq (.cond (.t 56) (.skip) <|
 .seq (.keep [1, 6, 7, 8] [[16], [24]]) <|
 .exit 2) <|
 .seq (.seq (.blk 3 <|
 .seq (.seq (.reg [⟨some 57, .mov (.t 55), none⟩,
 ⟨some 58, .ixa 4 (.t 53) (.t 55), none⟩,
 ⟨some 59, .load (some 4) (.t 58), none⟩,
 ⟨some 11, .new [.v (.bool false), .z true, .v (.bool false), .z true], none⟩,
 ⟨some 10, .mov (.t 57), none⟩,
 ⟨none, .store 4 (.t 11) (.t 59), none⟩] []) <|
 .keep [1, 6, 7, 8, 9, 10, 11, 53, 54, 55] [[9], [11], [16], [24]]) <|
 .seq (.reg [⟨some 60, .mov (.t 6), none⟩,
 ⟨some 61, .mov (.t 8), none⟩,
 ⟨some 62, .mov (.t 10), none⟩,
 ⟨some 63, .bin .add (.t 61) (.t 62), none⟩,
 ⟨some 64, .mov (.t 6), none⟩,
 ⟨some 65, .mov (.t 8), none⟩,
 ⟨some 66, .mov (.t 10), none⟩,
 ⟨some 67, .bin .add (.t 65) (.t 66), none⟩,
 ⟨some 68, .ixa 4 (.t 64) (.t 67), none⟩,
 ⟨some 69, .load (some 4) (.t 68), none⟩,
 ⟨some 70, .load (some 4) (.t 9), none⟩,
 ⟨some 71, .load (some 4) (.t 11), none⟩,
 ⟨some 72, .call n_rat_Mul [(.t 70), (.t 71)] false, none⟩,
 ⟨some 73, .call n_rat_Sub [(.t 69), (.t 72)] false, none⟩,
 ⟨some 74, .ixa 4 (.t 60) (.t 63), none⟩,
 ⟨none, .store 4 (.t 74) (.t 73), none⟩] []) <|
 .keep [1, 6, 7, 8, 9, 53, 54, 55] [[9], [16], [24]]) <|
 .keep [1, 6, 7, 8, 9, 53, 54, 55] [[9], [16], [24]]) <|
 .seq (.reg [⟨some 75, .bin .add (.t 55) (.c (.v (.int .i64 1))), none⟩,
 ⟨some 55, .mov (.t 75), none⟩] []) <|
 .keep [1, 6, 7, 8, 9, 53, 54, 55] [[9], [16], [24]]) <|
 .keep [1, 6, 7, 8, 9, 53, 54, 55] [[9], [16], [24]]
def poly_Div_l1 : C :=
 .seq (.seq (.seq (.seq (.reg [⟨some 30, .mov (.t 8), none⟩,
 ⟨some 31, .bin .geq (.t 30) (.c (.v (.int .i64 0))), none⟩] []) <|
 .keep [1, 6, 7, 8, 31] [[16], [24]]) <|
 .cond (.t 31) (.skip) <|
 .seq (.keep [6, 7] [[16], [24]]) <|
 .exit 0) <|
 .seq (.seq (.blk 1 <|
 .seq (.seq (.reg [⟨some 34, .mov (.t 6), none⟩,
 ⟨some 35, .mov (.t 8), none⟩,
 ⟨some 36, .mov (.t 1), none⟩,
 ⟨some 37, .len (.t 36), none⟩,
 ⟨some 38, .bin .add (.t 35) (.t 37), none⟩,
 ⟨some 39, .bin .sub (.t 38) (.c (.v (.int .i64 1))), none⟩,
 ⟨some 40, .ixa 4 (.t 34) (.t 39), none⟩,
 ⟨some 41, .load (some 4) (.t 40), none⟩,
 ⟨some 42, .mov (.t 1), none⟩,
 ⟨some 43, .mov (.t 1), none⟩,
 ⟨some 44, .len (.t 43), none⟩,
 ⟨some 45, .bin .sub (.t 44) (.c (.v (.int .i64 1))), none⟩,
 ⟨some 46, .ixa 4 (.t 42) (.t 45), none⟩,
 ⟨some 47, .load (some 4) (.t 46), none⟩,
 ⟨some 48, .call n_rat_Div [(.t 41), (.t 47)] false, none⟩,
 ⟨some 9, .new [.v (.bool false), .z true, .v (.bool false), .z true], none⟩,
 ⟨none, .store 4 (.t 9) (.t 48), none⟩] []) <|
 .keep [1, 6, 7, 8, 9] [[9], [16], [24]]) <|
 .seq (.seq (.reg [⟨some 49, .mov (.t 7), none⟩,
 ⟨some 50, .mov (.t 8), none⟩,
 ⟨some 51, .load (some 4) (.t 9), none⟩,
 ⟨some 52, .ixa 4 (.t 49) (.t 50), none⟩,
 ⟨none, .store 4 (.t 52) (.t 51), none⟩] []) <|
 .keep [1, 6, 7, 8, 9] [[9], [16], [24]]) <|
 .seq (.seq (.reg [⟨some 53, .mov (.t 1), none⟩,
 ⟨some 54, .len (.t 53), none⟩,
 ⟨some 55, .mov (.c (.v (.int .i64 0))), none⟩] []) <|
 .keep [1, 6, 7, 8, 9, 53, 54, 55] [[9], [16], [24]]) <|
 .seq (.blk 2 <|
 .seq (.keep [1, 6, 7, 8, 9, 53, 54, 55] [[9], [16], [24]]) <|
 .loop poly_Div_l0) <|
 .keep [1, 6, 7, 8] [[16], [24]]) <|
 .keep [1, 6, 7, 8] [[16], [24]]) <|
 .seq (.reg [⟨some 32, .mov (.t 8), none⟩,
 ⟨some 33, .bin .sub (.t 32) (.c (.v (.int .i64 1))), none⟩,
 ⟨some 8, .mov (.t 33), none⟩] []) <|
 .keep [1, 6, 7, 8] [[16], [24]]) <|
 .keep [1, 6, 7, 8] [[16], [24]]
def poly_Div : CF := ⟨2, .seq (.seq (.reg [⟨some 4, .mov (.c (.z true)), none⟩,
 ⟨some 5, .mov (.c (.z true)), none⟩] []) <|
 .keep [0, 1] []) <|
 .seq (.seq (.seq (.reg [⟨some 12, .mov (.t 1), none⟩,
 ⟨some 13, .len (.t 12), none⟩,
 ⟨some 14, .bin .eql (.t 13) (.c (.v (.int .i64 0))), none⟩] []) <|
 .keep [0, 1, 14] []) <|
 .cond (.t 14) (.seq (.seq (.reg [⟨some 4, .mov (.c (.z true)), none⟩,
 ⟨some 5, .mov (.c (.z true)), none⟩] []) <|
 .keep [4, 5] []) <|
 .ret) <|
 .skip) <|
 .seq (.seq (.reg [⟨some 15, .mov (.t 0), none⟩,
 ⟨some 16, .call n_slices_Clone_api_Poly_api_Rat [(.t 15)] true, none⟩,
 ⟨some 6, .mov (.t 16), none⟩] []) <|
 .keep [0, 1, 6] [[16]]) <|
 .seq (.seq (.reg [⟨some 17, .mov (.t 0), none⟩,
 ⟨some 18, .len (.t 17), none⟩,
 ⟨some 19, .mov (.t 1), none⟩,
 ⟨some 20, .len (.t 19), none⟩,
 ⟨some 21, .bin .sub (.t 18) (.t 20), none⟩,
 ⟨some 22, .bin .add (.t 21) (.c (.v (.int .i64 1))), none⟩,
 ⟨some 23, .mx [(.c (.v (.int .i64 0))), (.t 22)], none⟩,
 ⟨some 24, .mksl 4 64 [.v (.bool false), .z true, .v (.bool false), .z true] (.t 23) (.t 23), none⟩,
 ⟨some 7, .mov (.t 24), none⟩] []) <|
 .keep [0, 1, 6, 7] [[16], [24]]) <|
 .seq (.seq (.seq (.reg [⟨some 25, .mov (.t 0), none⟩,
 ⟨some 26, .len (.t 25), none⟩,
 ⟨some 27, .mov (.t 1), none⟩,
 ⟨some 28, .len (.t 27), none⟩,
 ⟨some 29, .bin .sub (.t 26) (.t 28), none⟩,
 ⟨some 8, .mov (.t 29), none⟩] []) <|
 .keep [1, 6, 7, 8] [[16], [24]]) <|
 .seq (.blk 0 <|
 .seq (.keep [1, 6, 7, 8] [[16], [24]]) <|
 .loop poly_Div_l1) <|
 .keep [6, 7] [[16], [24]]) <|
 .seq (.seq (.frz 7) <|
 .seq (.frz 6) <|
 .seq (.reg [⟨some 76, .mov (.t 7), none⟩,
 ⟨some 77, .call n_poly_Trim [(.t 76)] false, none⟩,
 ⟨some 78, .mov (.t 6), none⟩,
 ⟨some 79, .call n_poly_Trim [(.t 78)] false, none⟩,
 ⟨some 4, .mov (.t 77), none⟩,
 ⟨some 5, .mov (.t 79), none⟩] []) <|
 .keep [4, 5] []) <|
 .ret, [.t 4, .t 5]⟩

def poly_Mul : CF := ⟨2, .seq (.seq (.reg [⟨some 2, .box (.t 0), none⟩,
 ⟨some 3, .box (.t 1), none⟩,
 ⟨some 4, .mov (.c (.z true)), none⟩] []) <|
 .keep [2, 3] [[2], [3]]) <|
 .seq (.seq (.reg [⟨some 5, .load none (.t 2), none⟩,
 ⟨some 6, .len (.t 5), none⟩,
 ⟨some 7, .load none (.t 3), none⟩,
 ⟨some 8, .len (.t 7), none⟩,
 ⟨some 9, .bin .add (.t 6) (.t 8), none⟩,
 ⟨some 10, .bin .sub (.t 9) (.c (.v (.int .i64 1))), none⟩,
 ⟨some 11, .mkfn n_poly_Mul_1 [(.t 3), (.t 2)] true, none⟩,
 ⟨some 12, .call n_poly_made [(.t 10), (.t 11)] false, none⟩,
 ⟨some 4, .mov (.t 12), none⟩] []) <|
 .keep [4] []) <|
 .ret, [.t 4]⟩

def gantrylaw06_is : CF := ⟨2, .seq (.seq (.reg [⟨some 4, .mov (.c (.v (.bool false))), none⟩] []) <|
 .keep [0, 1] []) <|
 .seq (.seq (.reg [⟨some 5, .mov (.t 0), none⟩,
 ⟨some 6, .mov (.t 1), none⟩,
 ⟨some 7, .call n_gantrylaw06_of [(.t 6)] false, none⟩,
 ⟨some 8, .call n_gantryref06_Same [(.t 5), (.t 7)] false, none⟩,
 ⟨some 4, .mov (.t 8), none⟩] []) <|
 .keep [4] []) <|
 .ret, [.t 4]⟩

def gantryref06_Monic : CF := ⟨1, .seq (.seq (.reg [⟨some 2, .mov (.c (.z true)), none⟩] []) <|
 .keep [0] []) <|
 .seq (.seq (.seq (.reg [⟨some 3, .mov (.t 0), none⟩,
 ⟨some 4, .len (.t 3), none⟩,
 ⟨some 5, .bin .eql (.t 4) (.c (.v (.int .i64 0))), none⟩] []) <|
 .keep [0, 5] []) <|
 .cond (.t 5) (.seq (.seq (.reg [⟨some 2, .mov (.c (.z true)), none⟩] []) <|
 .keep [2] []) <|
 .ret) <|
 .skip) <|
 .seq (.seq (.reg [⟨some 6, .mov (.t 0), none⟩,
 ⟨some 7, .call n_gantryref05_Of [(.c (.v (.int .i64 1))), (.c (.v (.int .i64 1)))] false, none⟩,
 ⟨some 8, .mov (.t 0), none⟩,
 ⟨some 9, .mov (.t 0), none⟩,
 ⟨some 10, .len (.t 9), none⟩,
 ⟨some 11, .bin .sub (.t 10) (.c (.v (.int .i64 1))), none⟩,
 ⟨some 12, .ixa 4 (.t 8) (.t 11), none⟩,
 ⟨some 13, .load (some 4) (.t 12), none⟩,
 ⟨some 14, .call n_gantryref05_Div [(.t 7), (.t 13)] false, none⟩,
 ⟨some 15, .call n_gantryref06_Scale [(.t 6), (.t 14)] false, none⟩,
 ⟨some 2, .mov (.t 15), none⟩] []) <|
 .keep [2] []) <|
 .ret, [.t 2]⟩

def poly_Free : CF := ⟨1, .seq (.seq (.reg [⟨some 2, .mov (.c (.z true)), none⟩] []) <|
 .keep [0] []) <|
 .seq (.seq (.reg [⟨some 6, .mov (.t 0), none⟩,
 ⟨some 7, .mov (.t 0), none⟩,
 ⟨some 8, .mov (.t 0), none⟩,
 ⟨some 9, .call n_poly_Derive [(.t 8)] false, none⟩,
 ⟨some 10, .call n_poly_Gcd [(.t 7), (.t 9)] false, none⟩,
 ⟨some 11, .call n_poly_Div [(.t 6), (.t 10)] false, none⟩,
 ⟨some 5, .mov (.t 11), none⟩,
 ⟨some 12, .ext (.t 5) 0, none⟩,
 ⟨some 13, .ext (.t 5) 1, none⟩,
 ⟨some 3, .mov (.t 12), none⟩,
 ⟨some 4, .mov (.t 13), none⟩] []) <|
 .keep [3] []) <|
 .seq (.seq (.reg [⟨some 14, .mov (.t 3), none⟩,
 ⟨some 15, .call n_poly_monic [(.t 14)] false, none⟩,
 ⟨some 2, .mov (.t 15), none⟩] []) <|
 .keep [2] []) <|
 .ret, [.t 2]⟩

def poly_Derive : CF := ⟨1, .seq (.seq (.reg [⟨some 1, .box (.t 0), none⟩,
 ⟨some 2, .mov (.c (.z true)), none⟩] []) <|
 .keep [1] [[1]]) <|
 .seq (.seq (.reg [⟨some 3, .load none (.t 1), none⟩,
 ⟨some 4, .len (.t 3), none⟩,
 ⟨some 5, .bin .sub (.t 4) (.c (.v (.int .i64 1))), none⟩,
 ⟨some 6, .mkfn n_poly_Derive_1 [(.t 1)] true, none⟩,
 ⟨some 7, .call n_poly_made [(.t 5), (.t 6)] false, none⟩,
 ⟨some 2, .mov (.t 7), none⟩] []) <|
 .keep [2] []) <|
 .ret, [.t 2]⟩

def gantryref06_Small : CF := ⟨1, .seq (.seq (.reg [⟨some 2, .new [.v (.bool false), .z true, .v (.bool false), .z true], none⟩] []) <|
 .keep [0, 2] [[2]]) <|
 .seq (.seq (.reg [⟨some 4, .mov (.t 0), none⟩,
 ⟨some 5, .call n_gantryref01_Around [(.t 4), (.c (.v (.int .i64 105)))] false, none⟩,
 ⟨some 3, .mov (.t 5), none⟩] []) <|
 .keep [2, 3] [[2]]) <|
 .seq (.seq (.reg [⟨some 6, .mov (.t 3), none⟩,
 ⟨some 7, .bin .rem (.t 6) (.c (.v (.int .i64 15))), none⟩,
 ⟨some 8, .bin .sub (.t 7) (.c (.v (.int .i64 7))), none⟩,
 ⟨some 9, .mov (.t 3), none⟩,
 ⟨some 10, .bin .quo (.t 9) (.c (.v (.int .i64 15))), none⟩,
 ⟨some 11, .bin .rem (.t 10) (.c (.v (.int .i64 4))), none⟩,
 ⟨some 12, .bin .add (.c (.v (.int .i64 1))) (.t 11), none⟩,
 ⟨some 13, .call n_gantryref05_Of [(.t 8), (.t 12)] false, none⟩,
 ⟨none, .store 4 (.t 2) (.t 13), none⟩] []) <|
 .keep [2] [[2]]) <|
 .ret, [.cell 2 (some 4)]⟩

def poly_Shift_l0 : C :=
 .seq (.seq (.seq (.seq (.reg [⟨some 18, .mov (.t 7), none⟩,
 ⟨some 19, .mov (.t 6), none⟩,
 ⟨some 20, .bin .geq (.t 18) (.t 19), none⟩] []) <|
 .keep [3, 5, 6, 7, 11, 12, 20] [[3], [9]]) <|
 .cond (.t 20) (.skip) <|
 .seq (.keep [3, 5, 11, 12] [[3], [9]]) <|
 .exit 2) <|
 .seq (.seq (.blk 3 <|
 .seq (.reg [⟨some 23, .mov (.t 5), none⟩,
 ⟨some 24, .mov (.t 7), none⟩,
 ⟨some 25, .mov (.t 5), none⟩,
 ⟨some 26, .mov (.t 7), none⟩,
 ⟨some 27, .ixa 4 (.t 25) (.t 26), none⟩,
 ⟨some 28, .load (some 4) (.t 27), none⟩,
 ⟨some 29, .load (some 4) (.t 3), none⟩,
 ⟨some 30, .mov (.t 5), none⟩,
 ⟨some 31, .mov (.t 7), none⟩,
 ⟨some 32, .bin .add (.t 31) (.c (.v (.int .i64 1))), none⟩,
 ⟨some 33, .ixa 4 (.t 30) (.t 32), none⟩,
 ⟨some 34, .load (some 4) (.t 33), none⟩,
 ⟨some 35, .call n_rat_Mul [(.t 29), (.t 34)] false, none⟩,
 ⟨some 36, .call n_rat_Add [(.t 28), (.t 35)] false, none⟩,
 ⟨some 37, .ixa 4 (.t 23) (.t 24), none⟩,
 ⟨none, .store 4 (.t 37) (.t 36), none⟩] []) <|
 .keep [3, 5, 6, 7, 11, 12] [[3], [9]]) <|
 .keep [3, 5, 6, 7, 11, 12] [[3], [9]]) <|
 .seq (.reg [⟨some 21, .mov (.t 7), none⟩,
 ⟨some 22, .bin .sub (.t 21) (.c (.v (.int .i64 1))), none⟩,
 ⟨some 7, .mov (.t 22), none⟩] []) <|
 .keep [3, 5, 6, 7, 11, 12] [[3], [9]]) <|
 .keep [3, 5, 6, 7, 11, 12] [[3], [9]]
def poly_Shift_l1 : C :=
 .seq (.seq (.seq (.reg [⟨some 13, .bin .lss (.t 12) (.t 11), none⟩] []) <|
 .keep [3, 5, 11, 12, 13] [[3], [9]]) <|
 .seq (.cond (.t 13) (.skip) <|
 .seq (.keep [5] [[9]]) <|
 .exit 0) <|
 .seq (.seq (.blk 1 <|
 .seq (.seq (.reg [⟨some 14, .mov (.t 12), none⟩,
 ⟨some 6, .mov (.t 14), none⟩] []) <|
 .keep [3, 5, 6, 11, 12] [[3], [9]]) <|
 .seq (.seq (.reg [⟨some 15, .mov (.t 5), none⟩,
 ⟨some 16, .len (.t 15), none⟩,
 ⟨some 17, .bin .sub (.t 16) (.c (.v (.int .i64 2))), none⟩,
 ⟨some 7, .mov (.t 17), none⟩] []) <|
 .keep [3, 5, 6, 7, 11, 12] [[3], [9]]) <|
 .seq (.blk 2 <|
 .seq (.keep [3, 5, 6, 7, 11, 12] [[3], [9]]) <|
 .loop poly_Shift_l0) <|
 .keep [3, 5, 11, 12] [[3], [9]]) <|
 .keep [3, 5, 11, 12] [[3], [9]]) <|
 .seq (.reg [⟨some 38, .bin .add (.t 12) (.c (.v (.int .i64 1))), none⟩,
 ⟨some 12, .mov (.t 38), none⟩] []) <|
 .keep [3, 5, 11, 12] [[3], [9]]) <|
 .keep [3, 5, 11, 12] [[3], [9]]
def poly_Shift : CF := ⟨2, .seq (.seq (.reg [⟨some 3, .box (.t 1), none⟩,
 ⟨some 4, .mov (.c (.z true)), none⟩] []) <|
 .keep [0, 3] [[3]]) <|
 .seq (.seq (.reg [⟨some 8, .mov (.t 0), none⟩,
 ⟨some 9, .call n_slices_Clone_api_Poly_api_Rat [(.t 8)] true, none⟩,
 ⟨some 5, .mov (.t 9), none⟩] []) <|
 .keep [3, 5] [[3], [9]]) <|
 .seq (.seq (.seq (.reg [⟨some 10, .mov (.t 5), none⟩,
 ⟨some 11, .len (.t 10), none⟩,
 ⟨some 12, .mov (.c (.v (.int .i64 0))), none⟩] []) <|
 .keep [3, 5, 11, 12] [[3], [9]]) <|
 .seq (.blk 0 <|
 .seq (.keep [3, 5, 11, 12] [[3], [9]]) <|
 .loop poly_Shift_l1) <|
 .keep [5] [[9]]) <|
 .seq (.seq (.frz 5) <|
 .seq (.reg [⟨some 39, .mov (.t 5), none⟩,
 ⟨some 40, .call n_poly_Trim [(.t 39)] false, none⟩,
 ⟨some 4, .mov (.t 40), none⟩] []) <|
 .keep [4] []) <|
 .ret, [.t 4]⟩

def rat_Add : CF := ⟨2, .seq (.seq (.reg [⟨some 2, .box (.t 0), none⟩,
 ⟨some 3, .box (.t 1), none⟩,
 ⟨some 4, .new [.v (.bool false), .z true, .v (.bool false), .z true], none⟩] []) <|
 .keep [2, 3, 4] [[2], [3], [4]]) <|
 .seq (.seq (.blk 0 <|
 .seq (.seq (.reg [⟨some 8, .fad 2 (.t 2), none⟩,
 ⟨some 9, .fad 1 (.t 8), none⟩,
 ⟨some 10, .load none (.t 9), none⟩,
 ⟨some 11, .len (.t 10), none⟩,
 ⟨some 12, .bin .eql (.t 11) (.c (.v (.int .i64 0))), none⟩,
 ⟨some 13, .mov (.t 12), none⟩,
 ⟨some 14, .fad 2 (.t 3), (some (13, true))⟩,
 ⟨some 15, .fad 1 (.t 14), (some (13, true))⟩,
 ⟨some 16, .load none (.t 15), (some (13, true))⟩,
 ⟨some 17, .len (.t 16), (some (13, true))⟩,
 ⟨some 18, .bin .eql (.t 17) (.c (.v (.int .i64 0))), (some (13, true))⟩,
 ⟨some 19, .pick (.t 13) (.t 18) (.c (.v (.bool false))), none⟩,
 ⟨some 7, .mov (.t 19), none⟩] []) <|
 .keep [2, 3, 4, 7] [[2], [3], [4]]) <|
 .cond (.t 7) (.seq (.seq (.reg [⟨some 20, .fad 0 (.t 2), none⟩,
 ⟨some 21, .load (some 2) (.t 20), none⟩,
 ⟨some 22, .fad 0 (.t 3), none⟩,
 ⟨some 23, .load (some 2) (.t 22), none⟩,
 ⟨some 24, .call n_integer_Add [(.t 21), (.t 23)] false, none⟩,
 ⟨some 25, .build [.v (.bool false), .z true, .v (.bool false), .z true] [(0, 2, (.t 24))], none⟩,
 ⟨none, .store 4 (.t 4) (.t 25), none⟩] []) <|
 .keep [4] [[4]]) <|
 .ret) <|
 .seq (.seq (.reg [⟨some 27, .fad 0 (.t 2), none⟩,
 ⟨some 28, .fad 1 (.t 27), none⟩,
 ⟨some 29, .load none (.t 28), none⟩,
 ⟨some 30, .len (.t 29), none⟩,
 ⟨some 31, .bin .eql (.t 30) (.c (.v (.int .i64 0))), none⟩,
 ⟨some 26, .mov (.t 31), none⟩] []) <|
 .keep [2, 3, 4, 26] [[2], [3], [4]]) <|
 .cond (.t 26) (.seq (.seq (.reg [⟨some 32, .load (some 4) (.t 3), none⟩,
 ⟨none, .store 4 (.t 4) (.t 32), none⟩] []) <|
 .keep [4] [[4]]) <|
 .ret) <|
 .seq (.seq (.reg [⟨some 34, .fad 0 (.t 3), none⟩,
 ⟨some 35, .fad 1 (.t 34), none⟩,
 ⟨some 36, .load none (.t 35), none⟩,
 ⟨some 37, .len (.t 36), none⟩,
 ⟨some 38, .bin .eql (.t 37) (.c (.v (.int .i64 0))), none⟩,
 ⟨some 33, .mov (.t 38), none⟩] []) <|
 .keep [2, 3, 4, 33] [[2], [3], [4]]) <|
 .cond (.t 33) (.seq (.seq (.reg [⟨some 39, .load (some 4) (.t 2), none⟩,
 ⟨none, .store 4 (.t 4) (.t 39), none⟩] []) <|
 .keep [4] [[4]]) <|
 .ret) <|
 .skip) <|
 .keep [2, 3, 4] [[2], [3], [4]]) <|
 .seq (.seq (.reg [⟨some 40, .load (some 4) (.t 2), none⟩,
 ⟨some 41, .call n_rat_Den [(.t 40)] false, none⟩,
 ⟨some 42, .load (some 4) (.t 3), none⟩,
 ⟨some 43, .call n_rat_Den [(.t 42)] false, none⟩,
 ⟨some 5, .new [.v (.bool false), .z true], none⟩,
 ⟨some 6, .new [.v (.bool false), .z true], none⟩,
 ⟨none, .store 2 (.t 5) (.t 41), none⟩,
 ⟨none, .store 2 (.t 6) (.t 43), none⟩] []) <|
 .keep [2, 3, 4, 5, 6] [[2], [3], [4], [5], [6]]) <|
 .seq (.seq (.reg [⟨some 44, .fad 0 (.t 2), none⟩,
 ⟨some 45, .load (some 2) (.t 44), none⟩,
 ⟨some 46, .load (some 2) (.t 6), none⟩,
 ⟨some 47, .call n_integer_Mul [(.t 45), (.t 46)] false, none⟩,
 ⟨some 48, .fad 0 (.t 3), none⟩,
 ⟨some 49, .load (some 2) (.t 48), none⟩,
 ⟨some 50, .load (some 2) (.t 5), none⟩,
 ⟨some 51, .call n_integer_Mul [(.t 49), (.t 50)] false, none⟩,
 ⟨some 52, .call n_integer_Add [(.t 47), (.t 51)] false, none⟩,
 ⟨some 53, .load (some 2) (.t 5), none⟩,
 ⟨some 54, .load (some 2) (.t 6), none⟩,
 ⟨some 55, .call n_integer_Mul [(.t 53), (.t 54)] false, none⟩,
 ⟨some 56, .call n_rat_Make [(.t 52), (.t 55)] false, none⟩,
 ⟨none, .store 4 (.t 4) (.t 56), none⟩] []) <|
 .keep [4] [[4]]) <|
 .ret, [.cell 4 (some 4)]⟩

def poly_Eval_a0 : C :=
 .seq (.reg [⟨some 7, .new [.v (.bool false), .z true, .v (.bool false), .z true], none⟩,
 ⟨none, .store 4 (.t 7) (.t 11), none⟩] []) <|
 .keep [3, 5, 7] [[3], [5], [7], [4]]
def poly_Eval_b0 : C :=
 .seq (.blk 1 <|
 .seq (.reg [⟨some 12, .load (some 4) (.t 5), none⟩,
 ⟨some 13, .load (some 4) (.t 3), none⟩,
 ⟨some 14, .call n_rat_Mul [(.t 12), (.t 13)] false, none⟩,
 ⟨some 15, .load (some 4) (.t 7), none⟩,
 ⟨some 16, .call n_rat_Add [(.t 14), (.t 15)] false, none⟩,
 ⟨none, .store 4 (.t 5) (.t 16), none⟩] []) <|
 .keep [] [[3], [4], [5]]) <|
 .keep [] [[3], [4], [5]]
def poly_Eval : CF := ⟨2, .seq (.seq (.reg [⟨some 3, .box (.t 1), none⟩,
 ⟨some 4, .new [.v (.bool false), .z true, .v (.bool false), .z true], none⟩] []) <|
 .keep [0, 3, 4] [[3], [4]]) <|
 .seq (.seq (.reg [⟨some 5, .new [.v (.bool false), .z true, .v (.bool false), .z true], none⟩] []) <|
 .keep [0, 3, 4, 5] [[3], [4], [5]]) <|
 .seq (.seq (.seq (.reg [⟨some 8, .mov (.t 0), none⟩,
 ⟨some 9, .call n_slices_Backward_api_Poly_api_Rat [(.t 8)] false, none⟩] []) <|
 .keep [3, 4, 5, 9] [[3], [4], [5]]) <|
 .seq (.blk 0 <|
 .seq (.rfn (.t 9) [10, 11] poly_Eval_a0 poly_Eval_b0 [3, 4, 5] [[3], [4], [5]]) <|
 .keep [4, 5] [[4], [5]]) <|
 .keep [4, 5] [[4], [5]]) <|
 .seq (.seq (.reg [⟨some 17, .load (some 4) (.t 5), none⟩,
 ⟨none, .store 4 (.t 4) (.t 17), none⟩] []) <|
 .keep [4] [[4]]) <|
 .ret, [.cell 4 (some 4)]⟩

def gantryref01_At : CF := ⟨3, .seq (.seq (.reg [⟨some 6, .mov (.c (.v (.int .i64 0))), none⟩] []) <|
 .keep [0, 1, 2] []) <|
 .seq (.seq (.seq (.reg [⟨some 7, .mov (.t 1), none⟩,
 ⟨some 8, .bin .lss (.t 7) (.c (.v (.int .i64 0))), none⟩,
 ⟨some 9, .mov (.t 8), none⟩,
 ⟨some 10, .mov (.t 1), (some (9, false))⟩,
 ⟨some 11, .mov (.t 0), (some (9, false))⟩,
 ⟨some 12, .len (.t 11), (some (9, false))⟩,
 ⟨some 13, .bin .geq (.t 10) (.t 12), (some (9, false))⟩,
 ⟨some 14, .pick (.t 9) (.c (.v (.bool true))) (.t 13), none⟩] []) <|
 .keep [0, 1, 2, 14] []) <|
 .cond (.t 14) (.seq (.seq (.reg [⟨some 6, .mov (.c (.v (.int .i64 0))), none⟩] []) <|
 .keep [6] []) <|
 .ret) <|
 .skip) <|
 .seq (.seq (.reg [⟨some 15, .mov (.t 0), none⟩,
 ⟨some 16, .mov (.t 1), none⟩,
 ⟨some 17, .ixa 1 (.t 15) (.t 16), none⟩,
 ⟨some 18, .load none (.t 17), none⟩,
 ⟨some 19, .mov (.t 2), none⟩,
 ⟨some 20, .call n_gantryref01_Around [(.t 18), (.t 19)] false, none⟩,
 ⟨some 6, .mov (.t 20), none⟩] []) <|
 .keep [6] []) <|
 .ret, [.t 6]⟩

def gantryref06_Trim_l0 : C :=
 .seq (.seq (.seq (.seq (.reg [⟨some 7, .mov (.t 3), none⟩,
 ⟨some 8, .bin .gtr (.t 7) (.c (.v (.int .i64 0))), none⟩,
 ⟨some 9, .mov (.t 8), none⟩,
 ⟨some 10, .mov (.t 0), (some (9, true))⟩,
 ⟨some 11, .mov (.t 3), (some (9, true))⟩,
 ⟨some 12, .bin .sub (.t 11) (.c (.v (.int .i64 1))), (some (9, true))⟩,
 ⟨some 13, .mx [(.t 12), (.c (.v (.int .i64 0)))], (some (9, true))⟩,
 ⟨some 14, .ixa 4 (.t 10) (.t 13), (some (9, true))⟩,
 ⟨some 15, .load (some 4) (.t 14), (some (9, true))⟩,
 ⟨some 16, .call n_gantryref05_Sign [(.t 15)] false, (some (9, true))⟩,
 ⟨some 17, .bin .eql (.t 16) (.c (.v (.int .i64 0))), (some (9, true))⟩,
 ⟨some 18, .pick (.t 9) (.t 17) (.c (.v (.bool false))), none⟩] []) <|
 .keep [0, 3, 18] []) <|
 .cond (.t 18) (.skip) <|
 .seq (.keep [0, 3] []) <|
 .exit 0) <|
 .seq (.blk 1 <|
 .seq (.reg [⟨some 19, .mov (.t 3), none⟩,
 ⟨some 20, .bin .sub (.t 19) (.c (.v (.int .i64 1))), none⟩,
 ⟨some 3, .mov (.t 20), none⟩] []) <|
 .keep [0, 3] []) <|
 .keep [0, 3] []) <|
 .keep [0, 3] []
def gantryref06_Trim : CF := ⟨1, .seq (.seq (.reg [⟨some 2, .mov (.c (.z true)), none⟩] []) <|
 .keep [0] []) <|
 .seq (.seq (.reg [⟨some 5, .mov (.t 0), none⟩,
 ⟨some 6, .len (.t 5), none⟩,
 ⟨some 3, .mov (.t 6), none⟩] []) <|
 .keep [0, 3] []) <|
 .seq (.seq (.blk 0 <|
 .seq (.keep [0, 3] []) <|
 .loop gantryref06_Trim_l0) <|
 .keep [0, 3] []) <|
 .seq (.seq (.reg [⟨some 4, .mov (.c (.z true)), none⟩] []) <|
 .keep [0, 3, 4] []) <|
 .seq (.seq (.reg [⟨some 21, .mov (.t 4), none⟩,
 ⟨some 22, .mov (.t 0), none⟩,
 ⟨some 23, .mov (.t 3), none⟩,
 ⟨some 24, .slc 4 (.t 22) none (some (.t 23)) none, none⟩,
 ⟨some 25, .app 4 64 (.t 21) (.t 24) true, none⟩,
 ⟨some 2, .mov (.t 25), none⟩] []) <|
 .keep [2] [[25]]) <|
 .ret, [.t 2]⟩

def gantryref05_Of : CF := ⟨2, .seq (.seq (.reg [⟨some 4, .new [.v (.bool false), .z true, .v (.bool false), .z true], none⟩] []) <|
 .keep [0, 1, 4] [[4]]) <|
 .seq (.seq (.reg [⟨some 5, .mov (.t 0), none⟩,
 ⟨some 6, .call n_gantryref04_Of [(.t 5)] false, none⟩,
 ⟨some 7, .mov (.t 1), none⟩,
 ⟨some 8, .call n_gantryref04_Of [(.t 7)] false, none⟩,
 ⟨some 9, .call n_gantryref05_Make [(.t 6), (.t 8)] false, none⟩,
 ⟨none, .store 4 (.t 4) (.t 9), none⟩] []) <|
 .keep [4] [[4]]) <|
 .ret, [.cell 4 (some 4)]⟩

def gantryref05_Neg : CF := ⟨1, .seq (.seq (.reg [⟨some 1, .box (.t 0), none⟩,
 ⟨some 2, .new [.v (.bool false), .z true, .v (.bool false), .z true], none⟩] []) <|
 .keep [1, 2] [[1], [2]]) <|
 .seq (.seq (.reg [⟨some 3, .fad 0 (.t 1), none⟩,
 ⟨some 4, .load (some 2) (.t 3), none⟩,
 ⟨some 5, .call n_gantryref04_Neg [(.t 4)] false, none⟩,
 ⟨some 6, .fad 2 (.t 1), none⟩,
 ⟨some 7, .load (some 2) (.t 6), none⟩,
 ⟨some 8, .build [.v (.bool false), .z true, .v (.bool false), .z true] [(0, 2, (.t 5)), (2, 2, (.t 7))], none⟩,
 ⟨none, .store 4 (.t 2) (.t 8), none⟩] []) <|
 .keep [2] [[2]]) <|
 .ret, [.cell 2 (some 4)]⟩

def gantryref06_Mul_l0 : C :=
 .seq (.seq (.seq (.seq (.reg [⟨some 29, .mov (.t 7), none⟩,
 ⟨some 30, .mov (.t 1), none⟩,
 ⟨some 31, .len (.t 30), none⟩,
 ⟨some 32, .bin .lss (.t 29) (.t 31), none⟩] []) <|
 .keep [0, 1, 5, 6, 7, 32] [[22]]) <|
 .cond (.t 32) (.skip) <|
 .seq (.keep [0, 1, 5, 6] [[22]]) <|
 .exit 2) <|
 .seq (.seq (.blk 3 <|
 .seq (.reg [⟨some 35, .mov (.t 5), none⟩,
 ⟨some 36, .mov (.t 6), none⟩,
 ⟨some 37, .mov (.t 7), none⟩,
 ⟨some 38, .bin .add (.t 36) (.t 37), none⟩,
 ⟨some 39, .mov (.t 5), none⟩,
 ⟨some 40, .mov (.t 6), none⟩,
 ⟨some 41, .mov (.t 7), none⟩,
 ⟨some 42, .bin .add (.t 40) (.t 41), none⟩,
 ⟨some 43, .ixa 4 (.t 39) (.t 42), none⟩,
 ⟨some 44, .load (some 4) (.t 43), none⟩,
 ⟨some 45, .mov (.t 0), none⟩,
 ⟨some 46, .mov (.t 6), none⟩,
 ⟨some 47, .ixa 4 (.t 45) (.t 46), none⟩,
 ⟨some 48, .load (some 4) (.t 47), none⟩,
 ⟨some 49, .mov (.t 1), none⟩,
 ⟨some 50, .mov (.t 7), none⟩,
 ⟨some 51, .ixa 4 (.t 49) (.t 50), none⟩,
 ⟨some 52, .load (some 4) (.t 51), none⟩,
 ⟨some 53, .call n_gantryref05_Mul [(.t 48), (.t 52)] false, none⟩,
 ⟨some 54, .call n_gantryref05_Add [(.t 44), (.t 53)] false, none⟩,
 ⟨some 55, .ixa 4 (.t 35) (.t 38), none⟩,
 ⟨none, .store 4 (.t 55) (.t 54), none⟩] []) <|
 .keep [0, 1, 5, 6, 7] [[22]]) <|
 .keep [0, 1, 5, 6, 7] [[22]]) <|
 .seq (.reg [⟨some 33, .mov (.t 7), none⟩,
 ⟨some 34, .bin .add (.t 33) (.c (.v (.int .i64 1))), none⟩,
 ⟨some 7, .mov (.t 34), none⟩] []) <|
 .keep [0, 1, 5, 6, 7] [[22]]) <|
 .keep [0, 1, 5, 6, 7] [[22]]
def gantryref06_Mul_l1 : C :=
 .seq (.seq (.seq (.seq (.reg [⟨some 23, .mov (.t 6), none⟩,
 ⟨some 24, .mov (.t 0), none⟩,
 ⟨some 25, .len (.t 24), none⟩,
 ⟨some 26, .bin .lss (.t 23) (.t 25), none⟩] []) <|
 .keep [0, 1, 5, 6, 26] [[22]]) <|
 .cond (.t 26) (.skip) <|
 .seq (.keep [5] [[22]]) <|
 .exit 0) <|
 .seq (.seq (.blk 1 <|
 .seq (.seq (.reg [⟨some 7, .mov (.c (.v (.int .i64 0))), none⟩] []) <|
 .keep [0, 1, 5, 6, 7] [[22]]) <|
 .seq (.blk 2 <|
 .seq (.keep [0, 1, 5, 6, 7] [[22]]) <|
 .loop gantryref06_Mul_l0) <|
 .keep [0, 1, 5, 6] [[22]]) <|
 .keep [0, 1, 5, 6] [[22]]) <|
 .seq (.reg [⟨some 27, .mov (.t 6), none⟩,
 ⟨some 28, .bin .add (.t 27) (.c (.v (.int .i64 1))), none⟩,
 ⟨some 6, .mov (.t 28), none⟩] []) <|
 .keep [0, 1, 5, 6] [[22]]) <|
 .keep [0, 1, 5, 6] [[22]]
def gantryref06_Mul : CF := ⟨2, .seq (.seq (.reg [⟨some 4, .mov (.c (.z true)), none⟩] []) <|
 .keep [0, 1] []) <|
 .seq (.seq (.seq (.reg [⟨some 8, .mov (.t 0), none⟩,
 ⟨some 9, .len (.t 8), none⟩,
 ⟨some 10, .bin .eql (.t 9) (.c (.v (.int .i64 0))), none⟩,
 ⟨some 11, .mov (.t 10), none⟩,
 ⟨some 12, .mov (.t 1), (some (11, false))⟩,
 ⟨some 13, .len (.t 12), (some (11, false))⟩,
 ⟨some 14, .bin .eql (.t 13) (.c (.v (.int .i64 0))), (some (11, false))⟩,
 ⟨some 15, .pick (.t 11) (.c (.v (.bool true))) (.t 14), none⟩] []) <|
 .keep [0, 1, 15] []) <|
 .cond (.t 15) (.seq (.seq (.reg [⟨some 4, .mov (.c (.z true)), none⟩] []) <|
 .keep [4] []) <|
 .ret) <|
 .skip) <|
 .seq (.seq (.reg [⟨some 16, .mov (.t 0), none⟩,
 ⟨some 17, .len (.t 16), none⟩,
 ⟨some 18, .mov (.t 1), none⟩,
 ⟨some 19, .len (.t 18), none⟩,
 ⟨some 20, .bin .add (.t 17) (.t 19), none⟩,
 ⟨some 21, .bin .sub (.t 20) (.c (.v (.int .i64 1))), none⟩,
 ⟨some 22, .mksl 4 64 [.v (.bool false), .z true, .v (.bool false), .z true] (.t 21) (.t 21), none⟩,
 ⟨some 5, .mov (.t 22), none⟩] []) <|
 .keep [0, 1, 5] [[22]]) <|
 .seq (.seq (.seq (.reg [⟨some 6, .mov (.c (.v (.int .i64 0))), none⟩] []) <|
 .keep [0, 1, 5, 6] [[22]]) <|
 .seq (.blk 0 <|
 .seq (.keep [0, 1, 5, 6] [[22]]) <|
 .loop gantryref06_Mul_l1) <|
 .keep [5] [[22]]) <|
 .seq (.seq (.frz 5) <|
 .seq (.reg [⟨some 56, .mov (.t 5), none⟩,
 ⟨some 57, .call n_gantryref06_Trim [(.t 56)] false, none⟩,
 ⟨some 4, .mov (.t 57), none⟩] []) <|
 .keep [4] []) <|
 .ret, [.t 4]⟩

def rat_Sign : CF := ⟨1, .seq (.seq (.reg [⟨some 1, .box (.t 0), none⟩,
 ⟨some 2, .mov (.c (.v (.int .i64 0))), none⟩] []) <|
 .keep [1] [[1]]) <|
 .seq (.seq (.reg [⟨some 3, .fad 0 (.t 1), none⟩,
 ⟨some 4, .load (some 2) (.t 3), none⟩,
 ⟨some 5, .call n_integer_Sign [(.t 4)] false, none⟩,
 ⟨some 2, .mov (.t 5), none⟩] []) <|
 .keep [2] []) <|
 .ret, [.t 2]⟩

def slices_Clone_api_Poly_api_Rat : CF := ⟨1, .seq (.seq (.reg [⟨some 2, .mov (.c (.z true)), none⟩] []) <|
 .keep [0] []) <|
 .seq (.seq (.seq (.reg [⟨some 3, .mov (.t 0), none⟩,
 ⟨some 4, .isn false (.t 3), none⟩] []) <|
 .keep [0, 4] []) <|
 .cond (.t 4) (.seq (.seq (.reg [⟨some 2, .mov (.c (.z true)), none⟩] []) <|
 .keep [2] [[5], [7]]) <|
 .ret) <|
 .skip) <|
 .seq (.seq (.reg [⟨some 5, .lit 4 0 [.v (.bool false), .z true, .v (.bool false), .z true] [] false, none⟩,
 ⟨some 6, .mov (.t 0), none⟩,
 ⟨some 7, .app 4 64 (.t 5) (.t 6) false, none⟩,
 ⟨some 2, .mov (.t 7), none⟩] []) <|
 .keep [2] [[5], [7]]) <|
 .ret, [.t 2]⟩

def gantryref05_Same : CF := ⟨2, .seq (.seq (.reg [⟨some 2, .box (.t 0), none⟩,
 ⟨some 3, .box (.t 1), none⟩,
 ⟨some 4, .mov (.c (.v (.bool false))), none⟩] []) <|
 .keep [2, 3] [[2], [3]]) <|
 .seq (.seq (.reg [⟨some 5, .fad 0 (.t 2), none⟩,
 ⟨some 6, .load (some 2) (.t 5), none⟩,
 ⟨some 7, .fad 0 (.t 3), none⟩,
 ⟨some 8, .load (some 2) (.t 7), none⟩,
 ⟨some 9, .call n_gantryref04_Same [(.t 6), (.t 8)] false, none⟩,
 ⟨some 10, .mov (.t 9), none⟩,
 ⟨some 11, .fad 2 (.t 2), (some (10, true))⟩,
 ⟨some 12, .load (some 2) (.t 11), (some (10, true))⟩,
 ⟨some 13, .fad 2 (.t 3), (some (10, true))⟩,
 ⟨some 14, .load (some 2) (.t 13), (some (10, true))⟩,
 ⟨some 15, .call n_gantryref04_Same [(.t 12), (.t 14)] false, (some (10, true))⟩,
 ⟨some 16, .pick (.t 10) (.t 15) (.c (.v (.bool false))), none⟩,
 ⟨some 4, .mov (.t 16), none⟩] []) <|
 .keep [4] []) <|
 .ret, [.t 4]⟩

def slices_ContainsFunc_api_Poly_api_Rat : CF := ⟨2, .seq (.seq (.reg [⟨some 4, .mov (.c (.v (.bool false))), none⟩] []) <|
 .keep [0, 1] []) <|
 .seq (.seq (.reg [⟨some 5, .mov (.t 0), none⟩,
 ⟨some 6, .mov (.t 1), none⟩,
 ⟨some 7, .call n_slices_IndexFunc_api_Poly_api_Rat [(.t 5), (.t 6)] false, none⟩,
 ⟨some 8, .bin .geq (.t 7) (.c (.v (.int .i64 0))), none⟩,
 ⟨some 4, .mov (.t 8), none⟩] []) <|
 .keep [4] []) <|
 .ret, [.t 4]⟩

def poly_Valid_1 : CF := ⟨1, .seq (.seq (.reg [⟨some 1, .box (.t 0), none⟩,
 ⟨some 2, .mov (.c (.v (.bool false))), none⟩] []) <|
 .keep [1] [[1]]) <|
 .seq (.seq (.reg [⟨some 3, .load (some 4) (.t 1), none⟩,
 ⟨some 4, .call n_rat_Valid [(.t 3)] false, none⟩,
 ⟨some 5, .un .not (.t 4), none⟩,
 ⟨some 2, .mov (.t 5), none⟩] []) <|
 .keep [2] []) <|
 .ret, [.t 2]⟩

def rat_Valid : CF := ⟨1, .seq (.seq (.reg [⟨some 1, .box (.t 0), none⟩,
 ⟨some 2, .mov (.c (.v (.bool false))), none⟩] []) <|
 .keep [1] [[1]]) <|
 .seq (.seq (.blk 0 <|
 .seq (.seq (.reg [⟨some 4, .fad 0 (.t 1), none⟩,
 ⟨some 5, .load (some 2) (.t 4), none⟩,
 ⟨some 6, .call n_integer_Valid [(.t 5)] false, none⟩,
 ⟨some 7, .un .not (.t 6), none⟩,
 ⟨some 8, .mov (.t 7), none⟩,
 ⟨some 9, .fad 2 (.t 1), (some (8, false))⟩,
 ⟨some 10, .load (some 2) (.t 9), (some (8, false))⟩,
 ⟨some 11, .call n_integer_Valid [(.t 10)] false, (some (8, false))⟩,
 ⟨some 12, .un .not (.t 11), (some (8, false))⟩,
 ⟨some 13, .pick (.t 8) (.c (.v (.bool true))) (.t 12), none⟩,
 ⟨some 14, .mov (.t 13), none⟩,
 ⟨some 15, .fad 2 (.t 1), (some (14, false))⟩,
 ⟨some 16, .fad 0 (.t 15), (some (14, false))⟩,
 ⟨some 17, .load none (.t 16), (some (14, false))⟩,
 ⟨some 18, .pick (.t 14) (.c (.v (.bool true))) (.t 17), none⟩,
 ⟨some 19, .mov (.t 18), none⟩,
 ⟨some 20, .fad 2 (.t 1), (some (19, false))⟩,
 ⟨some 21, .load (some 2) (.t 20), (some (19, false))⟩,
 ⟨some 22, .call n_rat_unit [(.t 21)] false, (some (19, false))⟩,
 ⟨some 23, .pick (.t 19) (.c (.v (.bool true))) (.t 22), none⟩,
 ⟨some 3, .mov (.t 23), none⟩] []) <|
 .keep [1, 3] [[1]]) <|
 .cond (.t 3) (.seq (.seq (.reg [⟨some 2, .mov (.c (.v (.bool false))), none⟩] []) <|
 .keep [2] []) <|
 .ret) <|
 .seq (.seq (.reg [⟨some 25, .fad 2 (.t 1), none⟩,
 ⟨some 26, .fad 1 (.t 25), none⟩,
 ⟨some 27, .load none (.t 26), none⟩,
 ⟨some 28, .len (.t 27), none⟩,
 ⟨some 29, .bin .eql (.t 28) (.c (.v (.int .i64 0))), none⟩,
 ⟨some 24, .mov (.t 29), none⟩] []) <|
 .keep [1, 24] [[1]]) <|
 .cond (.t 24) (.seq (.seq (.reg [⟨some 2, .mov (.c (.v (.bool true))), none⟩] []) <|
 .keep [2] []) <|
 .ret) <|
 .skip) <|
 .keep [1] [[1]]) <|
 .seq (.seq (.reg [⟨some 30, .fad 0 (.t 1), none⟩,
 ⟨some 31, .load (some 2) (.t 30), none⟩,
 ⟨some 32, .fad 2 (.t 1), none⟩,
 ⟨some 33, .load (some 2) (.t 32), none⟩,
 ⟨some 34, .call n_integer_Gcd [(.t 31), (.t 33)] false, none⟩,
 ⟨some 35, .call n_rat_unit [(.t 34)] false, none⟩,
 ⟨some 2, .mov (.t 35), none⟩] []) <|
 .keep [2] []) <|
 .ret, [.t 2]⟩

def gantryref05_Sign : CF := ⟨1, .seq (.seq (.reg [⟨some 1, .box (.t 0), none⟩,
 ⟨some 2, .mov (.c (.v (.int .i64 0))), none⟩] []) <|
 .keep [1] [[1]]) <|
 .seq (.seq (.reg [⟨some 3, .fad 0 (.t 1), none⟩,
 ⟨some 4, .load (some 2) (.t 3), none⟩,
 ⟨some 5, .call n_gantryref04_Sign [(.t 4)] false, none⟩,
 ⟨some 2, .mov (.t 5), none⟩] []) <|
 .keep [2] []) <|
 .ret, [.t 2]⟩

def gantrylaw06_of_l0 : C :=
 .seq (.seq (.seq (.seq (.reg [⟨some 5, .mov (.t 4), none⟩,
 ⟨some 6, .mov (.t 0), none⟩,
 ⟨some 7, .len (.t 6), none⟩,
 ⟨some 8, .bin .lss (.t 5) (.t 7), none⟩] []) <|
 .keep [0, 3, 4, 8] [[18]]) <|
 .cond (.t 8) (.skip) <|
 .seq (.keep [3] [[18]]) <|
 .exit 0) <|
 .seq (.seq (.blk 1 <|
 .seq (.reg [⟨some 11, .mov (.t 3), none⟩,
 ⟨some 12, .mov (.t 0), none⟩,
 ⟨some 13, .mov (.t 4), none⟩,
 ⟨some 14, .ixa 1 (.t 12) (.t 13), none⟩,
 ⟨some 15, .load none (.t 14), none⟩,
 ⟨some 16, .call n_gantryref05_Of [(.t 15), (.c (.v (.int .i64 1)))] false, none⟩,
 ⟨some 17, .lit 4 1 [.v (.bool false), .z true, .v (.bool false), .z true] [(0, (.t 16))] true, none⟩,
 ⟨some 18, .app 4 64 (.t 11) (.t 17) false, none⟩,
 ⟨some 3, .mov (.t 18), none⟩] []) <|
 .keep [0, 3, 4] [[18]]) <|
 .keep [0, 3, 4] [[18]]) <|
 .seq (.reg [⟨some 9, .mov (.t 4), none⟩,
 ⟨some 10, .bin .add (.t 9) (.c (.v (.int .i64 1))), none⟩,
 ⟨some 4, .mov (.t 10), none⟩] []) <|
 .keep [0, 3, 4] [[18]]) <|
 .keep [0, 3, 4] [[18]]
def gantrylaw06_of : CF := ⟨1, .seq (.seq (.reg [⟨some 2, .mov (.c (.z true)), none⟩] []) <|
 .keep [0] []) <|
 .seq (.seq (.reg [⟨some 3, .mov (.c (.z true)), none⟩] []) <|
 .keep [0, 3] [[18]]) <|
 .seq (.seq (.seq (.reg [⟨some 4, .mov (.c (.v (.int .i64 0))), none⟩] []) <|
 .keep [0, 3, 4] [[18]]) <|
 .seq (.blk 0 <|
 .seq (.keep [0, 3, 4] [[18]]) <|
 .loop gantrylaw06_of_l0) <|
 .keep [3] [[18]]) <|
 .seq (.seq (.frz 3) <|
 .seq (.reg [⟨some 19, .mov (.t 3), none⟩,
 ⟨some 20, .call n_gantryref06_Trim [(.t 19)] false, none⟩,
 ⟨some 2, .mov (.t 20), none⟩] []) <|
 .keep [2] []) <|
 .ret, [.t 2]⟩

def poly_monic : CF := ⟨1, .seq (.seq (.reg [⟨some 2, .mov (.c (.z true)), none⟩] []) <|
 .keep [0] []) <|
 .seq (.seq (.seq (.reg [⟨some 3, .mov (.t 0), none⟩,
 ⟨some 4, .len (.t 3), none⟩,
 ⟨some 5, .bin .eql (.t 4) (.c (.v (.int .i64 0))), none⟩] []) <|
 .keep [0, 5] []) <|
 .cond (.t 5) (.seq (.seq (.reg [⟨some 2, .mov (.c (.z true)), none⟩] []) <|
 .keep [2] []) <|
 .ret) <|
 .skip) <|
 .seq (.seq (.reg [⟨some 6, .mov (.t 0), none⟩,
 ⟨some 7, .call n_rat_Of [(.c (.v (.int .i64 1))), (.c (.v (.int .i64 1)))] false, none⟩,
 ⟨some 8, .mov (.t 0), none⟩,
 ⟨some 9, .mov (.t 0), none⟩,
 ⟨some 10, .len (.t 9), none⟩,
 ⟨some 11, .bin .sub (.t 10) (.c (.v (.int .i64 1))), none⟩,
 ⟨some 12, .ixa 4 (.t 8) (.t 11), none⟩,
 ⟨some 13, .load (some 4) (.t 12), none⟩,
 ⟨some 14, .call n_rat_Div [(.t 7), (.t 13)] false, none⟩,
 ⟨some 15, .call n_poly_Scale [(.t 6), (.t 14)] false, none⟩,
 ⟨some 2, .mov (.t 15), none⟩] []) <|
 .keep [2] []) <|
 .ret, [.t 2]⟩

def rat_Div : CF := ⟨2, .seq (.seq (.reg [⟨some 2, .box (.t 0), none⟩,
 ⟨some 3, .box (.t 1), none⟩,
 ⟨some 4, .new [.v (.bool false), .z true, .v (.bool false), .z true], none⟩] []) <|
 .keep [2, 3, 4] [[2], [3], [4]]) <|
 .seq (.seq (.seq (.reg [⟨some 5, .fad 0 (.t 3), none⟩,
 ⟨some 6, .fad 1 (.t 5), none⟩,
 ⟨some 7, .load none (.t 6), none⟩,
 ⟨some 8, .len (.t 7), none⟩,
 ⟨some 9, .bin .eql (.t 8) (.c (.v (.int .i64 0))), none⟩] []) <|
 .keep [2, 3, 4, 9] [[2], [3], [4]]) <|
 .cond (.t 9) (.seq (.seq (.reg [⟨some 10, .build [.v (.bool false), .z true, .v (.bool false), .z true] [], none⟩,
 ⟨none, .store 4 (.t 4) (.t 10), none⟩] []) <|
 .keep [4] [[4]]) <|
 .ret) <|
 .skip) <|
 .seq (.seq (.reg [⟨some 11, .load (some 4) (.t 2), none⟩,
 ⟨some 12, .load (some 4) (.t 3), none⟩,
 ⟨some 13, .call n_rat_Den [(.t 12)] false, none⟩,
 ⟨some 14, .fad 0 (.t 3), none⟩,
 ⟨some 15, .load (some 2) (.t 14), none⟩,
 ⟨some 16, .call n_rat_lowest [(.t 13), (.t 15)] false, none⟩,
 ⟨some 17, .call n_rat_Mul [(.t 11), (.t 16)] false, none⟩,
 ⟨none, .store 4 (.t 4) (.t 17), none⟩] []) <|
 .keep [4] [[4]]) <|
 .ret, [.cell 4 (some 4)]⟩

def rat_Sub : CF := ⟨2, .seq (.seq (.reg [⟨some 2, .box (.t 0), none⟩,
 ⟨some 3, .box (.t 1), none⟩,
 ⟨some 4, .new [.v (.bool false), .z true, .v (.bool false), .z true], none⟩] []) <|
 .keep [2, 3, 4] [[2], [3], [4]]) <|
 .seq (.seq (.reg [⟨some 5, .load (some 4) (.t 2), none⟩,
 ⟨some 6, .load (some 4) (.t 3), none⟩,
 ⟨some 7, .call n_rat_Neg [(.t 6)] false, none⟩,
 ⟨some 8, .call n_rat_Add [(.t 5), (.t 7)] false, none⟩,
 ⟨none, .store 4 (.t 4) (.t 8), none⟩] []) <|
 .keep [4] [[4]]) <|
 .ret, [.cell 4 (some 4)]⟩

def rat_Mul : CF := ⟨2, .seq (.seq (.reg [⟨some 2, .box (.t 0), none⟩,
 ⟨some 3, .box (.t 1), none⟩,
 ⟨some 4, .new [.v (.bool false), .z true, .v (.bool false), .z true], none⟩] []) <|
 .keep [2, 3, 4] [[2], [3], [4]]) <|
 .seq (.seq (.seq (.reg [⟨some 7, .fad 0 (.t 2), none⟩,
 ⟨some 8, .fad 1 (.t 7), none⟩,
 ⟨some 9, .load none (.t 8), none⟩,
 ⟨some 10, .len (.t 9), none⟩,
 ⟨some 11, .bin .eql (.t 10) (.c (.v (.int .i64 0))), none⟩,
 ⟨some 12, .mov (.t 11), none⟩,
 ⟨some 13, .fad 0 (.t 3), (some (12, false))⟩,
 ⟨some 14, .fad 1 (.t 13), (some (12, false))⟩,
 ⟨some 15, .load none (.t 14), (some (12, false))⟩,
 ⟨some 16, .len (.t 15), (some (12, false))⟩,
 ⟨some 17, .bin .eql (.t 16) (.c (.v (.int .i64 0))), (some (12, false))⟩,
 ⟨some 18, .pick (.t 12) (.c (.v (.bool true))) (.t 17), none⟩] []) <|
 .keep [2, 3, 4, 18] [[2], [3], [4]]) <|
 .cond (.t 18) (.seq (.seq (.reg [⟨some 19, .build [.v (.bool false), .z true, .v (.bool false), .z true] [], none⟩,
 ⟨none, .store 4 (.t 4) (.t 19), none⟩] []) <|
 .keep [4] [[4]]) <|
 .ret) <|
 .skip) <|
 .seq (.seq (.seq (.reg [⟨some 20, .fad 2 (.t 2), none⟩,
 ⟨some 21, .fad 1 (.t 20), none⟩,
 ⟨some 22, .load none (.t 21), none⟩,
 ⟨some 23, .len (.t 22), none⟩,
 ⟨some 24, .bin .eql (.t 23) (.c (.v (.int .i64 0))), none⟩,
 ⟨some 25, .mov (.t 24), none⟩,
 ⟨some 26, .fad 2 (.t 3), (some (25, true))⟩,
 ⟨some 27, .fad 1 (.t 26), (some (25, true))⟩,
 ⟨some 28, .load none (.t 27), (some (25, true))⟩,
 ⟨some 29, .len (.t 28), (some (25, true))⟩,
 ⟨some 30, .bin .eql (.t 29) (.c (.v (.int .i64 0))), (some (25, true))⟩,
 ⟨some 31, .pick (.t 25) (.t 30) (.c (.v (.bool false))), none⟩] []) <|
 .keep [2, 3, 4, 31] [[2], [3], [4]]) <|
 .cond (.t 31) (.seq (.seq (.reg [⟨some 32, .fad 0 (.t 2), none⟩,
 ⟨some 33, .load (some 2) (.t 32), none⟩,
 ⟨some 34, .fad 0 (.t 3), none⟩,
 ⟨some 35, .load (some 2) (.t 34), none⟩,
 ⟨some 36, .call n_integer_Mul [(.t 33), (.t 35)] false, none⟩,
 ⟨some 37, .build [.v (.bool false), .z true, .v (.bool false), .z true] [(0, 2, (.t 36))], none⟩,
 ⟨none, .store 4 (.t 4) (.t 37), none⟩] []) <|
 .keep [4] [[4]]) <|
 .ret) <|
 .skip) <|
 .seq (.seq (.reg [⟨some 38, .fad 0 (.t 2), none⟩,
 ⟨some 39, .load (some 2) (.t 38), none⟩,
 ⟨some 40, .load (some 4) (.t 3), none⟩,
 ⟨some 41, .call n_rat_Den [(.t 40)] false, none⟩,
 ⟨some 42, .call n_rat_Make [(.t 39), (.t 41)] false, none⟩,
 ⟨some 43, .fad 0 (.t 3), none⟩,
 ⟨some 44, .load (some 2) (.t 43), none⟩,
 ⟨some 45, .load (some 4) (.t 2), none⟩,
 ⟨some 46, .call n_rat_Den [(.t 45)] false, none⟩,
 ⟨some 47, .call n_rat_Make [(.t 44), (.t 46)] false, none⟩,
 ⟨some 5, .new [.v (.bool false), .z true, .v (.bool false), .z true], none⟩,
 ⟨some 6, .new [.v (.bool false), .z true, .v (.bool false), .z true], none⟩,
 ⟨none, .store 4 (.t 5) (.t 42), none⟩,
 ⟨none, .store 4 (.t 6) (.t 47), none⟩] []) <|
 .keep [4, 5, 6] [[4], [5], [6]]) <|
 .seq (.seq (.reg [⟨some 48, .fad 0 (.t 5), none⟩,
 ⟨some 49, .load (some 2) (.t 48), none⟩,
 ⟨some 50, .fad 0 (.t 6), none⟩,
 ⟨some 51, .load (some 2) (.t 50), none⟩,
 ⟨some 52, .call n_integer_Mul [(.t 49), (.t 51)] false, none⟩,
 ⟨some 53, .load (some 4) (.t 5), none⟩,
 ⟨some 54, .call n_rat_Den [(.t 53)] false, none⟩,
 ⟨some 55, .load (some 4) (.t 6), none⟩,
 ⟨some 56, .call n_rat_Den [(.t 55)] false, none⟩,
 ⟨some 57, .call n_integer_Mul [(.t 54), (.t 56)] false, none⟩,
 ⟨some 58, .call n_rat_lowest [(.t 52), (.t 57)] false, none⟩,
 ⟨none, .store 4 (.t 4) (.t 58), none⟩] []) <|
 .keep [4] [[4]]) <|
 .ret, [.cell 4 (some 4)]⟩

def poly_made_l0 : C :=
 .seq (.seq (.seq (.reg [⟨some 10, .bin .lss (.t 9) (.t 8), none⟩] []) <|
 .keep [1, 5, 8, 9, 10] [[17]]) <|
 .seq (.cond (.t 10) (.skip) <|
 .seq (.keep [5] [[17]]) <|
 .exit 0) <|
 .seq (.seq (.blk 1 <|
 .seq (.seq (.reg [⟨some 11, .mov (.t 9), none⟩,
 ⟨some 6, .mov (.t 11), none⟩] []) <|
 .keep [1, 5, 6, 8, 9] [[17]]) <|
 .seq (.reg [⟨some 12, .mov (.t 5), none⟩,
 ⟨some 13, .mov (.t 1), none⟩,
 ⟨some 14, .mov (.t 6), none⟩,
 ⟨some 15, .calv (.t 13) [(.t 14)], none⟩,
 ⟨some 16, .lit 4 1 [.v (.bool false), .z true, .v (.bool false), .z true] [(0, (.t 15))] true, none⟩,
 ⟨some 17, .app 4 64 (.t 12) (.t 16) false, none⟩,
 ⟨some 5, .mov (.t 17), none⟩] []) <|
 .keep [1, 5, 8, 9] [[17]]) <|
 .keep [1, 5, 8, 9] [[17]]) <|
 .seq (.reg [⟨some 18, .bin .add (.t 9) (.c (.v (.int .i64 1))), none⟩,
 ⟨some 9, .mov (.t 18), none⟩] []) <|
 .keep [1, 5, 8, 9] [[17]]) <|
 .keep [1, 5, 8, 9] [[17]]
def poly_made : CF := ⟨2, .seq (.seq (.reg [⟨some 4, .mov (.c (.z true)), none⟩] []) <|
 .keep [0, 1] []) <|
 .seq (.seq (.reg [⟨some 5, .mov (.c (.z true)), none⟩] []) <|
 .keep [0, 1, 5] [[17]]) <|
 .seq (.seq (.seq (.reg [⟨some 7, .mov (.t 0), none⟩,
 ⟨some 8, .mx [(.t 7), (.c (.v (.int .i64 0)))], none⟩,
 ⟨some 9, .mov (.c (.v (.int .i64 0))), none⟩] []) <|
 .keep [1, 5, 8, 9] [[17]]) <|
 .seq (.blk 0 <|
 .seq (.keep [1, 5, 8, 9] [[17]]) <|
 .loop poly_made_l0) <|
 .keep [5] [[17]]) <|
 .seq (.seq (.frz 5) <|
 .seq (.reg [⟨some 19, .mov (.t 5), none⟩,
 ⟨some 20, .call n_poly_Trim [(.t 19)] false, none⟩,
 ⟨some 4, .mov (.t 20), none⟩] []) <|
 .keep [4] []) <|
 .ret, [.t 4]⟩

def poly_Mul_1_l0 : C :=
 .seq (.seq (.seq (.seq (.reg [⟨some 13, .mov (.t 6), none⟩,
 ⟨some 14, .mov (.t 0), none⟩,
 ⟨some 15, .load none (.t 2), none⟩,
 ⟨some 16, .len (.t 15), none⟩,
 ⟨some 17, .bin .sub (.t 16) (.c (.v (.int .i64 1))), none⟩,
 ⟨some 18, .mn [(.t 14), (.t 17)], none⟩,
 ⟨some 19, .bin .leq (.t 13) (.t 18), none⟩] []) <|
 .keep [0, 1, 2, 4, 5, 6, 19] [[4], [5]]) <|
 .cond (.t 19) (.skip) <|
 .seq (.keep [4, 5] [[4], [5]]) <|
 .exit 0) <|
 .seq (.seq (.blk 1 <|
 .seq (.reg [⟨some 22, .load (some 4) (.t 5), none⟩,
 ⟨some 23, .load none (.t 2), none⟩,
 ⟨some 24, .mov (.t 6), none⟩,
 ⟨some 25, .ixa 4 (.t 23) (.t 24), none⟩,
 ⟨some 26, .load (some 4) (.t 25), none⟩,
 ⟨some 27, .load none (.t 1), none⟩,
 ⟨some 28, .mov (.t 0), none⟩,
 ⟨some 29, .mov (.t 6), none⟩,
 ⟨some 30, .bin .sub (.t 28) (.t 29), none⟩,
 ⟨some 31, .ixa 4 (.t 27) (.t 30), none⟩,
 ⟨some 32, .load (some 4) (.t 31), none⟩,
 ⟨some 33, .call n_rat_Mul [(.t 26), (.t 32)] false, none⟩,
 ⟨some 34, .call n_rat_Add [(.t 22), (.t 33)] false, none⟩,
 ⟨none, .store 4 (.t 5) (.t 34), none⟩] []) <|
 .keep [0, 1, 2, 4, 5, 6] [[4], [5]]) <|
 .keep [0, 1, 2, 4, 5, 6] [[4], [5]]) <|
 .seq (.reg [⟨some 20, .mov (.t 6), none⟩,
 ⟨some 21, .bin .add (.t 20) (.c (.v (.int .i64 1))), none⟩,
 ⟨some 6, .mov (.t 21), none⟩] []) <|
 .keep [0, 1, 2, 4, 5, 6] [[4], [5]]) <|
 .keep [0, 1, 2, 4, 5, 6] [[4], [5]]
def poly_Mul_1 : CF := ⟨3, .seq (.seq (.reg [⟨some 4, .new [.v (.bool false), .z true, .v (.bool false), .z true], none⟩] []) <|
 .keep [0, 1, 2, 4] [[4]]) <|
 .seq (.seq (.reg [⟨some 5, .new [.v (.bool false), .z true, .v (.bool false), .z true], none⟩] []) <|
 .keep [0, 1, 2, 4, 5] [[4], [5]]) <|
 .seq (.seq (.seq (.reg [⟨some 7, .mov (.t 0), none⟩,
 ⟨some 8, .load none (.t 1), none⟩,
 ⟨some 9, .len (.t 8), none⟩,
 ⟨some 10, .bin .sub (.t 7) (.t 9), none⟩,
 ⟨some 11, .bin .add (.t 10) (.c (.v (.int .i64 1))), none⟩,
 ⟨some 12, .mx [(.c (.v (.int .i64 0))), (.t 11)], none⟩,
 ⟨some 6, .mov (.t 12), none⟩] []) <|
 .keep [0, 1, 2, 4, 5, 6] [[4], [5]]) <|
 .seq (.blk 0 <|
 .seq (.keep [0, 1, 2, 4, 5, 6] [[4], [5]]) <|
 .loop poly_Mul_1_l0) <|
 .keep [4, 5] [[4], [5]]) <|
 .seq (.seq (.reg [⟨some 35, .load (some 4) (.t 5), none⟩,
 ⟨none, .store 4 (.t 4) (.t 35), none⟩] []) <|
 .keep [4] [[4]]) <|
 .ret, [.cell 4 (some 4)]⟩

def gantryref06_Scale_l0 : C :=
 .seq (.seq (.seq (.seq (.reg [⟨some 7, .mov (.t 6), none⟩,
 ⟨some 8, .mov (.t 0), none⟩,
 ⟨some 9, .len (.t 8), none⟩,
 ⟨some 10, .bin .lss (.t 7) (.t 9), none⟩] []) <|
 .keep [0, 3, 5, 6, 10] [[3], [21]]) <|
 .cond (.t 10) (.skip) <|
 .seq (.keep [5] [[21]]) <|
 .exit 0) <|
 .seq (.seq (.blk 1 <|
 .seq (.reg [⟨some 13, .mov (.t 5), none⟩,
 ⟨some 14, .mov (.t 0), none⟩,
 ⟨some 15, .mov (.t 6), none⟩,
 ⟨some 16, .ixa 4 (.t 14) (.t 15), none⟩,
 ⟨some 17, .load (some 4) (.t 16), none⟩,
 ⟨some 18, .load (some 4) (.t 3), none⟩,
 ⟨some 19, .call n_gantryref05_Mul [(.t 17), (.t 18)] false, none⟩,
 ⟨some 20, .lit 4 1 [.v (.bool false), .z true, .v (.bool false), .z true] [(0, (.t 19))] true, none⟩,
 ⟨some 21, .app 4 64 (.t 13) (.t 20) false, none⟩,
 ⟨some 5, .mov (.t 21), none⟩] []) <|
 .keep [0, 3, 5, 6] [[3], [21]]) <|
 .keep [0, 3, 5, 6] [[3], [21]]) <|
 .seq (.reg [⟨some 11, .mov (.t 6), none⟩,
 ⟨some 12, .bin .add (.t 11) (.c (.v (.int .i64 1))), none⟩,
 ⟨some 6, .mov (.t 12), none⟩] []) <|
 .keep [0, 3, 5, 6] [[3], [21]]) <|
 .keep [0, 3, 5, 6] [[3], [21]]
def gantryref06_Scale : CF := ⟨2, .seq (.seq (.reg [⟨some 3, .box (.t 1), none⟩,
 ⟨some 4, .mov (.c (.z true)), none⟩] []) <|
 .keep [0, 3] [[3]]) <|
 .seq (.seq (.reg [⟨some 5, .mov (.c (.z true)), none⟩] []) <|
 .keep [0, 3, 5] [[3], [21]]) <|
 .seq (.seq (.seq (.reg [⟨some 6, .mov (.c (.v (.int .i64 0))), none⟩] []) <|
 .keep [0, 3, 5, 6] [[3], [21]]) <|
 .seq (.blk 0 <|
 .seq (.keep [0, 3, 5, 6] [[3], [21]]) <|
 .loop gantryref06_Scale_l0) <|
 .keep [5] [[21]]) <|
 .seq (.seq (.frz 5) <|
 .seq (.reg [⟨some 22, .mov (.t 5), none⟩,
 ⟨some 23, .call n_gantryref06_Trim [(.t 22)] false, none⟩,
 ⟨some 4, .mov (.t 23), none⟩] []) <|
 .keep [4] []) <|
 .ret, [.t 4]⟩

def gantryref05_Div : CF := ⟨2, .seq (.seq (.reg [⟨some 2, .box (.t 0), none⟩,
 ⟨some 3, .box (.t 1), none⟩,
 ⟨some 4, .new [.v (.bool false), .z true, .v (.bool false), .z true], none⟩] []) <|
 .keep [2, 3, 4] [[2], [3], [4]]) <|
 .seq (.seq (.reg [⟨some 5, .fad 0 (.t 2), none⟩,
 ⟨some 6, .load (some 2) (.t 5), none⟩,
 ⟨some 7, .load (some 4) (.t 3), none⟩,
 ⟨some 8, .call n_gantryref05_Den [(.t 7)] false, none⟩,
 ⟨some 9, .call n_gantryref04_Mul [(.t 6), (.t 8)] false, none⟩,
 ⟨some 10, .load (some 4) (.t 2), none⟩,
 ⟨some 11, .call n_gantryref05_Den [(.t 10)] false, none⟩,
 ⟨some 12, .fad 0 (.t 3), none⟩,
 ⟨some 13, .load (some 2) (.t 12), none⟩,
 ⟨some 14, .call n_gantryref04_Mul [(.t 11), (.t 13)] false, none⟩,
 ⟨some 15, .call n_gantryref05_Make [(.t 9), (.t 14)] false, none⟩,
 ⟨none, .store 4 (.t 4) (.t 15), none⟩] []) <|
 .keep [4] [[4]]) <|
 .ret, [.cell 4 (some 4)]⟩

def poly_Derive_1 : CF := ⟨2, .seq (.seq (.reg [⟨some 3, .new [.v (.bool false), .z true, .v (.bool false), .z true], none⟩] []) <|
 .keep [0, 1, 3] [[3]]) <|
 .seq (.seq (.reg [⟨some 4, .load none (.t 1), none⟩,
 ⟨some 5, .mov (.t 0), none⟩,
 ⟨some 6, .bin .add (.t 5) (.c (.v (.int .i64 1))), none⟩,
 ⟨some 7, .ixa 4 (.t 4) (.t 6), none⟩,
 ⟨some 8, .load (some 4) (.t 7), none⟩,
 ⟨some 9, .mov (.t 0), none⟩,
 ⟨some 10, .bin .add (.t 9) (.c (.v (.int .i64 1))), none⟩,
 ⟨some 11, .call n_rat_Of [(.t 10), (.c (.v (.int .i64 1)))] false, none⟩,
 ⟨some 12, .call n_rat_Mul [(.t 8), (.t 11)] false, none⟩,
 ⟨none, .store 4 (.t 3) (.t 12), none⟩] []) <|
 .keep [3] [[3]]) <|
 .ret, [.cell 3 (some 4)]⟩

def rat_Of : CF := ⟨2, .seq (.seq (.reg [⟨some 4, .new [.v (.bool false), .z true, .v (.bool false), .z true], none⟩] []) <|
 .keep [0, 1, 4] [[4]]) <|
 .seq (.seq (.reg [⟨some 5, .mov (.t 0), none⟩,
 ⟨some 6, .call n_integer_Of [(.t 5)] false, none⟩,
 ⟨some 7, .mov (.t 1), none⟩,
 ⟨some 8, .call n_integer_Of [(.t 7)] false, none⟩,
 ⟨some 9, .call n_rat_Make [(.t 6), (.t 8)] false, none⟩,
 ⟨none, .store 4 (.t 4) (.t 9), none⟩] []) <|
 .keep [4] [[4]]) <|
 .ret, [.cell 4 (some 4)]⟩

def integer_Add : CF := ⟨2, .seq (.seq (.reg [⟨some 2, .box (.t 0), none⟩,
 ⟨some 3, .box (.t 1), none⟩,
 ⟨some 4, .new [.v (.bool false), .z true], none⟩] []) <|
 .keep [2, 3, 4] [[2], [3], [4]]) <|
 .seq (.seq (.blk 0 <|
 .seq (.seq (.reg [⟨some 6, .fad 0 (.t 2), none⟩,
 ⟨some 7, .load none (.t 6), none⟩,
 ⟨some 8, .fad 0 (.t 3), none⟩,
 ⟨some 9, .load none (.t 8), none⟩,
 ⟨some 10, .binb false (.t 7) (.t 9), none⟩,
 ⟨some 5, .mov (.t 10), none⟩] []) <|
 .keep [2, 3, 4, 5] [[2], [3], [4]]) <|
 .cond (.t 5) (.seq (.seq (.reg [⟨some 11, .fad 0 (.t 2), none⟩,
 ⟨some 12, .load none (.t 11), none⟩,
 ⟨some 13, .fad 1 (.t 2), none⟩,
 ⟨some 14, .load none (.t 13), none⟩,
 ⟨some 15, .fad 1 (.t 3), none⟩,
 ⟨some 16, .load none (.t 15), none⟩,
 ⟨some 17, .call n_integer_plus [(.t 14), (.t 16)] false, none⟩,
 ⟨some 18, .call n_integer_of [(.t 12), (.t 17)] false, none⟩,
 ⟨none, .store 2 (.t 4) (.t 18), none⟩] []) <|
 .keep [4] [[4]]) <|
 .ret) <|
 .seq (.seq (.reg [⟨some 20, .fad 1 (.t 2), none⟩,
 ⟨some 21, .load none (.t 20), none⟩,
 ⟨some 22, .fad 1 (.t 3), none⟩,
 ⟨some 23, .load none (.t 22), none⟩,
 ⟨some 24, .call n_integer_compare [(.t 21), (.t 23)] false, none⟩,
 ⟨some 25, .bin .lss (.t 24) (.c (.v (.int .i64 0))), none⟩,
 ⟨some 19, .mov (.t 25), none⟩] []) <|
 .keep [2, 3, 4, 19] [[2], [3], [4]]) <|
 .cond (.t 19) (.seq (.seq (.reg [⟨some 26, .fad 0 (.t 3), none⟩,
 ⟨some 27, .load none (.t 26), none⟩,
 ⟨some 28, .fad 1 (.t 3), none⟩,
 ⟨some 29, .load none (.t 28), none⟩,
 ⟨some 30, .fad 1 (.t 2), none⟩,
 ⟨some 31, .load none (.t 30), none⟩,
 ⟨some 32, .call n_integer_minus [(.t 29), (.t 31)] false, none⟩,
 ⟨some 33, .call n_integer_of [(.t 27), (.t 32)] false, none⟩,
 ⟨none, .store 2 (.t 4) (.t 33), none⟩] []) <|
 .keep [4] [[4]]) <|
 .ret) <|
 .skip) <|
 .keep [2, 3, 4] [[2], [3], [4]]) <|
 .seq (.seq (.reg [⟨some 34, .fad 0 (.t 2), none⟩,
 ⟨some 35, .load none (.t 34), none⟩,
 ⟨some 36, .fad 1 (.t 2), none⟩,
 ⟨some 37, .load none (.t 36), none⟩,
 ⟨some 38, .fad 1 (.t 3), none⟩,
 ⟨some 39, .load none (.t 38), none⟩,
 ⟨some 40, .call n_integer_minus [(.t 37), (.t 39)] false, none⟩,
 ⟨some 41, .call n_integer_of [(.t 35), (.t 40)] false, none⟩,
 ⟨none, .store 2 (.t 4) (.t 41), none⟩] []) <|
 .keep [4] [[4]]) <|
 .ret, [.cell 4 (some 2)]⟩

def rat_Den : CF := ⟨1, .seq (.seq (.reg [⟨some 1, .box (.t 0), none⟩,
 ⟨some 2, .new [.v (.bool false), .z true], none⟩] []) <|
 .keep [1, 2] [[1], [2]]) <|
 .seq (.seq (.seq (.reg [⟨some 3, .fad 2 (.t 1), none⟩,
 ⟨some 4, .fad 1 (.t 3), none⟩,
 ⟨some 5, .load none (.t 4), none⟩,
 ⟨some 6, .len (.t 5), none⟩,
 ⟨some 7, .bin .eql (.t 6) (.c (.v (.int .i64 0))), none⟩] []) <|
 .keep [1, 2, 7] [[1], [2]]) <|
 .cond (.t 7) (.seq (.seq (.reg [⟨some 8, .call n_rat_one [] false, none⟩,
 ⟨none, .store 2 (.t 2) (.t 8), none⟩] []) <|
 .keep [2] [[2]]) <|
 .ret) <|
 .skip) <|
 .seq (.seq (.reg [⟨some 9, .fad 2 (.t 1), none⟩,
 ⟨some 10, .load (some 2) (.t 9), none⟩,
 ⟨none, .store 2 (.t 2) (.t 10), none⟩] []) <|
 .keep [2] [[2]]) <|
 .ret, [.cell 2 (some 2)]⟩

def rat_Make : CF := ⟨2, .seq (.seq (.reg [⟨some 2, .box (.t 0), none⟩,
 ⟨some 3, .box (.t 1), none⟩,
 ⟨some 4, .new [.v (.bool false), .z true, .v (.bool false), .z true], none⟩] []) <|
 .keep [2, 3, 4] [[2], [3], [4]]) <|
 .seq (.seq (.seq (.reg [⟨some 6, .fad 1 (.t 3), none⟩,
 ⟨some 7, .load none (.t 6), none⟩,
 ⟨some 8, .len (.t 7), none⟩,
 ⟨some 9, .bin .eql (.t 8) (.c (.v (.int .i64 0))), none⟩,
 ⟨some 10, .mov (.t 9), none⟩,
 ⟨some 11, .fad 1 (.t 2), (some (10, false))⟩,
 ⟨some 12, .load none (.t 11), (some (10, false))⟩,
 ⟨some 13, .len (.t 12), (some (10, false))⟩,
 ⟨some 14, .bin .eql (.t 13) (.c (.v (.int .i64 0))), (some (10, false))⟩,
 ⟨some 15, .pick (.t 10) (.c (.v (.bool true))) (.t 14), none⟩] []) <|
 .keep [2, 3, 4, 15] [[2], [3], [4]]) <|
 .cond (.t 15) (.seq (.seq (.reg [⟨some 16, .build [.v (.bool false), .z true, .v (.bool false), .z true] [], none⟩,
 ⟨none, .store 4 (.t 4) (.t 16), none⟩] []) <|
 .keep [4] [[4]]) <|
 .ret) <|
 .skip) <|
 .seq (.seq (.seq (.reg [⟨some 17, .load (some 2) (.t 2), none⟩,
 ⟨some 18, .load (some 2) (.t 3), none⟩,
 ⟨some 19, .call n_integer_Gcd [(.t 17), (.t 18)] false, none⟩,
 ⟨some 5, .new [.v (.bool false), .z true], none⟩,
 ⟨none, .store 2 (.t 5) (.t 19), none⟩] []) <|
 .keep [2, 3, 4, 5] [[2], [3], [4], [5]]) <|
 .seq (.seq (.reg [⟨some 20, .load (some 2) (.t 5), none⟩,
 ⟨some 21, .call n_rat_unit [(.t 20)] false, none⟩,
 ⟨some 22, .un .not (.t 21), none⟩] []) <|
 .keep [2, 3, 4, 5, 22] [[2], [3], [4], [5]]) <|
 .cond (.t 22) (.seq (.seq (.reg [⟨some 24, .load (some 2) (.t 2), none⟩,
 ⟨some 25, .load (some 2) (.t 5), none⟩,
 ⟨some 26, .call n_integer_Div [(.t 24), (.t 25)] false, none⟩,
 ⟨some 23, .mov (.t 26), none⟩,
 ⟨some 27, .ext (.t 23) 0, none⟩,
 ⟨some 28, .ext (.t 23) 1, none⟩,
 ⟨none, .store 2 (.t 2) (.t 27), none⟩] []) <|
 .keep [2, 3, 4, 5] [[2], [3], [4], [5]]) <|
 .seq (.reg [⟨some 30, .load (some 2) (.t 3), none⟩,
 ⟨some 31, .load (some 2) (.t 5), none⟩,
 ⟨some 32, .call n_integer_Div [(.t 30), (.t 31)] false, none⟩,
 ⟨some 29, .mov (.t 32), none⟩,
 ⟨some 33, .ext (.t 29) 0, none⟩,
 ⟨some 34, .ext (.t 29) 1, none⟩,
 ⟨none, .store 2 (.t 3) (.t 33), none⟩] []) <|
 .keep [2, 3, 4] [[2], [3], [4]]) <|
 .skip) <|
 .seq (.seq (.reg [⟨some 35, .load (some 2) (.t 2), none⟩,
 ⟨some 36, .load (some 2) (.t 3), none⟩,
 ⟨some 37, .call n_rat_lowest [(.t 35), (.t 36)] false, none⟩,
 ⟨none, .store 4 (.t 4) (.t 37), none⟩] []) <|
 .keep [4] [[4]]) <|
 .ret, [.cell 4 (some 4)]⟩

def integer_Mul_l0 : C :=
 .seq (.seq (.seq (.reg [⟨some 57, .bin .lss (.t 56) (.t 55), none⟩] []) <|
 .keep [2, 3, 4, 6, 7, 8, 9, 10, 47, 48, 49, 54, 55, 56, 57] [[2], [3], [4], [46]]) <|
 .seq (.cond (.t 57) (.skip) <|
 .seq (.keep [2, 3, 4, 6, 7, 8, 10, 47, 48, 49] [[2], [3], [4], [46]]) <|
 .exit 2) <|
 .seq (.seq (.blk 3 <|
 .seq (.seq (.reg [⟨some 58, .mov (.t 56), none⟩,
 ⟨some 59, .ixa 1 (.t 54) (.t 56), none⟩,
 ⟨some 60, .load none (.t 59), none⟩,
 ⟨some 11, .mov (.t 58), none⟩,
 ⟨some 12, .mov (.t 60), none⟩] []) <|
 .keep [2, 3, 4, 6, 7, 8, 9, 10, 11, 12, 47, 48, 49, 54, 55, 56] [[2], [3], [4], [46]]) <|
 .seq (.seq (.reg [⟨some 61, .mov (.t 7), none⟩,
 ⟨some 62, .mov (.t 8), none⟩,
 ⟨some 63, .mov (.t 11), none⟩,
 ⟨some 64, .bin .add (.t 62) (.t 63), none⟩,
 ⟨some 65, .ixa 1 (.t 61) (.t 64), none⟩,
 ⟨some 66, .load none (.t 65), none⟩,
 ⟨some 67, .mov (.t 9), none⟩,
 ⟨some 68, .mov (.t 12), none⟩,
 ⟨some 69, .bin .mul (.t 67) (.t 68), none⟩,
 ⟨some 70, .bin .add (.t 66) (.t 69), none⟩,
 ⟨some 71, .mov (.t 10), none⟩,
 ⟨some 72, .bin .add (.t 70) (.t 71), none⟩,
 ⟨some 13, .mov (.t 72), none⟩] []) <|
 .keep [2, 3, 4, 6, 7, 8, 9, 11, 13, 47, 48, 49, 54, 55, 56] [[2], [3], [4], [46]]) <|
 .seq (.seq (.reg [⟨some 73, .mov (.t 13), none⟩,
 ⟨some 74, .bin .quo (.t 73) (.c (.v (.int .i64 1000000000))), none⟩,
 ⟨some 10, .mov (.t 74), none⟩] []) <|
 .keep [2, 3, 4, 6, 7, 8, 9, 10, 11, 13, 47, 48, 49, 54, 55, 56] [[2], [3], [4], [46]]) <|
 .seq (.reg [⟨some 75, .mov (.t 7), none⟩,
 ⟨some 76, .mov (.t 8), none⟩,
 ⟨some 77, .mov (.t 11), none⟩,
 ⟨some 78, .bin .add (.t 76) (.t 77), none⟩,
 ⟨some 79, .mov (.t 13), none⟩,
 ⟨some 80, .mov (.t 10), none⟩,
 ⟨some 81, .bin .mul (.t 80) (.c (.v (.int .i64 1000000000))), none⟩,
 ⟨some 82, .bin .sub (.t 79) (.t 81), none⟩,
 ⟨some 83, .ixa 1 (.t 75) (.t 78), none⟩,
 ⟨none, .store 1 (.t 83) (.t 82), none⟩] []) <|
 .keep [2, 3, 4, 6, 7, 8, 9, 10, 47, 48, 49, 54, 55, 56] [[2], [3], [4], [46]]) <|
 .keep [2, 3, 4, 6, 7, 8, 9, 10, 47, 48, 49, 54, 55, 56] [[2], [3], [4], [46]]) <|
 .seq (.reg [⟨some 84, .bin .add (.t 56) (.c (.v (.int .i64 1))), none⟩,
 ⟨some 56, .mov (.t 84), none⟩] []) <|
 .keep [2, 3, 4, 6, 7, 8, 9, 10, 47, 48, 49, 54, 55, 56] [[2], [3], [4], [46]]) <|
 .keep [2, 3, 4, 6, 7, 8, 9, 10, 47, 48, 49, 54, 55, 56] [[2], [3], [4], [46]]
def integer_Mul_l1 : C :=
 .seq (.seq (.seq (.reg [⟨some 50, .bin .lss (.t 49) (.t 48), none⟩] []) <|
 .keep [2, 3, 4, 6, 7, 47, 48, 49, 50] [[2], [3], [4], [46]]) <|
 .seq (.cond (.t 50) (.skip) <|
 .seq (.keep [2, 3, 4, 7] [[2], [3], [4], [46]]) <|
 .exit 0) <|
 .seq (.seq (.blk 1 <|
 .seq (.seq (.reg [⟨some 51, .mov (.t 49), none⟩,
 ⟨some 52, .ixa 1 (.t 47) (.t 49), none⟩,
 ⟨some 53, .load none (.t 52), none⟩,
 ⟨some 8, .mov (.t 51), none⟩,
 ⟨some 9, .mov (.t 53), none⟩] []) <|
 .keep [2, 3, 4, 6, 7, 8, 9, 47, 48, 49] [[2], [3], [4], [46]]) <|
 .seq (.seq (.reg [⟨some 10, .mov (.c (.v (.int .i64 0))), none⟩] []) <|
 .keep [2, 3, 4, 6, 7, 8, 9, 10, 47, 48, 49] [[2], [3], [4], [46]]) <|
 .seq (.seq (.seq (.reg [⟨some 54, .mov (.t 6), none⟩,
 ⟨some 55, .len (.t 54), none⟩,
 ⟨some 56, .mov (.c (.v (.int .i64 0))), none⟩] []) <|
 .keep [2, 3, 4, 6, 7, 8, 9, 10, 47, 48, 49, 54, 55, 56] [[2], [3], [4], [46]]) <|
 .seq (.blk 2 <|
 .seq (.keep [2, 3, 4, 6, 7, 8, 9, 10, 47, 48, 49, 54, 55, 56] [[2], [3], [4], [46]]) <|
 .loop integer_Mul_l0) <|
 .keep [2, 3, 4, 6, 7, 8, 10, 47, 48, 49] [[2], [3], [4], [46]]) <|
 .seq (.reg [⟨some 85, .mov (.t 7), none⟩,
 ⟨some 86, .mov (.t 8), none⟩,
 ⟨some 87, .mov (.t 6), none⟩,
 ⟨some 88, .len (.t 87), none⟩,
 ⟨some 89, .bin .add (.t 86) (.t 88), none⟩,
 ⟨some 90, .mov (.t 10), none⟩,
 ⟨some 91, .ixa 1 (.t 85) (.t 89), none⟩,
 ⟨none, .store 1 (.t 91) (.t 90), none⟩] []) <|
 .keep [2, 3, 4, 6, 7, 47, 48, 49] [[2], [3], [4], [46]]) <|
 .keep [2, 3, 4, 6, 7, 47, 48, 49] [[2], [3], [4], [46]]) <|
 .seq (.reg [⟨some 92, .bin .add (.t 49) (.c (.v (.int .i64 1))), none⟩,
 ⟨some 49, .mov (.t 92), none⟩] []) <|
 .keep [2, 3, 4, 6, 7, 47, 48, 49] [[2], [3], [4], [46]]) <|
 .keep [2, 3, 4, 6, 7, 47, 48, 49] [[2], [3], [4], [46]]
def integer_Mul : CF := ⟨2, .seq (.seq (.reg [⟨some 2, .box (.t 0), none⟩,
 ⟨some 3, .box (.t 1), none⟩,
 ⟨some 4, .new [.v (.bool false), .z true], none⟩] []) <|
 .keep [2, 3, 4] [[2], [3], [4]]) <|
 .seq (.seq (.reg [⟨some 14, .fad 1 (.t 2), none⟩,
 ⟨some 15, .load none (.t 14), none⟩,
 ⟨some 16, .fad 1 (.t 3), none⟩,
 ⟨some 17, .load none (.t 16), none⟩,
 ⟨some 5, .mov (.t 15), none⟩,
 ⟨some 6, .mov (.t 17), none⟩] []) <|
 .keep [2, 3, 4, 5, 6] [[2], [3], [4]]) <|
 .seq (.seq (.seq (.reg [⟨some 18, .mov (.t 5), none⟩,
 ⟨some 19, .len (.t 18), none⟩,
 ⟨some 20, .bin .eql (.t 19) (.c (.v (.int .i64 1))), none⟩,
 ⟨some 21, .mov (.t 20), none⟩,
 ⟨some 22, .mov (.t 6), (some (21, true))⟩,
 ⟨some 23, .len (.t 22), (some (21, true))⟩,
 ⟨some 24, .bin .eql (.t 23) (.c (.v (.int .i64 1))), (some (21, true))⟩,
 ⟨some 25, .pick (.t 21) (.t 24) (.c (.v (.bool false))), none⟩] []) <|
 .keep [2, 3, 4, 5, 6, 25] [[2], [3], [4]]) <|
 .cond (.t 25) (.seq (.seq (.reg [⟨some 26, .fad 0 (.t 2), none⟩,
 ⟨some 27, .load none (.t 26), none⟩,
 ⟨some 28, .fad 0 (.t 3), none⟩,
 ⟨some 29, .load none (.t 28), none⟩,
 ⟨some 30, .binb true (.t 27) (.t 29), none⟩,
 ⟨some 31, .mov (.t 5), none⟩,
 ⟨some 32, .ixa 1 (.t 31) (.c (.v (.int .i64 0))), none⟩,
 ⟨some 33, .load none (.t 32), none⟩,
 ⟨some 34, .conv (.int .u64) (.t 33), none⟩,
 ⟨some 35, .mov (.t 6), none⟩,
 ⟨some 36, .ixa 1 (.t 35) (.c (.v (.int .i64 0))), none⟩,
 ⟨some 37, .load none (.t 36), none⟩,
 ⟨some 38, .conv (.int .u64) (.t 37), none⟩,
 ⟨some 39, .bin .mul (.t 34) (.t 38), none⟩,
 ⟨some 40, .call n_integer_unsigned [(.t 30), (.t 39)] false, none⟩,
 ⟨none, .store 2 (.t 4) (.t 40), none⟩] []) <|
 .keep [4] [[4]]) <|
 .ret) <|
 .skip) <|
 .seq (.seq (.reg [⟨some 41, .mov (.t 5), none⟩,
 ⟨some 42, .len (.t 41), none⟩,
 ⟨some 43, .mov (.t 6), none⟩,
 ⟨some 44, .len (.t 43), none⟩,
 ⟨some 45, .bin .add (.t 42) (.t 44), none⟩,
 ⟨some 46, .mksl 1 8 [.v (.int .i64 0)] (.t 45) (.t 45), none⟩,
 ⟨some 7, .mov (.t 46), none⟩] []) <|
 .keep [2, 3, 4, 5, 6, 7] [[2], [3], [4], [46]]) <|
 .seq (.seq (.seq (.reg [⟨some 47, .mov (.t 5), none⟩,
 ⟨some 48, .len (.t 47), none⟩,
 ⟨some 49, .mov (.c (.v (.int .i64 0))), none⟩] []) <|
 .keep [2, 3, 4, 6, 7, 47, 48, 49] [[2], [3], [4], [46]]) <|
 .seq (.blk 0 <|
 .seq (.keep [2, 3, 4, 6, 7, 47, 48, 49] [[2], [3], [4], [46]]) <|
 .loop integer_Mul_l1) <|
 .keep [2, 3, 4, 7] [[2], [3], [4], [46]]) <|
 .seq (.seq (.frz 7) <|
 .seq (.reg [⟨some 93, .fad 0 (.t 2), none⟩,
 ⟨some 94, .load none (.t 93), none⟩,
 ⟨some 95, .fad 0 (.t 3), none⟩,
 ⟨some 96, .load none (.t 95), none⟩,
 ⟨some 97, .binb true (.t 94) (.t 96), none⟩,
 ⟨some 98, .mov (.t 7), none⟩,
 ⟨some 99, .call n_integer_of [(.t 97), (.t 98)] false, none⟩,
 ⟨none, .store 2 (.t 4) (.t 99), none⟩] []) <|
 .keep [4] [[4]]) <|
 .ret, [.cell 4 (some 2)]⟩

def slices_Backward_api_Poly_api_Rat : CF := ⟨1, .seq (.seq (.reg [⟨some 1, .box (.t 0), none⟩,
 ⟨some 2, .mov (.c (.v (.nilFunc))), none⟩] []) <|
 .keep [1] [[1]]) <|
 .seq (.seq (.reg [⟨some 3, .mkfn n_slices_Backward_api_Poly_api_Rat_1 [(.t 1)] true, none⟩,
 ⟨some 2, .mov (.t 3), none⟩] []) <|
 .keep [2] []) <|
 .ret, [.t 2]⟩

def gantryref05_Make : CF := ⟨2, .seq (.seq (.reg [⟨some 2, .box (.t 0), none⟩,
 ⟨some 3, .box (.t 1), none⟩,
 ⟨some 4, .new [.v (.bool false), .z true, .v (.bool false), .z true], none⟩] []) <|
 .keep [2, 3, 4] [[2], [3], [4]]) <|
 .seq (.seq (.seq (.reg [⟨some 10, .fad 1 (.t 3), none⟩,
 ⟨some 11, .load none (.t 10), none⟩,
 ⟨some 12, .len (.t 11), none⟩,
 ⟨some 13, .bin .eql (.t 12) (.c (.v (.int .i64 0))), none⟩,
 ⟨some 14, .mov (.t 13), none⟩,
 ⟨some 15, .fad 1 (.t 2), (some (14, false))⟩,
 ⟨some 16, .load none (.t 15), (some (14, false))⟩,
 ⟨some 17, .len (.t 16), (some (14, false))⟩,
 ⟨some 18, .bin .eql (.t 17) (.c (.v (.int .i64 0))), (some (14, false))⟩,
 ⟨some 19, .pick (.t 14) (.c (.v (.bool true))) (.t 18), none⟩] []) <|
 .keep [2, 3, 4, 19] [[2], [3], [4]]) <|
 .cond (.t 19) (.seq (.seq (.reg [⟨some 20, .build [.v (.bool false), .z true, .v (.bool false), .z true] [], none⟩,
 ⟨none, .store 4 (.t 4) (.t 20), none⟩] []) <|
 .keep [4] [[4]]) <|
 .ret) <|
 .skip) <|
 .seq (.seq (.reg [⟨some 21, .load (some 2) (.t 2), none⟩,
 ⟨some 22, .load (some 2) (.t 3), none⟩,
 ⟨some 23, .call n_gantryref04_Gcd [(.t 21), (.t 22)] false, none⟩,
 ⟨some 5, .new [.v (.bool false), .z true], none⟩,
 ⟨none, .store 2 (.t 5) (.t 23), none⟩] []) <|
 .keep [2, 3, 4, 5] [[2], [3], [4], [5]]) <|
 .seq (.seq (.reg [⟨some 25, .load (some 2) (.t 2), none⟩,
 ⟨some 26, .load (some 2) (.t 5), none⟩,
 ⟨some 27, .call n_gantryref04_Div [(.t 25), (.t 26)] false, none⟩,
 ⟨some 24, .mov (.t 27), none⟩,
 ⟨some 28, .ext (.t 24) 0, none⟩,
 ⟨some 29, .ext (.t 24) 1, none⟩,
 ⟨some 6, .new [.v (.bool false), .z true], none⟩,
 ⟨some 7, .new [.v (.bool false), .z true], none⟩,
 ⟨none, .store 2 (.t 6) (.t 28), none⟩,
 ⟨none, .store 2 (.t 7) (.t 29), none⟩] []) <|
 .keep [3, 4, 5, 6] [[3], [4], [5], [6]]) <|
 .seq (.seq (.reg [⟨some 31, .load (some 2) (.t 3), none⟩,
 ⟨some 32, .load (some 2) (.t 5), none⟩,
 ⟨some 33, .call n_gantryref04_Div [(.t 31), (.t 32)] false, none⟩,
 ⟨some 30, .mov (.t 33), none⟩,
 ⟨some 34, .ext (.t 30) 0, none⟩,
 ⟨some 35, .ext (.t 30) 1, none⟩,
 ⟨some 8, .new [.v (.bool false), .z true], none⟩,
 ⟨some 9, .new [.v (.bool false), .z true], none⟩,
 ⟨none, .store 2 (.t 8) (.t 34), none⟩,
 ⟨none, .store 2 (.t 9) (.t 35), none⟩] []) <|
 .keep [4, 6, 8] [[4], [6], [8]]) <|
 .seq (.seq (.seq (.reg [⟨some 36, .fad 0 (.t 8), none⟩,
 ⟨some 37, .load none (.t 36), none⟩] []) <|
 .keep [4, 6, 8, 37] [[4], [6], [8]]) <|
 .cond (.t 37) (.seq (.seq (.reg [⟨some 38, .load (some 2) (.t 6), none⟩,
 ⟨some 39, .call n_gantryref04_Neg [(.t 38)] false, none⟩,
 ⟨none, .store 2 (.t 6) (.t 39), none⟩] []) <|
 .keep [4, 6, 8] [[4], [6], [8]]) <|
 .seq (.reg [⟨some 40, .load (some 2) (.t 8), none⟩,
 ⟨some 41, .call n_gantryref04_Neg [(.t 40)] false, none⟩,
 ⟨none, .store 2 (.t 8) (.t 41), none⟩] []) <|
 .keep [4, 6, 8] [[4], [6], [8]]) <|
 .skip) <|
 .seq (.seq (.seq (.reg [⟨some 42, .load (some 2) (.t 8), none⟩,
 ⟨some 43, .call n_gantryref05_one [(.t 42)] false, none⟩] []) <|
 .keep [4, 6, 8, 43] [[4], [6], [8]]) <|
 .cond (.t 43) (.seq (.seq (.reg [⟨some 44, .load (some 2) (.t 6), none⟩,
 ⟨some 45, .build [.v (.bool false), .z true, .v (.bool false), .z true] [(0, 2, (.t 44))], none⟩,
 ⟨none, .store 4 (.t 4) (.t 45), none⟩] []) <|
 .keep [4] [[4]]) <|
 .ret) <|
 .skip) <|
 .seq (.seq (.reg [⟨some 46, .load (some 2) (.t 6), none⟩,
 ⟨some 47, .load (some 2) (.t 8), none⟩,
 ⟨some 48, .build [.v (.bool false), .z true, .v (.bool false), .z true] [(0, 2, (.t 46)), (2, 2, (.t 47))], none⟩,
 ⟨none, .store 4 (.t 4) (.t 48), none⟩] []) <|
 .keep [4] [[4]]) <|
 .ret, [.cell 4 (some 4)]⟩

def gantryref04_Of_l0 : C :=
 .seq (.seq (.seq (.seq (.reg [⟨some 8, .mov (.t 0), none⟩,
 ⟨some 9, .bin .neq (.t 8) (.c (.v (.int .i64 0))), none⟩] []) <|
 .keep [0, 2, 3, 4, 9] [[2], [19]]) <|
 .cond (.t 9) (.skip) <|
 .seq (.keep [2, 3, 4] [[2], [19]]) <|
 .exit 0) <|
 .seq (.blk 1 <|
 .seq (.seq (.reg [⟨some 10, .mov (.t 0), none⟩,
 ⟨some 11, .bin .rem (.t 10) (.c (.v (.int .i64 1000000000))), none⟩,
 ⟨some 5, .mov (.t 11), none⟩] []) <|
 .keep [0, 2, 3, 4, 5] [[2], [19]]) <|
 .seq (.seq (.seq (.reg [⟨some 12, .mov (.t 5), none⟩,
 ⟨some 13, .bin .lss (.t 12) (.c (.v (.int .i64 0))), none⟩] []) <|
 .keep [0, 2, 3, 4, 5, 13] [[2], [19]]) <|
 .cond (.t 13) (.seq (.reg [⟨some 14, .mov (.t 5), none⟩,
 ⟨some 15, .un .neg (.t 14), none⟩,
 ⟨some 5, .mov (.t 15), none⟩] []) <|
 .keep [0, 2, 3, 4, 5] [[2], [19]]) <|
 .skip) <|
 .seq (.seq (.reg [⟨some 16, .mov (.t 3), none⟩,
 ⟨some 17, .mov (.t 5), none⟩,
 ⟨some 18, .lit 1 1 [.v (.int .i64 0)] [(0, (.t 17))] true, none⟩,
 ⟨some 19, .app 1 8 (.t 16) (.t 18) false, none⟩,
 ⟨some 3, .mov (.t 19), none⟩] []) <|
 .keep [0, 2, 3, 4] [[2], [19]]) <|
 .seq (.reg [⟨some 20, .mov (.t 0), none⟩,
 ⟨some 21, .bin .quo (.t 20) (.c (.v (.int .i64 1000000000))), none⟩,
 ⟨some 0, .mov (.t 21), none⟩] []) <|
 .keep [0, 2, 3, 4] [[2], [19]]) <|
 .keep [0, 2, 3, 4] [[2], [19]]) <|
 .keep [0, 2, 3, 4] [[2], [19]]
def gantryref04_Of : CF := ⟨1, .seq (.seq (.reg [⟨some 2, .new [.v (.bool false), .z true], none⟩] []) <|
 .keep [0, 2] [[2]]) <|
 .seq (.seq (.reg [⟨some 3, .mov (.c (.z true)), none⟩] []) <|
 .keep [0, 2, 3] [[2], [19]]) <|
 .seq (.seq (.reg [⟨some 6, .mov (.t 0), none⟩,
 ⟨some 7, .bin .lss (.t 6) (.c (.v (.int .i64 0))), none⟩,
 ⟨some 4, .mov (.t 7), none⟩] []) <|
 .keep [0, 2, 3, 4] [[2], [19]]) <|
 .seq (.seq (.blk 0 <|
 .seq (.keep [0, 2, 3, 4] [[2], [19]]) <|
 .loop gantryref04_Of_l0) <|
 .keep [2, 3, 4] [[2], [19]]) <|
 .seq (.seq (.frz 3) <|
 .seq (.reg [⟨some 22, .mov (.t 4), none⟩,
 ⟨some 23, .mov (.t 3), none⟩,
 ⟨some 24, .call n_gantryref04_normal [(.t 22), (.t 23)] false, none⟩,
 ⟨none, .store 2 (.t 2) (.t 24), none⟩] []) <|
 .keep [2] [[2]]) <|
 .ret, [.cell 2 (some 2)]⟩

def gantryref04_Neg : CF := ⟨1, .seq (.seq (.reg [⟨some 1, .box (.t 0), none⟩,
 ⟨some 2, .new [.v (.bool false), .z true], none⟩] []) <|
 .keep [1, 2] [[1], [2]]) <|
 .seq (.seq (.reg [⟨some 3, .fad 0 (.t 1), none⟩,
 ⟨some 4, .load none (.t 3), none⟩,
 ⟨some 5, .un .not (.t 4), none⟩,
 ⟨some 6, .fad 1 (.t 1), none⟩,
 ⟨some 7, .load none (.t 6), none⟩,
 ⟨some 8, .call n_gantryref04_normal [(.t 5), (.t 7)] false, none⟩,
 ⟨none, .store 2 (.t 2) (.t 8), none⟩] []) <|
 .keep [2] [[2]]) <|
 .ret, [.cell 2 (some 2)]⟩

def gantryref05_Add : CF := ⟨2, .seq (.seq (.reg [⟨some 2, .box (.t 0), none⟩,
 ⟨some 3, .box (.t 1), none⟩,
 ⟨some 4, .new [.v (.bool false), .z true, .v (.bool false), .z true], none⟩] []) <|
 .keep [2, 3, 4] [[2], [3], [4]]) <|
 .seq (.seq (.reg [⟨some 7, .fad 0 (.t 2), none⟩,
 ⟨some 8, .load (some 2) (.t 7), none⟩,
 ⟨some 9, .load (some 4) (.t 3), none⟩,
 ⟨some 10, .call n_gantryref05_Den [(.t 9)] false, none⟩,
 ⟨some 11, .call n_gantryref04_Mul [(.t 8), (.t 10)] false, none⟩,
 ⟨some 5, .new [.v (.bool false), .z true], none⟩,
 ⟨none, .store 2 (.t 5) (.t 11), none⟩] []) <|
 .keep [2, 3, 4, 5] [[2], [3], [4], [5]]) <|
 .seq (.seq (.reg [⟨some 12, .fad 0 (.t 3), none⟩,
 ⟨some 13, .load (some 2) (.t 12), none⟩,
 ⟨some 14, .load (some 4) (.t 2), none⟩,
 ⟨some 15, .call n_gantryref05_Den [(.t 14)] false, none⟩,
 ⟨some 16, .call n_gantryref04_Mul [(.t 13), (.t 15)] false, none⟩,
 ⟨some 6, .new [.v (.bool false), .z true], none⟩,
 ⟨none, .store 2 (.t 6) (.t 16), none⟩] []) <|
 .keep [2, 3, 4, 5, 6] [[2], [3], [4], [5], [6]]) <|
 .seq (.seq (.reg [⟨some 17, .load (some 2) (.t 5), none⟩,
 ⟨some 18, .load (some 2) (.t 6), none⟩,
 ⟨some 19, .call n_gantryref04_Add [(.t 17), (.t 18)] false, none⟩,
 ⟨some 20, .load (some 4) (.t 2), none⟩,
 ⟨some 21, .call n_gantryref05_Den [(.t 20)] false, none⟩,
 ⟨some 22, .load (some 4) (.t 3), none⟩,
 ⟨some 23, .call n_gantryref05_Den [(.t 22)] false, none⟩,
 ⟨some 24, .call n_gantryref04_Mul [(.t 21), (.t 23)] false, none⟩,
 ⟨some 25, .call n_gantryref05_Make [(.t 19), (.t 24)] false, none⟩,
 ⟨none, .store 4 (.t 4) (.t 25), none⟩] []) <|
 .keep [4] [[4]]) <|
 .ret, [.cell 4 (some 4)]⟩

def gantryref05_Mul : CF := ⟨2, .seq (.seq (.reg [⟨some 2, .box (.t 0), none⟩,
 ⟨some 3, .box (.t 1), none⟩,
 ⟨some 4, .new [.v (.bool false), .z true, .v (.bool false), .z true], none⟩] []) <|
 .keep [2, 3, 4] [[2], [3], [4]]) <|
 .seq (.seq (.reg [⟨some 5, .fad 0 (.t 2), none⟩,
 ⟨some 6, .load (some 2) (.t 5), none⟩,
 ⟨some 7, .fad 0 (.t 3), none⟩,
 ⟨some 8, .load (some 2) (.t 7), none⟩,
 ⟨some 9, .call n_gantryref04_Mul [(.t 6), (.t 8)] false, none⟩,
 ⟨some 10, .load (some 4) (.t 2), none⟩,
 ⟨some 11, .call n_gantryref05_Den [(.t 10)] false, none⟩,
 ⟨some 12, .load (some 4) (.t 3), none⟩,
 ⟨some 13, .call n_gantryref05_Den [(.t 12)] false, none⟩,
 ⟨some 14, .call n_gantryref04_Mul [(.t 11), (.t 13)] false, none⟩,
 ⟨some 15, .call n_gantryref05_Make [(.t 9), (.t 14)] false, none⟩,
 ⟨none, .store 4 (.t 4) (.t 15), none⟩] []) <|
 .keep [4] [[4]]) <|
 .ret, [.cell 4 (some 4)]⟩

def integer_Sign : CF := ⟨1, .seq (.seq (.reg [⟨some 1, .box (.t 0), none⟩,
 ⟨some 2, .mov (.c (.v (.int .i64 0))), none⟩] []) <|
 .keep [1] [[1]]) <|
 .seq (.seq (.blk 0 <|
 .seq (.seq (.reg [⟨some 4, .fad 0 (.t 1), none⟩,
 ⟨some 5, .load none (.t 4), none⟩,
 ⟨some 3, .mov (.t 5), none⟩] []) <|
 .keep [1, 3] [[1]]) <|
 .cond (.t 3) (.seq (.seq (.reg [⟨some 2, .mov (.c (.v (.int .i64 (-1)))), none⟩] []) <|
 .keep [2] []) <|
 .ret) <|
 .seq (.seq (.reg [⟨some 7, .fad 1 (.t 1), none⟩,
 ⟨some 8, .load none (.t 7), none⟩,
 ⟨some 9, .len (.t 8), none⟩,
 ⟨some 10, .bin .eql (.t 9) (.c (.v (.int .i64 0))), none⟩,
 ⟨some 6, .mov (.t 10), none⟩] []) <|
 .keep [6] []) <|
 .cond (.t 6) (.seq (.seq (.reg [⟨some 2, .mov (.c (.v (.int .i64 0))), none⟩] []) <|
 .keep [2] []) <|
 .ret) <|
 .skip) <|
 .keep [] []) <|
 .seq (.seq (.reg [⟨some 2, .mov (.c (.v (.int .i64 1))), none⟩] []) <|
 .keep [2] []) <|
 .ret, [.t 2]⟩

def gantryref04_Same_l0 : C :=
 .seq (.seq (.seq (.seq (.reg [⟨some 20, .mov (.t 5), none⟩,
 ⟨some 21, .fad 1 (.t 2), none⟩,
 ⟨some 22, .load none (.t 21), none⟩,
 ⟨some 23, .len (.t 22), none⟩,
 ⟨some 24, .bin .lss (.t 20) (.t 23), none⟩] []) <|
 .keep [2, 3, 5, 24] [[2], [3]]) <|
 .cond (.t 24) (.skip) <|
 .seq (.keep [] []) <|
 .exit 0) <|
 .seq (.seq (.blk 1 <|
 .seq (.seq (.reg [⟨some 27, .fad 1 (.t 2), none⟩,
 ⟨some 28, .load none (.t 27), none⟩,
 ⟨some 29, .mov (.t 5), none⟩,
 ⟨some 30, .ixa 1 (.t 28) (.t 29), none⟩,
 ⟨some 31, .load none (.t 30), none⟩,
 ⟨some 32, .fad 1 (.t 3), none⟩,
 ⟨some 33, .load none (.t 32), none⟩,
 ⟨some 34, .mov (.t 5), none⟩,
 ⟨some 35, .ixa 1 (.t 33) (.t 34), none⟩,
 ⟨some 36, .load none (.t 35), none⟩,
 ⟨some 37, .bin .neq (.t 31) (.t 36), none⟩] []) <|
 .keep [2, 3, 5, 37] [[2], [3]]) <|
 .cond (.t 37) (.seq (.seq (.reg [⟨some 4, .mov (.c (.v (.bool false))), none⟩] []) <|
 .keep [4] []) <|
 .ret) <|
 .skip) <|
 .keep [2, 3, 5] [[2], [3]]) <|
 .seq (.reg [⟨some 25, .mov (.t 5), none⟩,
 ⟨some 26, .bin .add (.t 25) (.c (.v (.int .i64 1))), none⟩,
 ⟨some 5, .mov (.t 26), none⟩] []) <|
 .keep [2, 3, 5] [[2], [3]]) <|
 .keep [2, 3, 5] [[2], [3]]
def gantryref04_Same : CF := ⟨2, .seq (.seq (.reg [⟨some 2, .box (.t 0), none⟩,
 ⟨some 3, .box (.t 1), none⟩,
 ⟨some 4, .mov (.c (.v (.bool false))), none⟩] []) <|
 .keep [2, 3] [[2], [3]]) <|
 .seq (.seq (.seq (.reg [⟨some 6, .fad 0 (.t 2), none⟩,
 ⟨some 7, .load none (.t 6), none⟩,
 ⟨some 8, .fad 0 (.t 3), none⟩,
 ⟨some 9, .load none (.t 8), none⟩,
 ⟨some 10, .binb true (.t 7) (.t 9), none⟩,
 ⟨some 11, .mov (.t 10), none⟩,
 ⟨some 12, .fad 1 (.t 2), (some (11, false))⟩,
 ⟨some 13, .load none (.t 12), (some (11, false))⟩,
 ⟨some 14, .len (.t 13), (some (11, false))⟩,
 ⟨some 15, .fad 1 (.t 3), (some (11, false))⟩,
 ⟨some 16, .load none (.t 15), (some (11, false))⟩,
 ⟨some 17, .len (.t 16), (some (11, false))⟩,
 ⟨some 18, .bin .neq (.t 14) (.t 17), (some (11, false))⟩,
 ⟨some 19, .pick (.t 11) (.c (.v (.bool true))) (.t 18), none⟩] []) <|
 .keep [2, 3, 19] [[2], [3]]) <|
 .cond (.t 19) (.seq (.seq (.reg [⟨some 4, .mov (.c (.v (.bool false))), none⟩] []) <|
 .keep [4] []) <|
 .ret) <|
 .skip) <|
 .seq (.seq (.seq (.reg [⟨some 5, .mov (.c (.v (.int .i64 0))), none⟩] []) <|
 .keep [2, 3, 5] [[2], [3]]) <|
 .seq (.blk 0 <|
 .seq (.keep [2, 3, 5] [[2], [3]]) <|
 .loop gantryref04_Same_l0) <|
 .keep [] []) <|
 .seq (.seq (.reg [⟨some 4, .mov (.c (.v (.bool true))), none⟩] []) <|
 .keep [4] []) <|
 .ret, [.t 4]⟩

def slices_IndexFunc_api_Poly_api_Rat_l0 : C :=
 .seq (.seq (.seq (.reg [⟨some 9, .bin .lss (.t 8) (.t 7), none⟩] []) <|
 .keep [0, 1, 7, 8, 9] []) <|
 .seq (.cond (.t 9) (.skip) <|
 .seq (.keep [] []) <|
 .exit 0) <|
 .seq (.seq (.blk 1 <|
 .seq (.seq (.reg [⟨some 10, .mov (.t 8), none⟩,
 ⟨some 5, .mov (.t 10), none⟩] []) <|
 .keep [0, 1, 5, 7, 8] []) <|
 .seq (.seq (.reg [⟨some 11, .mov (.t 1), none⟩,
 ⟨some 12, .mov (.t 0), none⟩,
 ⟨some 13, .mov (.t 5), none⟩,
 ⟨some 14, .ixa 4 (.t 12) (.t 13), none⟩,
 ⟨some 15, .load (some 4) (.t 14), none⟩,
 ⟨some 16, .calv (.t 11) [(.t 15)], none⟩] []) <|
 .keep [0, 1, 5, 7, 8, 16] []) <|
 .cond (.t 16) (.seq (.seq (.reg [⟨some 17, .mov (.t 5), none⟩,
 ⟨some 4, .mov (.t 17), none⟩] []) <|
 .keep [4] []) <|
 .ret) <|
 .skip) <|
 .keep [0, 1, 7, 8] []) <|
 .seq (.reg [⟨some 18, .bin .add (.t 8) (.c (.v (.int .i64 1))), none⟩,
 ⟨some 8, .mov (.t 18), none⟩] []) <|
 .keep [0, 1, 7, 8] []) <|
 .keep [0, 1, 7, 8] []
def slices_IndexFunc_api_Poly_api_Rat : CF := ⟨2, .seq (.seq (.reg [⟨some 4, .mov (.c (.v (.int .i64 0))), none⟩] []) <|
 .keep [0, 1] []) <|
 .seq (.seq (.seq (.reg [⟨some 6, .mov (.t 0), none⟩,
 ⟨some 7, .len (.t 6), none⟩,
 ⟨some 8, .mov (.c (.v (.int .i64 0))), none⟩] []) <|
 .keep [0, 1, 7, 8] []) <|
 .seq (.blk 0 <|
 .seq (.keep [0, 1, 7, 8] []) <|
 .loop slices_IndexFunc_api_Poly_api_Rat_l0) <|
 .keep [] []) <|
 .seq (.seq (.reg [⟨some 4, .mov (.c (.v (.int .i64 (-1)))), none⟩] []) <|
 .keep [4] []) <|
 .ret, [.t 4]⟩

def integer_Valid : CF := ⟨1, .seq (.seq (.reg [⟨some 1, .box (.t 0), none⟩,
 ⟨some 2, .mov (.c (.v (.bool false))), none⟩] []) <|
 .keep [1] [[1]]) <|
 .seq (.seq (.seq (.reg [⟨some 3, .fad 1 (.t 1), none⟩,
 ⟨some 4, .load none (.t 3), none⟩,
 ⟨some 5, .call n_slices_ContainsFunc_int_int [(.t 4), (.f n_integer_Valid_1)] false, none⟩] []) <|
 .keep [1, 5] [[1]]) <|
 .cond (.t 5) (.seq (.seq (.reg [⟨some 2, .mov (.c (.v (.bool false))), none⟩] []) <|
 .keep [2] []) <|
 .ret) <|
 .skip) <|
 .seq (.seq (.reg [⟨some 6, .fad 1 (.t 1), none⟩,
 ⟨some 7, .load none (.t 6), none⟩,
 ⟨some 8, .len (.t 7), none⟩,
 ⟨some 9, .bin .eql (.t 8) (.c (.v (.int .i64 0))), none⟩,
 ⟨some 10, .mov (.t 9), none⟩,
 ⟨some 11, .fad 0 (.t 1), (some (10, true))⟩,
 ⟨some 12, .load none (.t 11), (some (10, true))⟩,
 ⟨some 13, .un .not (.t 12), (some (10, true))⟩,
 ⟨some 14, .pick (.t 10) (.t 13) (.c (.v (.bool false))), none⟩,
 ⟨some 15, .mov (.t 14), none⟩,
 ⟨some 16, .fad 1 (.t 1), (some (15, false))⟩,
 ⟨some 17, .load none (.t 16), (some (15, false))⟩,
 ⟨some 18, .len (.t 17), (some (15, false))⟩,
 ⟨some 19, .bin .gtr (.t 18) (.c (.v (.int .i64 0))), (some (15, false))⟩,
 ⟨some 20, .mov (.t 19), (some (15, false))⟩,
 ⟨some 21, .fad 1 (.t 1), (some (20, true))⟩,
 ⟨some 22, .load none (.t 21), (some (20, true))⟩,
 ⟨some 23, .fad 1 (.t 1), (some (20, true))⟩,
 ⟨some 24, .load none (.t 23), (some (20, true))⟩,
 ⟨some 25, .len (.t 24), (some (20, true))⟩,
 ⟨some 26, .bin .sub (.t 25) (.c (.v (.int .i64 1))), (some (20, true))⟩,
 ⟨some 27, .ixa 1 (.t 22) (.t 26), (some (20, true))⟩,
 ⟨some 28, .load none (.t 27), (some (20, true))⟩,
 ⟨some 29, .bin .neq (.t 28) (.c (.v (.int .i64 0))), (some (20, true))⟩,
 ⟨some 30, .pick (.t 20) (.t 29) (.c (.v (.bool false))), (some (15, false))⟩,
 ⟨some 31, .pick (.t 15) (.c (.v (.bool true))) (.t 30), none⟩,
 ⟨some 2, .mov (.t 31), none⟩] []) <|
 .keep [2] []) <|
 .ret, [.t 2]⟩

def rat_unit : CF := ⟨1, .seq (.seq (.reg [⟨some 1, .box (.t 0), none⟩,
 ⟨some 2, .mov (.c (.v (.bool false))), none⟩] []) <|
 .keep [1] [[1]]) <|
 .seq (.seq (.reg [⟨some 3, .fad 0 (.t 1), none⟩,
 ⟨some 4, .load none (.t 3), none⟩,
 ⟨some 5, .un .not (.t 4), none⟩,
 ⟨some 6, .mov (.t 5), none⟩,
 ⟨some 7, .fad 1 (.t 1), (some (6, true))⟩,
 ⟨some 8, .load none (.t 7), (some (6, true))⟩,
 ⟨some 9, .len (.t 8), (some (6, true))⟩,
 ⟨some 10, .bin .eql (.t 9) (.c (.v (.int .i64 1))), (some (6, true))⟩,
 ⟨some 11, .pick (.t 6) (.t 10) (.c (.v (.bool false))), none⟩,
 ⟨some 12, .mov (.t 11), none⟩,
 ⟨some 13, .fad 1 (.t 1), (some (12, true))⟩,
 ⟨some 14, .load none (.t 13), (some (12, true))⟩,
 ⟨some 15, .ixa 1 (.t 14) (.c (.v (.int .i64 0))), (some (12, true))⟩,
 ⟨some 16, .load none (.t 15), (some (12, true))⟩,
 ⟨some 17, .bin .eql (.t 16) (.c (.v (.int .i64 1))), (some (12, true))⟩,
 ⟨some 18, .pick (.t 12) (.t 17) (.c (.v (.bool false))), none⟩,
 ⟨some 2, .mov (.t 18), none⟩] []) <|
 .keep [2] []) <|
 .ret, [.t 2]⟩
end Go.AM

