/- Part 4 of the proof: a small machine, its soundness against the model, and what the program's functions compute on it. -/
import Derived.Test.YthhdbchmjfdgmaaGreatM0
import Derived.Test.YthhdbchmjfdgmaaGreatProg
import Derived.KernelRfl
import Derived.Test.YthhdbchmjfdgmaaGreatM3
set_option linter.unusedVariables false
set_option linter.unusedSimpArgs false
set_option maxRecDepth 100000
namespace Go.AM
open Go Go.Proofs
abbrev n_gantrylaw06_PolyDivides : Nat := 3
abbrev n_gantrylaw06_PolyComputes : Nat := 4
abbrev n_gantrylaw06_PolyRing : Nat := 5
abbrev n_gantrylaw06_PolyBytes : Nat := 6
abbrev n_gantryref06_Poly : Nat := 7
abbrev n_gantryref06_Mul : Nat := 8
abbrev n_gantryref06_Derive : Nat := 9
abbrev n_poly_Div : Nat := 10
abbrev n_gantryref06_Div : Nat := 11
abbrev n_gantryref06_Same : Nat := 12
abbrev n_poly_Gcd : Nat := 13
abbrev n_gantryref06_Gcd : Nat := 14
abbrev n_poly_Free : Nat := 15
abbrev n_gantryref06_Free : Nat := 16
abbrev n_gantrylaw06_lives : Nat := 17
abbrev n_gantryref06_Small : Nat := 18
abbrev n_gantryref06_Scale : Nat := 19
abbrev n_gantryref05_Of : Nat := 20
abbrev n_poly_Add : Nat := 21
abbrev n_gantryref06_Add : Nat := 22
abbrev n_poly_Sub : Nat := 23
abbrev n_gantryref06_Sub : Nat := 24
abbrev n_poly_Mul : Nat := 25
abbrev n_poly_Scale : Nat := 26
abbrev n_gantryref05_Same : Nat := 27
abbrev n_poly_Eval : Nat := 28
abbrev n_gantryref06_Eval : Nat := 29
abbrev n_poly_Derive : Nat := 30
abbrev n_poly_Shift : Nat := 31
abbrev n_gantryref06_Shift : Nat := 32
abbrev n_rat_Same : Nat := 33
abbrev n_rat_Add : Nat := 34
abbrev n_rat_Mul : Nat := 35
abbrev n_poly_Encode : Nat := 36
abbrev n_gantryref01_Same : Nat := 37
abbrev n_gantryref06_Encode : Nat := 38
abbrev n_gantryref01_Around : Nat := 39
abbrev n_poly_Decode : Nat := 40
abbrev n_gantryref06_Decode : Nat := 41
abbrev n_gantryref01_At : Nat := 42
abbrev n_gantryref06_Trim : Nat := 43
abbrev n_gantryref05_Neg : Nat := 44
abbrev n_gantryref05_Add : Nat := 45
abbrev n_gantryref05_Mul : Nat := 46
abbrev n_slices_Clone_api_Poly_api_Rat : Nat := 47
abbrev n_rat_Div : Nat := 48
abbrev n_rat_Sub : Nat := 49
abbrev n_poly_Trim : Nat := 50
abbrev n_gantryref05_Div : Nat := 51
abbrev n_poly_monic : Nat := 52
abbrev n_gantryref06_Monic : Nat := 53
abbrev n_gantrylaw06_of : Nat := 54
abbrev n_gantrylaw06_is : Nat := 55
abbrev n_poly_Degree : Nat := 56
abbrev n_poly_Valid : Nat := 57
abbrev n_gantryref05_Make : Nat := 58
abbrev n_gantryref04_Of : Nat := 59
abbrev n_poly_made : Nat := 60
abbrev n_poly_Add_1 : Nat := 61
abbrev n_poly_at : Nat := 62
abbrev n_gantryref06_At : Nat := 63
abbrev n_poly_Sub_1 : Nat := 64
abbrev n_poly_Mul_1 : Nat := 65
abbrev n_poly_Scale_1 : Nat := 66
abbrev n_gantryref04_Same : Nat := 67
abbrev n_slices_Backward_api_Poly_api_Rat : Nat := 68
abbrev n_poly_Derive_1 : Nat := 69
abbrev n_rat_Of : Nat := 70
abbrev n_rat_Same_1 : Nat := 71
abbrev n_slices_Equal_int_int : Nat := 72
abbrev n_integer_Add : Nat := 73
abbrev n_rat_Den : Nat := 74
abbrev n_rat_Make : Nat := 75
abbrev n_integer_Mul : Nat := 76
abbrev n_rat_lowest : Nat := 77
abbrev n_wire_Int : Nat := 78
abbrev n_rat_Encode : Nat := 79
abbrev n_gantryref01_Int : Nat := 80
abbrev n_gantryref05_Encode : Nat := 81
abbrev n_wire_GetInt : Nat := 82
abbrev n_rat_Decode : Nat := 83
abbrev n_gantryref01_GetInt : Nat := 84
abbrev n_gantryref05_Decode : Nat := 85
abbrev n_gantryref06_Valid : Nat := 86
abbrev n_gantryref05_Sign : Nat := 87
abbrev n_gantryref04_Neg : Nat := 88
abbrev n_gantryref04_Mul : Nat := 89
abbrev n_gantryref05_Den : Nat := 90
abbrev n_gantryref04_Add : Nat := 91
abbrev n_rat_Neg : Nat := 92
abbrev n_rat_Sign : Nat := 93
abbrev n_slices_ContainsFunc_api_Poly_api_Rat : Nat := 94
abbrev n_poly_Valid_1 : Nat := 95
abbrev n_rat_Valid : Nat := 96
abbrev n_gantryref04_Gcd : Nat := 97
abbrev n_gantryref04_Div : Nat := 98
abbrev n_gantryref05_one : Nat := 99
abbrev n_gantryref04_normal : Nat := 100
abbrev n_slices_Backward_api_Poly_api_Rat_1 : Nat := 101
abbrev n_integer_Of : Nat := 102
abbrev n_integer_of : Nat := 103
abbrev n_integer_plus : Nat := 104
abbrev n_integer_compare : Nat := 105
abbrev n_integer_minus : Nat := 106
abbrev n_rat_one : Nat := 107
abbrev n_integer_Gcd : Nat := 108
abbrev n_rat_unit : Nat := 109
abbrev n_integer_Div : Nat := 110
abbrev n_integer_unsigned : Nat := 111
abbrev n_integer_Neg : Nat := 112
abbrev n_slices_Concat_byte_byte : Nat := 113
abbrev n_integer_Encode : Nat := 114
abbrev n_gantryref04_Encode : Nat := 115
abbrev n_integer_Decode : Nat := 116
abbrev n_gantryref04_Decode : Nat := 117
abbrev n_gantryref05_Valid : Nat := 118
abbrev n_gantryref04_Sign : Nat := 119
abbrev n_gantryref04_plus : Nat := 120
abbrev n_gantryref04_compared : Nat := 121
abbrev n_gantryref04_minus : Nat := 122
abbrev n_integer_Sign : Nat := 123
abbrev n_slices_IndexFunc_api_Poly_api_Rat : Nat := 124
abbrev n_integer_Valid : Nat := 125
abbrev n_gantryref04_tiny : Nat := 126
abbrev n_gantryref04_divided : Nat := 127
abbrev n_cmp_Compare_int : Nat := 128
abbrev n_integer_two : Nat := 129
abbrev n_integer_divide : Nat := 130
abbrev n_slices_Grow_byte_byte : Nat := 131
abbrev n_wire_Ints : Nat := 132
abbrev n_gantryref01_Ints : Nat := 133
abbrev n_wire_GetInts : Nat := 134
abbrev n_slices_Clone_int_int : Nat := 135
abbrev n_gantryref01_GetInts : Nat := 136
abbrev n_gantryref04_Valid : Nat := 137
abbrev n_gantryref04_Compare : Nat := 138
abbrev n_gantryref04_digit : Nat := 139
abbrev n_slices_ContainsFunc_int_int : Nat := 140
abbrev n_integer_Valid_1 : Nat := 141
abbrev n_gantryref04_times : Nat := 142
abbrev n_cmp_isNaN_int : Nat := 143
abbrev n_integer_short : Nat := 144
abbrev n_integer_long : Nat := 145
abbrev n_wire_count : Nat := 146
abbrev n_wire_reader : Nat := 147
abbrev n_gantryref01_count : Nat := 148
abbrev n_slices_IndexFunc_int_int : Nat := 149
abbrev n_integer_scaled : Nat := 150
abbrev n_wire_reader_1 : Nat := 151
abbrev n_runtime_boundsError_Error : Nat := 152
abbrev n_runtime_boundsError_RuntimeError : Nat := 153
abbrev n_runtime_errorString_Error : Nat := 154
abbrev n_runtime_errorString_RuntimeError : Nat := 155
abbrev n_runtime_plainError_Error : Nat := 156
abbrev n_runtime_plainError_RuntimeError : Nat := 157
abbrev n_runtime_errorAddressString_Error : Nat := 158
abbrev n_runtime_errorAddressString_RuntimeError : Nat := 159
abbrev n_runtime_TypeAssertionError_Error : Nat := 160
abbrev n_runtime_TypeAssertionError_RuntimeError : Nat := 161
abbrev n_runtime_PanicNilError_Error : Nat := 162
abbrev n_runtime_PanicNilError_RuntimeError : Nat := 163
abbrev n_internal_abi_Type_Align : Nat := 164
abbrev n_internal_runtime_maps_unhashableTypeError_Error : Nat := 165
abbrev n_internal_runtime_maps_unhashableTypeError_RuntimeError : Nat := 166
abbrev n_internal_abi_Kind_String : Nat := 167

/- 3: gantry/gantrylaw06.PolyDivides -/
def gantrylaw06_PolyDivides_l0 : C :=
  .seq (.seq (.seq (.seq (.reg [⟨(some 39), .mov (.t 8), none⟩,
    ⟨(some 40), .mov (.t 7), none⟩,
    ⟨(some 41), .len (.t 40), none⟩,
    ⟨(some 42), .bin .lss (.t 39) (.t 41), none⟩] []) <|
  .keep [7, 8, 42] []) <|
  .cond (.t 42) (.skip) <|
  .seq (.keep [] []) <|
  .exit 0) <|
  .seq (.seq (.blk 1 <|
  .seq (.seq (.reg [⟨(some 45), .mov (.t 7), none⟩,
    ⟨(some 46), .mov (.t 8), none⟩,
    ⟨(some 47), .ixa 1 (.t 45) (.t 46), none⟩,
    ⟨(some 48), .load none (.t 47), none⟩,
    ⟨(some 49), .ixa 1 (.t 48) (.c (.v (.int .i64 0))), none⟩,
    ⟨(some 50), .load none (.t 49), none⟩,
    ⟨(some 9), .mov (.t 50), none⟩] []) <|
  .keep [7, 8, 9] []) <|
  .seq (.seq (.reg [⟨(some 51), .mov (.t 7), none⟩,
    ⟨(some 52), .mov (.t 8), none⟩,
    ⟨(some 53), .ixa 1 (.t 51) (.t 52), none⟩,
    ⟨(some 54), .load none (.t 53), none⟩,
    ⟨(some 55), .ixa 1 (.t 54) (.c (.v (.int .i64 1))), none⟩,
    ⟨(some 56), .load none (.t 55), none⟩,
    ⟨(some 10), .mov (.t 56), none⟩] []) <|
  .keep [7, 8, 9, 10] []) <|
  .seq (.seq (.reg [⟨(some 58), .mov (.t 9), none⟩,
    ⟨(some 59), .mov (.t 10), none⟩,
    ⟨(some 60), .call n_poly_Div [(.t 58), (.t 59)] false, none⟩,
    ⟨(some 57), .mov (.t 60), none⟩,
    ⟨(some 61), .ext (.t 57) 0, none⟩,
    ⟨(some 62), .ext (.t 57) 1, none⟩,
    ⟨(some 11), .mov (.t 61), none⟩,
    ⟨(some 12), .mov (.t 62), none⟩] []) <|
  .keep [7, 8, 9, 10, 11, 12] []) <|
  .seq (.seq (.reg [⟨(some 64), .mov (.t 9), none⟩,
    ⟨(some 65), .mov (.t 10), none⟩,
    ⟨(some 66), .call n_gantryref06_Div [(.t 64), (.t 65)] false, none⟩,
    ⟨(some 63), .mov (.t 66), none⟩,
    ⟨(some 67), .ext (.t 63) 0, none⟩,
    ⟨(some 68), .ext (.t 63) 1, none⟩,
    ⟨(some 13), .mov (.t 67), none⟩,
    ⟨(some 14), .mov (.t 68), none⟩] []) <|
  .keep [7, 8, 9, 10, 11, 12, 13, 14] []) <|
  .seq (.seq (.reg [⟨(some 69), .mov (.t 11), none⟩,
    ⟨(some 70), .mov (.t 13), none⟩,
    ⟨(some 71), .call n_gantryref06_Same [(.t 69), (.t 70)] false, none⟩,
    ⟨(some 72), .un .not (.t 71), none⟩,
    ⟨(some 73), .mov (.t 72), none⟩,
    ⟨(some 74), .mov (.t 12), (some (73, false))⟩,
    ⟨(some 75), .mov (.t 14), (some (73, false))⟩,
    ⟨(some 76), .call n_gantryref06_Same [(.t 74), (.t 75)] false, (some (73, false))⟩,
    ⟨(some 77), .un .not (.t 76), (some (73, false))⟩,
    ⟨(some 78), .pick (.t 73) (.c (.v (.bool true))) (.t 77), none⟩,
    ⟨(some 79), .mov (.t 78), none⟩,
    ⟨(some 80), .mov (.t 9), (some (79, false))⟩,
    ⟨(some 81), .mov (.t 10), (some (79, false))⟩,
    ⟨(some 82), .call n_poly_Gcd [(.t 80), (.t 81)] false, (some (79, false))⟩,
    ⟨(some 83), .mov (.t 9), (some (79, false))⟩,
    ⟨(some 84), .mov (.t 10), (some (79, false))⟩,
    ⟨(some 85), .call n_gantryref06_Gcd [(.t 83), (.t 84)] false, (some (79, false))⟩,
    ⟨(some 86), .call n_gantryref06_Same [(.t 82), (.t 85)] false, (some (79, false))⟩,
    ⟨(some 87), .un .not (.t 86), (some (79, false))⟩,
    ⟨(some 88), .pick (.t 79) (.c (.v (.bool true))) (.t 87), none⟩,
    ⟨(some 89), .mov (.t 88), none⟩,
    ⟨(some 90), .mov (.t 9), (some (89, false))⟩,
    ⟨(some 91), .call n_poly_Free [(.t 90)] false, (some (89, false))⟩,
    ⟨(some 92), .mov (.t 9), (some (89, false))⟩,
    ⟨(some 93), .call n_gantryref06_Free [(.t 92)] false, (some (89, false))⟩,
    ⟨(some 94), .call n_gantryref06_Same [(.t 91), (.t 93)] false, (some (89, false))⟩,
    ⟨(some 95), .un .not (.t 94), (some (89, false))⟩,
    ⟨(some 96), .pick (.t 89) (.c (.v (.bool true))) (.t 95), none⟩] []) <|
  .keep [7, 8, 96] []) <|
  .cond (.t 96) (.seq (.seq (.reg [⟨(some 4), .mov (.c (.v (.bool false))), none⟩] []) <|
  .keep [4] []) <|
  .ret) <|
  .skip) <|
  .keep [7, 8] []) <|
  .seq (.reg [⟨(some 43), .mov (.t 8), none⟩,
    ⟨(some 44), .bin .add (.t 43) (.c (.v (.int .i64 1))), none⟩,
    ⟨(some 8), .mov (.t 44), none⟩] []) <|
  .keep [7, 8] []) <|
  .keep [7, 8] []
def gantrylaw06_PolyDivides : CF := ⟨2, .seq (.seq (.reg [⟨(some 4), .mov (.c (.v (.bool false))), none⟩] []) <|
  .keep [0, 1] []) <|
  .seq (.seq (.reg [⟨(some 15), .mov (.t 0), none⟩,
    ⟨(some 16), .call n_gantryref06_Poly [(.t 15)] false, none⟩,
    ⟨(some 5), .mov (.t 16), none⟩] []) <|
  .keep [1, 5] []) <|
  .seq (.seq (.reg [⟨(some 17), .mov (.t 1), none⟩,
    ⟨(some 18), .call n_gantryref06_Poly [(.t 17)] false, none⟩,
    ⟨(some 6), .mov (.t 18), none⟩] []) <|
  .keep [5, 6] []) <|
  .seq (.seq (.reg [⟨(some 19), .mov (.t 5), none⟩,
    ⟨(some 20), .mov (.t 6), none⟩,
    ⟨(some 21), .lit 1 2 [.z true] [(0, (.t 19)), (1, (.t 20))] true, none⟩,
    ⟨(some 22), .mov (.t 6), none⟩,
    ⟨(some 23), .mov (.t 5), none⟩,
    ⟨(some 24), .lit 1 2 [.z true] [(0, (.t 22)), (1, (.t 23))] true, none⟩,
    ⟨(some 25), .mov (.t 5), none⟩,
    ⟨(some 26), .mov (.t 6), none⟩,
    ⟨(some 27), .call n_gantryref06_Mul [(.t 25), (.t 26)] false, none⟩,
    ⟨(some 28), .mov (.t 6), none⟩,
    ⟨(some 29), .lit 1 2 [.z true] [(0, (.t 27)), (1, (.t 28))] true, none⟩,
    ⟨(some 30), .mov (.t 5), none⟩,
    ⟨(some 31), .lit 1 2 [.z true] [(0, (.t 30)), (1, (.c (.z true)))] true, none⟩,
    ⟨(some 32), .mov (.t 6), none⟩,
    ⟨(some 33), .lit 1 2 [.z true] [(0, (.c (.z true))), (1, (.t 32))] true, none⟩,
    ⟨(some 34), .mov (.t 5), none⟩,
    ⟨(some 35), .mov (.t 5), none⟩,
    ⟨(some 36), .call n_gantryref06_Derive [(.t 35)] false, none⟩,
    ⟨(some 37), .lit 1 2 [.z true] [(0, (.t 34)), (1, (.t 36))] true, none⟩,
    ⟨(some 38), .lit 1 6 [.z true] [(0, (.t 21)), (1, (.t 24)), (2, (.t 29)), (3, (.t 31)), (4, (.t 33)), (5, (.t 37))] true, none⟩,
    ⟨(some 7), .mov (.t 38), none⟩] []) <|
  .keep [7] []) <|
  .seq (.seq (.seq (.reg [⟨(some 8), .mov (.c (.v (.int .i64 0))), none⟩] []) <|
  .keep [7, 8] []) <|
  .seq (.blk 0 <|
  .seq (.keep [7, 8] []) <|
  .loop gantrylaw06_PolyDivides_l0) <|
  .keep [] []) <|
  .seq (.seq (.reg [⟨(some 97), .call n_gantrylaw06_lives [] false, none⟩,
    ⟨(some 4), .mov (.t 97), none⟩] []) <|
  .keep [4] []) <|
  .ret, [.t 4]⟩

/- 4: gantry/gantrylaw06.PolyComputes -/
def gantrylaw06_PolyComputes_l0 : C :=
  .seq (.seq (.seq (.seq (.reg [⟨(some 36), .mov (.t 11), none⟩,
    ⟨(some 37), .mov (.t 10), none⟩,
    ⟨(some 38), .len (.t 37), none⟩,
    ⟨(some 39), .bin .lss (.t 36) (.t 38), none⟩] []) <|
  .keep [9, 10, 11, 39] [[9]]) <|
  .cond (.t 39) (.skip) <|
  .seq (.keep [] []) <|
  .exit 0) <|
  .seq (.seq (.blk 1 <|
  .seq (.seq (.reg [⟨(some 42), .mov (.t 10), none⟩,
    ⟨(some 43), .mov (.t 11), none⟩,
    ⟨(some 44), .ixa 1 (.t 42) (.t 43), none⟩,
    ⟨(some 45), .load none (.t 44), none⟩,
    ⟨(some 46), .ixa 1 (.t 45) (.c (.v (.int .i64 0))), none⟩,
    ⟨(some 47), .load none (.t 46), none⟩,
    ⟨(some 12), .mov (.t 47), none⟩] []) <|
  .keep [9, 10, 11, 12] [[9]]) <|
  .seq (.seq (.reg [⟨(some 48), .mov (.t 10), none⟩,
    ⟨(some 49), .mov (.t 11), none⟩,
    ⟨(some 50), .ixa 1 (.t 48) (.t 49), none⟩,
    ⟨(some 51), .load none (.t 50), none⟩,
    ⟨(some 52), .ixa 1 (.t 51) (.c (.v (.int .i64 1))), none⟩,
    ⟨(some 53), .load none (.t 52), none⟩,
    ⟨(some 13), .mov (.t 53), none⟩] []) <|
  .keep [9, 10, 11, 12, 13] [[9]]) <|
  .seq (.seq (.seq (.reg [⟨(some 54), .mov (.t 12), none⟩,
    ⟨(some 55), .mov (.t 13), none⟩,
    ⟨(some 56), .call n_poly_Add [(.t 54), (.t 55)] false, none⟩,
    ⟨(some 57), .mov (.t 12), none⟩,
    ⟨(some 58), .mov (.t 13), none⟩,
    ⟨(some 59), .call n_gantryref06_Add [(.t 57), (.t 58)] false, none⟩,
    ⟨(some 60), .call n_gantryref06_Same [(.t 56), (.t 59)] false, none⟩,
    ⟨(some 61), .un .not (.t 60), none⟩,
    ⟨(some 62), .mov (.t 61), none⟩,
    ⟨(some 63), .mov (.t 12), (some (62, false))⟩,
    ⟨(some 64), .mov (.t 13), (some (62, false))⟩,
    ⟨(some 65), .call n_poly_Sub [(.t 63), (.t 64)] false, (some (62, false))⟩,
    ⟨(some 66), .mov (.t 12), (some (62, false))⟩,
    ⟨(some 67), .mov (.t 13), (some (62, false))⟩,
    ⟨(some 68), .call n_gantryref06_Sub [(.t 66), (.t 67)] false, (some (62, false))⟩,
    ⟨(some 69), .call n_gantryref06_Same [(.t 65), (.t 68)] false, (some (62, false))⟩,
    ⟨(some 70), .un .not (.t 69), (some (62, false))⟩,
    ⟨(some 71), .pick (.t 62) (.c (.v (.bool true))) (.t 70), none⟩,
    ⟨(some 72), .mov (.t 71), none⟩,
    ⟨(some 73), .mov (.t 12), (some (72, false))⟩,
    ⟨(some 74), .mov (.t 13), (some (72, false))⟩,
    ⟨(some 75), .call n_poly_Mul [(.t 73), (.t 74)] false, (some (72, false))⟩,
    ⟨(some 76), .mov (.t 12), (some (72, false))⟩,
    ⟨(some 77), .mov (.t 13), (some (72, false))⟩,
    ⟨(some 78), .call n_gantryref06_Mul [(.t 76), (.t 77)] false, (some (72, false))⟩,
    ⟨(some 79), .call n_gantryref06_Same [(.t 75), (.t 78)] false, (some (72, false))⟩,
    ⟨(some 80), .un .not (.t 79), (some (72, false))⟩,
    ⟨(some 81), .pick (.t 72) (.c (.v (.bool true))) (.t 80), none⟩] []) <|
  .keep [9, 10, 11, 12, 81] [[9]]) <|
  .cond (.t 81) (.seq (.seq (.reg [⟨(some 6), .mov (.c (.v (.bool false))), none⟩] []) <|
  .keep [6] []) <|
  .ret) <|
  .skip) <|
  .seq (.seq (.reg [⟨(some 82), .mov (.t 12), none⟩,
    ⟨(some 83), .load (some 4) (.t 9), none⟩,
    ⟨(some 84), .call n_poly_Scale [(.t 82), (.t 83)] false, none⟩,
    ⟨(some 85), .mov (.t 12), none⟩,
    ⟨(some 86), .load (some 4) (.t 9), none⟩,
    ⟨(some 87), .call n_gantryref06_Scale [(.t 85), (.t 86)] false, none⟩,
    ⟨(some 88), .call n_gantryref06_Same [(.t 84), (.t 87)] false, none⟩,
    ⟨(some 89), .un .not (.t 88), none⟩,
    ⟨(some 90), .mov (.t 89), none⟩,
    ⟨(some 91), .mov (.t 12), (some (90, false))⟩,
    ⟨(some 92), .load (some 4) (.t 9), (some (90, false))⟩,
    ⟨(some 93), .call n_poly_Eval [(.t 91), (.t 92)] false, (some (90, false))⟩,
    ⟨(some 94), .mov (.t 12), (some (90, false))⟩,
    ⟨(some 95), .load (some 4) (.t 9), (some (90, false))⟩,
    ⟨(some 96), .call n_gantryref06_Eval [(.t 94), (.t 95)] false, (some (90, false))⟩,
    ⟨(some 97), .call n_gantryref05_Same [(.t 93), (.t 96)] false, (some (90, false))⟩,
    ⟨(some 98), .un .not (.t 97), (some (90, false))⟩,
    ⟨(some 99), .pick (.t 90) (.c (.v (.bool true))) (.t 98), none⟩,
    ⟨(some 100), .mov (.t 99), none⟩,
    ⟨(some 101), .mov (.t 12), (some (100, false))⟩,
    ⟨(some 102), .call n_poly_Derive [(.t 101)] false, (some (100, false))⟩,
    ⟨(some 103), .mov (.t 12), (some (100, false))⟩,
    ⟨(some 104), .call n_gantryref06_Derive [(.t 103)] false, (some (100, false))⟩,
    ⟨(some 105), .call n_gantryref06_Same [(.t 102), (.t 104)] false, (some (100, false))⟩,
    ⟨(some 106), .un .not (.t 105), (some (100, false))⟩,
    ⟨(some 107), .pick (.t 100) (.c (.v (.bool true))) (.t 106), none⟩,
    ⟨(some 108), .mov (.t 107), none⟩,
    ⟨(some 109), .mov (.t 12), (some (108, false))⟩,
    ⟨(some 110), .load (some 4) (.t 9), (some (108, false))⟩,
    ⟨(some 111), .call n_poly_Shift [(.t 109), (.t 110)] false, (some (108, false))⟩,
    ⟨(some 112), .mov (.t 12), (some (108, false))⟩,
    ⟨(some 113), .load (some 4) (.t 9), (some (108, false))⟩,
    ⟨(some 114), .call n_gantryref06_Shift [(.t 112), (.t 113)] false, (some (108, false))⟩,
    ⟨(some 115), .call n_gantryref06_Same [(.t 111), (.t 114)] false, (some (108, false))⟩,
    ⟨(some 116), .un .not (.t 115), (some (108, false))⟩,
    ⟨(some 117), .pick (.t 108) (.c (.v (.bool true))) (.t 116), none⟩] []) <|
  .keep [9, 10, 11, 117] [[9]]) <|
  .cond (.t 117) (.seq (.seq (.reg [⟨(some 6), .mov (.c (.v (.bool false))), none⟩] []) <|
  .keep [6] []) <|
  .ret) <|
  .skip) <|
  .keep [9, 10, 11] [[9]]) <|
  .seq (.reg [⟨(some 40), .mov (.t 11), none⟩,
    ⟨(some 41), .bin .add (.t 40) (.c (.v (.int .i64 1))), none⟩,
    ⟨(some 11), .mov (.t 41), none⟩] []) <|
  .keep [9, 10, 11] [[9]]) <|
  .keep [9, 10, 11] [[9]]
def gantrylaw06_PolyComputes : CF := ⟨3, .seq (.seq (.reg [⟨(some 6), .mov (.c (.v (.bool false))), none⟩] []) <|
  .keep [0, 1, 2] []) <|
  .seq (.seq (.reg [⟨(some 14), .mov (.t 0), none⟩,
    ⟨(some 15), .call n_gantryref06_Poly [(.t 14)] false, none⟩,
    ⟨(some 7), .mov (.t 15), none⟩] []) <|
  .keep [1, 2, 7] []) <|
  .seq (.seq (.reg [⟨(some 16), .mov (.t 1), none⟩,
    ⟨(some 17), .call n_gantryref06_Poly [(.t 16)] false, none⟩,
    ⟨(some 8), .mov (.t 17), none⟩] []) <|
  .keep [2, 7, 8] []) <|
  .seq (.seq (.reg [⟨(some 18), .mov (.t 2), none⟩,
    ⟨(some 19), .call n_gantryref06_Small [(.t 18)] false, none⟩,
    ⟨(some 9), .new [.v (.bool false), .z true, .v (.bool false), .z true], none⟩,
    ⟨none, .store 4 (.t 9) (.t 19), none⟩] []) <|
  .keep [7, 8, 9] [[9]]) <|
  .seq (.seq (.reg [⟨(some 20), .mov (.t 7), none⟩,
    ⟨(some 21), .mov (.t 8), none⟩,
    ⟨(some 22), .lit 1 2 [.z true] [(0, (.t 20)), (1, (.t 21))] true, none⟩,
    ⟨(some 23), .mov (.t 8), none⟩,
    ⟨(some 24), .mov (.t 7), none⟩,
    ⟨(some 25), .lit 1 2 [.z true] [(0, (.t 23)), (1, (.t 24))] true, none⟩,
    ⟨(some 26), .mov (.t 7), none⟩,
    ⟨(some 27), .lit 1 2 [.z true] [(0, (.t 26)), (1, (.c (.z true)))] true, none⟩,
    ⟨(some 28), .mov (.t 8), none⟩,
    ⟨(some 29), .lit 1 2 [.z true] [(0, (.c (.z true))), (1, (.t 28))] true, none⟩,
    ⟨(some 30), .mov (.t 7), none⟩,
    ⟨(some 31), .mov (.t 7), none⟩,
    ⟨(some 32), .call n_gantryref05_Of [(.c (.v (.int .i64 (-1)))), (.c (.v (.int .i64 1)))] false, none⟩,
    ⟨(some 33), .call n_gantryref06_Scale [(.t 31), (.t 32)] false, none⟩,
    ⟨(some 34), .lit 1 2 [.z true] [(0, (.t 30)), (1, (.t 33))] true, none⟩,
    ⟨(some 35), .lit 1 5 [.z true] [(0, (.t 22)), (1, (.t 25)), (2, (.t 27)), (3, (.t 29)), (4, (.t 34))] true, none⟩,
    ⟨(some 10), .mov (.t 35), none⟩] []) <|
  .keep [9, 10] [[9]]) <|
  .seq (.seq (.seq (.reg [⟨(some 11), .mov (.c (.v (.int .i64 0))), none⟩] []) <|
  .keep [9, 10, 11] [[9]]) <|
  .seq (.blk 0 <|
  .seq (.keep [9, 10, 11] [[9]]) <|
  .loop gantrylaw06_PolyComputes_l0) <|
  .keep [] []) <|
  .seq (.seq (.reg [⟨(some 118), .call n_gantrylaw06_lives [] false, none⟩,
    ⟨(some 6), .mov (.t 118), none⟩] []) <|
  .keep [6] []) <|
  .ret, [.t 6]⟩

/- 5: gantry/gantrylaw06.PolyRing -/
def gantrylaw06_PolyRing : CF := ⟨4, .seq (.seq (.reg [⟨(some 8), .mov (.c (.v (.bool false))), none⟩] []) <|
  .keep [0, 1, 2, 3] []) <|
  .seq (.seq (.reg [⟨(some 16), .mov (.t 0), none⟩,
    ⟨(some 17), .call n_gantryref06_Poly [(.t 16)] false, none⟩,
    ⟨(some 9), .mov (.t 17), none⟩] []) <|
  .keep [1, 2, 3, 9] []) <|
  .seq (.seq (.reg [⟨(some 18), .mov (.t 1), none⟩,
    ⟨(some 19), .call n_gantryref06_Poly [(.t 18)] false, none⟩,
    ⟨(some 10), .mov (.t 19), none⟩] []) <|
  .keep [2, 3, 9, 10] []) <|
  .seq (.seq (.reg [⟨(some 20), .mov (.t 2), none⟩,
    ⟨(some 21), .call n_gantryref06_Poly [(.t 20)] false, none⟩,
    ⟨(some 11), .mov (.t 21), none⟩] []) <|
  .keep [3, 9, 10, 11] []) <|
  .seq (.seq (.reg [⟨(some 22), .mov (.t 3), none⟩,
    ⟨(some 23), .call n_gantryref06_Small [(.t 22)] false, none⟩,
    ⟨(some 12), .new [.v (.bool false), .z true, .v (.bool false), .z true], none⟩,
    ⟨none, .store 4 (.t 12) (.t 23), none⟩] []) <|
  .keep [9, 10, 11, 12] [[12]]) <|
  .seq (.seq (.reg [⟨(some 24), .mov (.t 9), none⟩,
    ⟨(some 25), .mov (.t 10), none⟩,
    ⟨(some 26), .call n_poly_Add [(.t 24), (.t 25)] false, none⟩,
    ⟨(some 27), .mov (.t 10), none⟩,
    ⟨(some 28), .mov (.t 9), none⟩,
    ⟨(some 29), .call n_poly_Add [(.t 27), (.t 28)] false, none⟩,
    ⟨(some 30), .call n_gantryref06_Same [(.t 26), (.t 29)] false, none⟩,
    ⟨(some 31), .mov (.t 30), none⟩,
    ⟨(some 32), .mov (.t 9), (some (31, true))⟩,
    ⟨(some 33), .mov (.t 10), (some (31, true))⟩,
    ⟨(some 34), .call n_poly_Add [(.t 32), (.t 33)] false, (some (31, true))⟩,
    ⟨(some 35), .mov (.t 11), (some (31, true))⟩,
    ⟨(some 36), .call n_poly_Add [(.t 34), (.t 35)] false, (some (31, true))⟩,
    ⟨(some 37), .mov (.t 9), (some (31, true))⟩,
    ⟨(some 38), .mov (.t 10), (some (31, true))⟩,
    ⟨(some 39), .mov (.t 11), (some (31, true))⟩,
    ⟨(some 40), .call n_poly_Add [(.t 38), (.t 39)] false, (some (31, true))⟩,
    ⟨(some 41), .call n_poly_Add [(.t 37), (.t 40)] false, (some (31, true))⟩,
    ⟨(some 42), .call n_gantryref06_Same [(.t 36), (.t 41)] false, (some (31, true))⟩,
    ⟨(some 43), .pick (.t 31) (.t 42) (.c (.v (.bool false))), none⟩,
    ⟨(some 44), .mov (.t 43), none⟩,
    ⟨(some 45), .mov (.t 9), (some (44, true))⟩,
    ⟨(some 46), .mov (.t 10), (some (44, true))⟩,
    ⟨(some 47), .call n_poly_Add [(.t 45), (.t 46)] false, (some (44, true))⟩,
    ⟨(some 48), .mov (.t 10), (some (44, true))⟩,
    ⟨(some 49), .call n_poly_Sub [(.t 47), (.t 48)] false, (some (44, true))⟩,
    ⟨(some 50), .mov (.t 9), (some (44, true))⟩,
    ⟨(some 51), .call n_gantryref06_Same [(.t 49), (.t 50)] false, (some (44, true))⟩,
    ⟨(some 52), .pick (.t 44) (.t 51) (.c (.v (.bool false))), none⟩,
    ⟨(some 13), .mov (.t 52), none⟩] []) <|
  .keep [9, 10, 11, 12, 13] [[12]]) <|
  .seq (.seq (.reg [⟨(some 53), .mov (.t 9), none⟩,
    ⟨(some 54), .mov (.t 10), none⟩,
    ⟨(some 55), .call n_poly_Mul [(.t 53), (.t 54)] false, none⟩,
    ⟨(some 56), .mov (.t 10), none⟩,
    ⟨(some 57), .mov (.t 9), none⟩,
    ⟨(some 58), .call n_poly_Mul [(.t 56), (.t 57)] false, none⟩,
    ⟨(some 59), .call n_gantryref06_Same [(.t 55), (.t 58)] false, none⟩,
    ⟨(some 60), .mov (.t 59), none⟩,
    ⟨(some 61), .mov (.t 9), (some (60, true))⟩,
    ⟨(some 62), .mov (.t 10), (some (60, true))⟩,
    ⟨(some 63), .call n_poly_Mul [(.t 61), (.t 62)] false, (some (60, true))⟩,
    ⟨(some 64), .mov (.t 11), (some (60, true))⟩,
    ⟨(some 65), .call n_poly_Mul [(.t 63), (.t 64)] false, (some (60, true))⟩,
    ⟨(some 66), .mov (.t 9), (some (60, true))⟩,
    ⟨(some 67), .mov (.t 10), (some (60, true))⟩,
    ⟨(some 68), .mov (.t 11), (some (60, true))⟩,
    ⟨(some 69), .call n_poly_Mul [(.t 67), (.t 68)] false, (some (60, true))⟩,
    ⟨(some 70), .call n_poly_Mul [(.t 66), (.t 69)] false, (some (60, true))⟩,
    ⟨(some 71), .call n_gantryref06_Same [(.t 65), (.t 70)] false, (some (60, true))⟩,
    ⟨(some 72), .pick (.t 60) (.t 71) (.c (.v (.bool false))), none⟩,
    ⟨(some 73), .mov (.t 72), none⟩,
    ⟨(some 74), .mov (.t 9), (some (73, true))⟩,
    ⟨(some 75), .mov (.t 10), (some (73, true))⟩,
    ⟨(some 76), .mov (.t 11), (some (73, true))⟩,
    ⟨(some 77), .call n_poly_Add [(.t 75), (.t 76)] false, (some (73, true))⟩,
    ⟨(some 78), .call n_poly_Mul [(.t 74), (.t 77)] false, (some (73, true))⟩,
    ⟨(some 79), .mov (.t 9), (some (73, true))⟩,
    ⟨(some 80), .mov (.t 10), (some (73, true))⟩,
    ⟨(some 81), .call n_poly_Mul [(.t 79), (.t 80)] false, (some (73, true))⟩,
    ⟨(some 82), .mov (.t 9), (some (73, true))⟩,
    ⟨(some 83), .mov (.t 11), (some (73, true))⟩,
    ⟨(some 84), .call n_poly_Mul [(.t 82), (.t 83)] false, (some (73, true))⟩,
    ⟨(some 85), .call n_poly_Add [(.t 81), (.t 84)] false, (some (73, true))⟩,
    ⟨(some 86), .call n_gantryref06_Same [(.t 78), (.t 85)] false, (some (73, true))⟩,
    ⟨(some 87), .pick (.t 73) (.t 86) (.c (.v (.bool false))), none⟩,
    ⟨(some 14), .mov (.t 87), none⟩] []) <|
  .keep [9, 10, 12, 13, 14] [[12]]) <|
  .seq (.seq (.reg [⟨(some 88), .mov (.t 9), none⟩,
    ⟨(some 89), .mov (.t 10), none⟩,
    ⟨(some 90), .call n_poly_Add [(.t 88), (.t 89)] false, none⟩,
    ⟨(some 91), .load (some 4) (.t 12), none⟩,
    ⟨(some 92), .call n_poly_Eval [(.t 90), (.t 91)] false, none⟩,
    ⟨(some 93), .mov (.t 9), none⟩,
    ⟨(some 94), .load (some 4) (.t 12), none⟩,
    ⟨(some 95), .call n_poly_Eval [(.t 93), (.t 94)] false, none⟩,
    ⟨(some 96), .mov (.t 10), none⟩,
    ⟨(some 97), .load (some 4) (.t 12), none⟩,
    ⟨(some 98), .call n_poly_Eval [(.t 96), (.t 97)] false, none⟩,
    ⟨(some 99), .call n_rat_Add [(.t 95), (.t 98)] false, none⟩,
    ⟨(some 100), .call n_rat_Same [(.t 92), (.t 99)] false, none⟩,
    ⟨(some 101), .mov (.t 100), none⟩,
    ⟨(some 102), .mov (.t 9), (some (101, true))⟩,
    ⟨(some 103), .mov (.t 10), (some (101, true))⟩,
    ⟨(some 104), .call n_poly_Mul [(.t 102), (.t 103)] false, (some (101, true))⟩,
    ⟨(some 105), .load (some 4) (.t 12), (some (101, true))⟩,
    ⟨(some 106), .call n_poly_Eval [(.t 104), (.t 105)] false, (some (101, true))⟩,
    ⟨(some 107), .mov (.t 9), (some (101, true))⟩,
    ⟨(some 108), .load (some 4) (.t 12), (some (101, true))⟩,
    ⟨(some 109), .call n_poly_Eval [(.t 107), (.t 108)] false, (some (101, true))⟩,
    ⟨(some 110), .mov (.t 10), (some (101, true))⟩,
    ⟨(some 111), .load (some 4) (.t 12), (some (101, true))⟩,
    ⟨(some 112), .call n_poly_Eval [(.t 110), (.t 111)] false, (some (101, true))⟩,
    ⟨(some 113), .call n_rat_Mul [(.t 109), (.t 112)] false, (some (101, true))⟩,
    ⟨(some 114), .call n_rat_Same [(.t 106), (.t 113)] false, (some (101, true))⟩,
    ⟨(some 115), .pick (.t 101) (.t 114) (.c (.v (.bool false))), none⟩,
    ⟨(some 15), .mov (.t 115), none⟩] []) <|
  .keep [13, 14, 15] []) <|
  .seq (.seq (.reg [⟨(some 116), .mov (.t 13), none⟩,
    ⟨(some 117), .mov (.t 116), none⟩,
    ⟨(some 118), .mov (.t 14), (some (117, true))⟩,
    ⟨(some 119), .pick (.t 117) (.t 118) (.c (.v (.bool false))), none⟩,
    ⟨(some 120), .mov (.t 119), none⟩,
    ⟨(some 121), .mov (.t 15), (some (120, true))⟩,
    ⟨(some 122), .pick (.t 120) (.t 121) (.c (.v (.bool false))), none⟩,
    ⟨(some 123), .mov (.t 122), none⟩,
    ⟨(some 124), .call n_gantrylaw06_lives [] false, (some (123, true))⟩,
    ⟨(some 125), .pick (.t 123) (.t 124) (.c (.v (.bool false))), none⟩,
    ⟨(some 8), .mov (.t 125), none⟩] []) <|
  .keep [8] []) <|
  .ret, [.t 8]⟩

/- 7: gantry/gantryref06.Poly -/
def gantryref06_Poly_l0 : C :=
  .seq (.seq (.seq (.seq (.reg [⟨(some 11), .mov (.t 4), none⟩,
    ⟨(some 12), .mov (.t 0), none⟩,
    ⟨(some 13), .len (.t 12), none⟩,
    ⟨(some 14), .bin .lss (.t 11) (.t 13), none⟩,
    ⟨(some 15), .mov (.t 14), none⟩,
    ⟨(some 16), .mov (.t 4), (some (15, true))⟩,
    ⟨(some 17), .bin .lss (.t 16) (.c (.v (.int .i64 6))), (some (15, true))⟩,
    ⟨(some 18), .pick (.t 15) (.t 17) (.c (.v (.bool false))), none⟩] []) <|
  .keep [0, 3, 4, 18] [[28]]) <|
  .cond (.t 18) (.skip) <|
  .seq (.keep [3] [[28]]) <|
  .exit 0) <|
  .seq (.seq (.blk 1 <|
  .seq (.reg [⟨(some 21), .mov (.t 3), none⟩,
    ⟨(some 22), .mov (.t 0), none⟩,
    ⟨(some 23), .mov (.t 4), none⟩,
    ⟨(some 24), .ixa 1 (.t 22) (.t 23), none⟩,
    ⟨(some 25), .load none (.t 24), none⟩,
    ⟨(some 26), .call n_gantryref06_Small [(.t 25)] false, none⟩,
    ⟨(some 27), .lit 4 1 [.v (.bool false), .z true, .v (.bool false), .z true] [(0, (.t 26))] true, none⟩,
    ⟨(some 28), .app 4 64 (.t 21) (.t 27) false, none⟩,
    ⟨(some 3), .mov (.t 28), none⟩] []) <|
  .keep [0, 3, 4] [[28]]) <|
  .keep [0, 3, 4] [[28]]) <|
  .seq (.reg [⟨(some 19), .mov (.t 4), none⟩,
    ⟨(some 20), .bin .add (.t 19) (.c (.v (.int .i64 1))), none⟩,
    ⟨(some 4), .mov (.t 20), none⟩] []) <|
  .keep [0, 3, 4] [[28]]) <|
  .keep [0, 3, 4] [[28]]
def gantryref06_Poly_l1 : C :=
  .seq (.seq (.seq (.seq (.reg [⟨(some 37), .mov (.t 6), none⟩,
    ⟨(some 38), .mov (.t 0), none⟩,
    ⟨(some 39), .len (.t 38), none⟩,
    ⟨(some 40), .bin .lss (.t 37) (.t 39), none⟩,
    ⟨(some 41), .mov (.t 40), none⟩,
    ⟨(some 42), .mov (.t 6), (some (41, true))⟩,
    ⟨(some 43), .bin .lss (.t 42) (.c (.v (.int .i64 5))), (some (41, true))⟩,
    ⟨(some 44), .pick (.t 41) (.t 43) (.c (.v (.bool false))), none⟩] []) <|
  .keep [0, 5, 6, 44] []) <|
  .cond (.t 44) (.skip) <|
  .seq (.keep [5] []) <|
  .exit 2) <|
  .seq (.seq (.blk 3 <|
  .seq (.seq (.reg [⟨(some 47), .mov (.t 0), none⟩,
    ⟨(some 48), .mov (.t 6), none⟩,
    ⟨(some 49), .ixa 1 (.t 47) (.t 48), none⟩,
    ⟨(some 50), .load none (.t 49), none⟩,
    ⟨(some 51), .call n_gantryref06_Small [(.t 50)] false, none⟩,
    ⟨(some 52), .call n_gantryref05_Neg [(.t 51)] false, none⟩,
    ⟨(some 53), .call n_gantryref05_Of [(.c (.v (.int .i64 1))), (.c (.v (.int .i64 1)))] false, none⟩,
    ⟨(some 54), .lit 4 2 [.v (.bool false), .z true, .v (.bool false), .z true] [(0, (.t 52)), (1, (.t 53))] true, none⟩,
    ⟨(some 7), .mov (.t 54), none⟩] []) <|
  .keep [0, 5, 6, 7] []) <|
  .seq (.seq (.seq (.reg [⟨(some 55), .mov (.t 0), none⟩,
    ⟨(some 56), .mov (.t 6), none⟩,
    ⟨(some 57), .ixa 1 (.t 55) (.t 56), none⟩,
    ⟨(some 58), .load none (.t 57), none⟩,
    ⟨(some 59), .bin .rem (.t 58) (.c (.v (.int .i64 7))), none⟩,
    ⟨(some 60), .bin .eql (.t 59) (.c (.v (.int .i64 3))), none⟩,
    ⟨(some 61), .mov (.t 60), none⟩,
    ⟨(some 62), .mov (.t 6), (some (61, true))⟩,
    ⟨(some 63), .bin .lss (.t 62) (.c (.v (.int .i64 4))), (some (61, true))⟩,
    ⟨(some 64), .pick (.t 61) (.t 63) (.c (.v (.bool false))), none⟩,
    ⟨(some 65), .mov (.t 64), none⟩,
    ⟨(some 66), .mov (.t 5), (some (65, true))⟩,
    ⟨(some 67), .len (.t 66), (some (65, true))⟩,
    ⟨(some 68), .bin .lss (.t 67) (.c (.v (.int .i64 4))), (some (65, true))⟩,
    ⟨(some 69), .pick (.t 65) (.t 68) (.c (.v (.bool false))), none⟩] []) <|
  .keep [0, 5, 6, 7, 69] []) <|
  .cond (.t 69) (.seq (.reg [⟨(some 70), .mov (.t 0), none⟩,
    ⟨(some 71), .mov (.t 6), none⟩,
    ⟨(some 72), .ixa 1 (.t 70) (.t 71), none⟩,
    ⟨(some 73), .load none (.t 72), none⟩,
    ⟨(some 74), .bin .quo (.t 73) (.c (.v (.int .i64 7))), none⟩,
    ⟨(some 75), .call n_gantryref06_Small [(.t 74)] false, none⟩,
    ⟨(some 76), .mov (.t 0), none⟩,
    ⟨(some 77), .mov (.t 6), none⟩,
    ⟨(some 78), .ixa 1 (.t 76) (.t 77), none⟩,
    ⟨(some 79), .load none (.t 78), none⟩,
    ⟨(some 80), .bin .quo (.t 79) (.c (.v (.int .i64 3))), none⟩,
    ⟨(some 81), .call n_gantryref06_Small [(.t 80)] false, none⟩,
    ⟨(some 82), .call n_gantryref05_Of [(.c (.v (.int .i64 1))), (.c (.v (.int .i64 1)))] false, none⟩,
    ⟨(some 83), .lit 4 3 [.v (.bool false), .z true, .v (.bool false), .z true] [(0, (.t 75)), (1, (.t 81)), (2, (.t 82))] true, none⟩,
    ⟨(some 7), .mov (.t 83), none⟩] []) <|
  .keep [0, 5, 6, 7] []) <|
  .skip) <|
  .seq (.reg [⟨(some 84), .mov (.t 5), none⟩,
    ⟨(some 85), .mov (.t 7), none⟩,
    ⟨(some 86), .call n_gantryref06_Trim [(.t 85)] false, none⟩,
    ⟨(some 87), .call n_gantryref06_Mul [(.t 84), (.t 86)] false, none⟩,
    ⟨(some 5), .mov (.t 87), none⟩] []) <|
  .keep [0, 5, 6] []) <|
  .keep [0, 5, 6] []) <|
  .seq (.reg [⟨(some 45), .mov (.t 6), none⟩,
    ⟨(some 46), .bin .add (.t 45) (.c (.v (.int .i64 1))), none⟩,
    ⟨(some 6), .mov (.t 46), none⟩] []) <|
  .keep [0, 5, 6] []) <|
  .keep [0, 5, 6] []
def gantryref06_Poly : CF := ⟨1, .seq (.seq (.reg [⟨(some 2), .mov (.c (.z true)), none⟩] []) <|
  .keep [0] []) <|
  .seq (.seq (.seq (.reg [⟨(some 8), .mov (.t 0), none⟩,
    ⟨(some 9), .call n_gantryref01_At [(.t 8), (.c (.v (.int .i64 0))), (.c (.v (.int .i64 3)))] false, none⟩,
    ⟨(some 10), .bin .eql (.t 9) (.c (.v (.int .i64 0))), none⟩] []) <|
  .keep [0, 10] []) <|
  .cond (.t 10) (.seq (.seq (.reg [⟨(some 3), .mov (.c (.z true)), none⟩] []) <|
  .keep [0, 3] [[28]]) <|
  .seq (.seq (.seq (.reg [⟨(some 4), .mov (.c (.v (.int .i64 1))), none⟩] []) <|
  .keep [0, 3, 4] [[28]]) <|
  .seq (.blk 0 <|
  .seq (.keep [0, 3, 4] [[28]]) <|
  .loop gantryref06_Poly_l0) <|
  .keep [3] [[28]]) <|
  .seq (.seq (.frz 3) <|
  .seq (.reg [⟨(some 29), .mov (.t 3), none⟩,
    ⟨(some 30), .call n_gantryref06_Trim [(.t 29)] false, none⟩,
    ⟨(some 2), .mov (.t 30), none⟩] []) <|
  .keep [2] []) <|
  .ret) <|
  .skip) <|
  .seq (.seq (.reg [⟨(some 31), .mov (.t 0), none⟩,
    ⟨(some 32), .call n_gantryref01_At [(.t 31), (.c (.v (.int .i64 1))), (.c (.v (.int .i64 5)))] false, none⟩,
    ⟨(some 33), .bin .add (.c (.v (.int .i64 1))) (.t 32), none⟩,
    ⟨(some 34), .call n_gantryref05_Of [(.t 33), (.c (.v (.int .i64 1)))] false, none⟩,
    ⟨(some 35), .lit 4 1 [.v (.bool false), .z true, .v (.bool false), .z true] [(0, (.t 34))] true, none⟩,
    ⟨(some 36), .call n_gantryref06_Trim [(.t 35)] false, none⟩,
    ⟨(some 5), .mov (.t 36), none⟩] []) <|
  .keep [0, 5] []) <|
  .seq (.seq (.seq (.reg [⟨(some 6), .mov (.c (.v (.int .i64 2))), none⟩] []) <|
  .keep [0, 5, 6] []) <|
  .seq (.blk 2 <|
  .seq (.keep [0, 5, 6] []) <|
  .loop gantryref06_Poly_l1) <|
  .keep [5] []) <|
  .seq (.seq (.reg [⟨(some 88), .mov (.t 5), none⟩,
    ⟨(some 2), .mov (.t 88), none⟩] []) <|
  .keep [2] []) <|
  .ret, [.t 2]⟩

/- 8: gantry/gantryref06.Mul -/
def gantryref06_Mul_l0 : C :=
  .seq (.seq (.seq (.seq (.reg [⟨(some 29), .mov (.t 7), none⟩,
    ⟨(some 30), .mov (.t 1), none⟩,
    ⟨(some 31), .len (.t 30), none⟩,
    ⟨(some 32), .bin .lss (.t 29) (.t 31), none⟩] []) <|
  .keep [0, 1, 5, 6, 7, 32] [[22]]) <|
  .cond (.t 32) (.skip) <|
  .seq (.keep [0, 1, 5, 6] [[22]]) <|
  .exit 2) <|
  .seq (.seq (.blk 3 <|
  .seq (.reg [⟨(some 35), .mov (.t 5), none⟩,
    ⟨(some 36), .mov (.t 6), none⟩,
    ⟨(some 37), .mov (.t 7), none⟩,
    ⟨(some 38), .bin .add (.t 36) (.t 37), none⟩,
    ⟨(some 39), .mov (.t 5), none⟩,
    ⟨(some 40), .mov (.t 6), none⟩,
    ⟨(some 41), .mov (.t 7), none⟩,
    ⟨(some 42), .bin .add (.t 40) (.t 41), none⟩,
    ⟨(some 43), .ixa 4 (.t 39) (.t 42), none⟩,
    ⟨(some 44), .load (some 4) (.t 43), none⟩,
    ⟨(some 45), .mov (.t 0), none⟩,
    ⟨(some 46), .mov (.t 6), none⟩,
    ⟨(some 47), .ixa 4 (.t 45) (.t 46), none⟩,
    ⟨(some 48), .load (some 4) (.t 47), none⟩,
    ⟨(some 49), .mov (.t 1), none⟩,
    ⟨(some 50), .mov (.t 7), none⟩,
    ⟨(some 51), .ixa 4 (.t 49) (.t 50), none⟩,
    ⟨(some 52), .load (some 4) (.t 51), none⟩,
    ⟨(some 53), .call n_gantryref05_Mul [(.t 48), (.t 52)] false, none⟩,
    ⟨(some 54), .call n_gantryref05_Add [(.t 44), (.t 53)] false, none⟩,
    ⟨(some 55), .ixa 4 (.t 35) (.t 38), none⟩,
    ⟨none, .store 4 (.t 55) (.t 54), none⟩] []) <|
  .keep [0, 1, 5, 6, 7] [[22]]) <|
  .keep [0, 1, 5, 6, 7] [[22]]) <|
  .seq (.reg [⟨(some 33), .mov (.t 7), none⟩,
    ⟨(some 34), .bin .add (.t 33) (.c (.v (.int .i64 1))), none⟩,
    ⟨(some 7), .mov (.t 34), none⟩] []) <|
  .keep [0, 1, 5, 6, 7] [[22]]) <|
  .keep [0, 1, 5, 6, 7] [[22]]
def gantryref06_Mul_l1 : C :=
  .seq (.seq (.seq (.seq (.reg [⟨(some 23), .mov (.t 6), none⟩,
    ⟨(some 24), .mov (.t 0), none⟩,
    ⟨(some 25), .len (.t 24), none⟩,
    ⟨(some 26), .bin .lss (.t 23) (.t 25), none⟩] []) <|
  .keep [0, 1, 5, 6, 26] [[22]]) <|
  .cond (.t 26) (.skip) <|
  .seq (.keep [5] [[22]]) <|
  .exit 0) <|
  .seq (.seq (.blk 1 <|
  .seq (.seq (.reg [⟨(some 7), .mov (.c (.v (.int .i64 0))), none⟩] []) <|
  .keep [0, 1, 5, 6, 7] [[22]]) <|
  .seq (.blk 2 <|
  .seq (.keep [0, 1, 5, 6, 7] [[22]]) <|
  .loop gantryref06_Mul_l0) <|
  .keep [0, 1, 5, 6] [[22]]) <|
  .keep [0, 1, 5, 6] [[22]]) <|
  .seq (.reg [⟨(some 27), .mov (.t 6), none⟩,
    ⟨(some 28), .bin .add (.t 27) (.c (.v (.int .i64 1))), none⟩,
    ⟨(some 6), .mov (.t 28), none⟩] []) <|
  .keep [0, 1, 5, 6] [[22]]) <|
  .keep [0, 1, 5, 6] [[22]]
def gantryref06_Mul : CF := ⟨2, .seq (.seq (.reg [⟨(some 4), .mov (.c (.z true)), none⟩] []) <|
  .keep [0, 1] []) <|
  .seq (.seq (.seq (.reg [⟨(some 8), .mov (.t 0), none⟩,
    ⟨(some 9), .len (.t 8), none⟩,
    ⟨(some 10), .bin .eql (.t 9) (.c (.v (.int .i64 0))), none⟩,
    ⟨(some 11), .mov (.t 10), none⟩,
    ⟨(some 12), .mov (.t 1), (some (11, false))⟩,
    ⟨(some 13), .len (.t 12), (some (11, false))⟩,
    ⟨(some 14), .bin .eql (.t 13) (.c (.v (.int .i64 0))), (some (11, false))⟩,
    ⟨(some 15), .pick (.t 11) (.c (.v (.bool true))) (.t 14), none⟩] []) <|
  .keep [0, 1, 15] []) <|
  .cond (.t 15) (.seq (.seq (.reg [⟨(some 4), .mov (.c (.z true)), none⟩] []) <|
  .keep [4] []) <|
  .ret) <|
  .skip) <|
  .seq (.seq (.reg [⟨(some 16), .mov (.t 0), none⟩,
    ⟨(some 17), .len (.t 16), none⟩,
    ⟨(some 18), .mov (.t 1), none⟩,
    ⟨(some 19), .len (.t 18), none⟩,
    ⟨(some 20), .bin .add (.t 17) (.t 19), none⟩,
    ⟨(some 21), .bin .sub (.t 20) (.c (.v (.int .i64 1))), none⟩,
    ⟨(some 22), .mksl 4 64 [.v (.bool false), .z true, .v (.bool false), .z true] (.t 21) (.t 21), none⟩,
    ⟨(some 5), .mov (.t 22), none⟩] []) <|
  .keep [0, 1, 5] [[22]]) <|
  .seq (.seq (.seq (.reg [⟨(some 6), .mov (.c (.v (.int .i64 0))), none⟩] []) <|
  .keep [0, 1, 5, 6] [[22]]) <|
  .seq (.blk 0 <|
  .seq (.keep [0, 1, 5, 6] [[22]]) <|
  .loop gantryref06_Mul_l1) <|
  .keep [5] [[22]]) <|
  .seq (.seq (.frz 5) <|
  .seq (.reg [⟨(some 56), .mov (.t 5), none⟩,
    ⟨(some 57), .call n_gantryref06_Trim [(.t 56)] false, none⟩,
    ⟨(some 4), .mov (.t 57), none⟩] []) <|
  .keep [4] []) <|
  .ret, [.t 4]⟩

/- 9: gantry/gantryref06.Derive -/
def gantryref06_Derive_l0 : C :=
  .seq (.seq (.seq (.seq (.reg [⟨(some 5), .mov (.t 4), none⟩,
    ⟨(some 6), .mov (.t 0), none⟩,
    ⟨(some 7), .len (.t 6), none⟩,
    ⟨(some 8), .bin .lss (.t 5) (.t 7), none⟩] []) <|
  .keep [0, 3, 4, 8] [[20]]) <|
  .cond (.t 8) (.skip) <|
  .seq (.keep [3] [[20]]) <|
  .exit 0) <|
  .seq (.seq (.blk 1 <|
  .seq (.reg [⟨(some 11), .mov (.t 3), none⟩,
    ⟨(some 12), .mov (.t 0), none⟩,
    ⟨(some 13), .mov (.t 4), none⟩,
    ⟨(some 14), .ixa 4 (.t 12) (.t 13), none⟩,
    ⟨(some 15), .load (some 4) (.t 14), none⟩,
    ⟨(some 16), .mov (.t 4), none⟩,
    ⟨(some 17), .call n_gantryref05_Of [(.t 16), (.c (.v (.int .i64 1)))] false, none⟩,
    ⟨(some 18), .call n_gantryref05_Mul [(.t 15), (.t 17)] false, none⟩,
    ⟨(some 19), .lit 4 1 [.v (.bool false), .z true, .v (.bool false), .z true] [(0, (.t 18))] true, none⟩,
    ⟨(some 20), .app 4 64 (.t 11) (.t 19) false, none⟩,
    ⟨(some 3), .mov (.t 20), none⟩] []) <|
  .keep [0, 3, 4] [[20]]) <|
  .keep [0, 3, 4] [[20]]) <|
  .seq (.reg [⟨(some 9), .mov (.t 4), none⟩,
    ⟨(some 10), .bin .add (.t 9) (.c (.v (.int .i64 1))), none⟩,
    ⟨(some 4), .mov (.t 10), none⟩] []) <|
  .keep [0, 3, 4] [[20]]) <|
  .keep [0, 3, 4] [[20]]
def gantryref06_Derive : CF := ⟨1, .seq (.seq (.reg [⟨(some 2), .mov (.c (.z true)), none⟩] []) <|
  .keep [0] []) <|
  .seq (.seq (.reg [⟨(some 3), .mov (.c (.z true)), none⟩] []) <|
  .keep [0, 3] [[20]]) <|
  .seq (.seq (.seq (.reg [⟨(some 4), .mov (.c (.v (.int .i64 1))), none⟩] []) <|
  .keep [0, 3, 4] [[20]]) <|
  .seq (.blk 0 <|
  .seq (.keep [0, 3, 4] [[20]]) <|
  .loop gantryref06_Derive_l0) <|
  .keep [3] [[20]]) <|
  .seq (.seq (.frz 3) <|
  .seq (.reg [⟨(some 21), .mov (.t 3), none⟩,
    ⟨(some 22), .call n_gantryref06_Trim [(.t 21)] false, none⟩,
    ⟨(some 2), .mov (.t 22), none⟩] []) <|
  .keep [2] []) <|
  .ret, [.t 2]⟩

/- 10: gantry/poly.Div -/
def poly_Div_l0 : C :=
  .seq (.seq (.seq (.reg [⟨(some 56), .bin .lss (.t 55) (.t 54), none⟩] []) <|
  .keep [1, 6, 7, 8, 9, 53, 54, 55, 56] [[9], [16], [24]]) <|
  .seq (.cond (.t 56) (.skip) <|
  .seq (.keep [1, 6, 7, 8] [[16], [24]]) <|
  .exit 2) <|
  .seq (.seq (.blk 3 <|
  .seq (.seq (.reg [⟨(some 57), .mov (.t 55), none⟩,
    ⟨(some 58), .ixa 4 (.t 53) (.t 55), none⟩,
    ⟨(some 59), .load (some 4) (.t 58), none⟩,
    ⟨(some 11), .new [.v (.bool false), .z true, .v (.bool false), .z true], none⟩,
    ⟨(some 10), .mov (.t 57), none⟩,
    ⟨none, .store 4 (.t 11) (.t 59), none⟩] []) <|
  .keep [1, 6, 7, 8, 9, 10, 11, 53, 54, 55] [[9], [11], [16], [24]]) <|
  .seq (.reg [⟨(some 60), .mov (.t 6), none⟩,
    ⟨(some 61), .mov (.t 8), none⟩,
    ⟨(some 62), .mov (.t 10), none⟩,
    ⟨(some 63), .bin .add (.t 61) (.t 62), none⟩,
    ⟨(some 64), .mov (.t 6), none⟩,
    ⟨(some 65), .mov (.t 8), none⟩,
    ⟨(some 66), .mov (.t 10), none⟩,
    ⟨(some 67), .bin .add (.t 65) (.t 66), none⟩,
    ⟨(some 68), .ixa 4 (.t 64) (.t 67), none⟩,
    ⟨(some 69), .load (some 4) (.t 68), none⟩,
    ⟨(some 70), .load (some 4) (.t 9), none⟩,
    ⟨(some 71), .load (some 4) (.t 11), none⟩,
    ⟨(some 72), .call n_rat_Mul [(.t 70), (.t 71)] false, none⟩,
    ⟨(some 73), .call n_rat_Sub [(.t 69), (.t 72)] false, none⟩,
    ⟨(some 74), .ixa 4 (.t 60) (.t 63), none⟩,
    ⟨none, .store 4 (.t 74) (.t 73), none⟩] []) <|
  .keep [1, 6, 7, 8, 9, 53, 54, 55] [[9], [16], [24]]) <|
  .keep [1, 6, 7, 8, 9, 53, 54, 55] [[9], [16], [24]]) <|
  .seq (.reg [⟨(some 75), .bin .add (.t 55) (.c (.v (.int .i64 1))), none⟩,
    ⟨(some 55), .mov (.t 75), none⟩] []) <|
  .keep [1, 6, 7, 8, 9, 53, 54, 55] [[9], [16], [24]]) <|
  .keep [1, 6, 7, 8, 9, 53, 54, 55] [[9], [16], [24]]
def poly_Div_l1 : C :=
  .seq (.seq (.seq (.seq (.reg [⟨(some 30), .mov (.t 8), none⟩,
    ⟨(some 31), .bin .geq (.t 30) (.c (.v (.int .i64 0))), none⟩] []) <|
  .keep [1, 6, 7, 8, 31] [[16], [24]]) <|
  .cond (.t 31) (.skip) <|
  .seq (.keep [6, 7] [[16], [24]]) <|
  .exit 0) <|
  .seq (.seq (.blk 1 <|
  .seq (.seq (.reg [⟨(some 34), .mov (.t 6), none⟩,
    ⟨(some 35), .mov (.t 8), none⟩,
    ⟨(some 36), .mov (.t 1), none⟩,
    ⟨(some 37), .len (.t 36), none⟩,
    ⟨(some 38), .bin .add (.t 35) (.t 37), none⟩,
    ⟨(some 39), .bin .sub (.t 38) (.c (.v (.int .i64 1))), none⟩,
    ⟨(some 40), .ixa 4 (.t 34) (.t 39), none⟩,
    ⟨(some 41), .load (some 4) (.t 40), none⟩,
    ⟨(some 42), .mov (.t 1), none⟩,
    ⟨(some 43), .mov (.t 1), none⟩,
    ⟨(some 44), .len (.t 43), none⟩,
    ⟨(some 45), .bin .sub (.t 44) (.c (.v (.int .i64 1))), none⟩,
    ⟨(some 46), .ixa 4 (.t 42) (.t 45), none⟩,
    ⟨(some 47), .load (some 4) (.t 46), none⟩,
    ⟨(some 48), .call n_rat_Div [(.t 41), (.t 47)] false, none⟩,
    ⟨(some 9), .new [.v (.bool false), .z true, .v (.bool false), .z true], none⟩,
    ⟨none, .store 4 (.t 9) (.t 48), none⟩] []) <|
  .keep [1, 6, 7, 8, 9] [[9], [16], [24]]) <|
  .seq (.seq (.reg [⟨(some 49), .mov (.t 7), none⟩,
    ⟨(some 50), .mov (.t 8), none⟩,
    ⟨(some 51), .load (some 4) (.t 9), none⟩,
    ⟨(some 52), .ixa 4 (.t 49) (.t 50), none⟩,
    ⟨none, .store 4 (.t 52) (.t 51), none⟩] []) <|
  .keep [1, 6, 7, 8, 9] [[9], [16], [24]]) <|
  .seq (.seq (.reg [⟨(some 53), .mov (.t 1), none⟩,
    ⟨(some 54), .len (.t 53), none⟩,
    ⟨(some 55), .mov (.c (.v (.int .i64 0))), none⟩] []) <|
  .keep [1, 6, 7, 8, 9, 53, 54, 55] [[9], [16], [24]]) <|
  .seq (.blk 2 <|
  .seq (.keep [1, 6, 7, 8, 9, 53, 54, 55] [[9], [16], [24]]) <|
  .loop poly_Div_l0) <|
  .keep [1, 6, 7, 8] [[16], [24]]) <|
  .keep [1, 6, 7, 8] [[16], [24]]) <|
  .seq (.reg [⟨(some 32), .mov (.t 8), none⟩,
    ⟨(some 33), .bin .sub (.t 32) (.c (.v (.int .i64 1))), none⟩,
    ⟨(some 8), .mov (.t 33), none⟩] []) <|
  .keep [1, 6, 7, 8] [[16], [24]]) <|
  .keep [1, 6, 7, 8] [[16], [24]]
def poly_Div : CF := ⟨2, .seq (.seq (.reg [⟨(some 4), .mov (.c (.z true)), none⟩,
    ⟨(some 5), .mov (.c (.z true)), none⟩] []) <|
  .keep [0, 1] []) <|
  .seq (.seq (.seq (.reg [⟨(some 12), .mov (.t 1), none⟩,
    ⟨(some 13), .len (.t 12), none⟩,
    ⟨(some 14), .bin .eql (.t 13) (.c (.v (.int .i64 0))), none⟩] []) <|
  .keep [0, 1, 14] []) <|
  .cond (.t 14) (.seq (.seq (.reg [⟨(some 4), .mov (.c (.z true)), none⟩,
    ⟨(some 5), .mov (.c (.z true)), none⟩] []) <|
  .keep [4, 5] []) <|
  .ret) <|
  .skip) <|
  .seq (.seq (.reg [⟨(some 15), .mov (.t 0), none⟩,
    ⟨(some 16), .call n_slices_Clone_api_Poly_api_Rat [(.t 15)] true, none⟩,
    ⟨(some 6), .mov (.t 16), none⟩] []) <|
  .keep [0, 1, 6] [[16]]) <|
  .seq (.seq (.reg [⟨(some 17), .mov (.t 0), none⟩,
    ⟨(some 18), .len (.t 17), none⟩,
    ⟨(some 19), .mov (.t 1), none⟩,
    ⟨(some 20), .len (.t 19), none⟩,
    ⟨(some 21), .bin .sub (.t 18) (.t 20), none⟩,
    ⟨(some 22), .bin .add (.t 21) (.c (.v (.int .i64 1))), none⟩,
    ⟨(some 23), .mx [(.c (.v (.int .i64 0))), (.t 22)], none⟩,
    ⟨(some 24), .mksl 4 64 [.v (.bool false), .z true, .v (.bool false), .z true] (.t 23) (.t 23), none⟩,
    ⟨(some 7), .mov (.t 24), none⟩] []) <|
  .keep [0, 1, 6, 7] [[16], [24]]) <|
  .seq (.seq (.seq (.reg [⟨(some 25), .mov (.t 0), none⟩,
    ⟨(some 26), .len (.t 25), none⟩,
    ⟨(some 27), .mov (.t 1), none⟩,
    ⟨(some 28), .len (.t 27), none⟩,
    ⟨(some 29), .bin .sub (.t 26) (.t 28), none⟩,
    ⟨(some 8), .mov (.t 29), none⟩] []) <|
  .keep [1, 6, 7, 8] [[16], [24]]) <|
  .seq (.blk 0 <|
  .seq (.keep [1, 6, 7, 8] [[16], [24]]) <|
  .loop poly_Div_l1) <|
  .keep [6, 7] [[16], [24]]) <|
  .seq (.seq (.frz 7) <|
  .seq (.frz 6) <|
  .seq (.reg [⟨(some 76), .mov (.t 7), none⟩,
    ⟨(some 77), .call n_poly_Trim [(.t 76)] false, none⟩,
    ⟨(some 78), .mov (.t 6), none⟩,
    ⟨(some 79), .call n_poly_Trim [(.t 78)] false, none⟩,
    ⟨(some 4), .mov (.t 77), none⟩,
    ⟨(some 5), .mov (.t 79), none⟩] []) <|
  .keep [4, 5] []) <|
  .ret, [.t 4, .t 5]⟩

/- 11: gantry/gantryref06.Div -/
def gantryref06_Div_l0 : C :=
  .seq (.seq (.seq (.seq (.reg [⟨(some 15), .mov (.t 7), none⟩,
    ⟨(some 16), .len (.t 15), none⟩,
    ⟨(some 17), .mov (.t 1), none⟩,
    ⟨(some 18), .len (.t 17), none⟩,
    ⟨(some 19), .bin .geq (.t 16) (.t 18), none⟩] []) <|
  .keep [1, 6, 7, 19] []) <|
  .cond (.t 19) (.skip) <|
  .seq (.keep [6, 7] []) <|
  .exit 0) <|
  .seq (.blk 1 <|
  .seq (.seq (.reg [⟨(some 20), .mov (.t 7), none⟩,
    ⟨(some 21), .len (.t 20), none⟩,
    ⟨(some 22), .mov (.t 1), none⟩,
    ⟨(some 23), .len (.t 22), none⟩,
    ⟨(some 24), .bin .sub (.t 21) (.t 23), none⟩,
    ⟨(some 8), .mov (.t 24), none⟩] []) <|
  .keep [1, 6, 7, 8] []) <|
  .seq (.seq (.reg [⟨(some 25), .mov (.t 8), none⟩,
    ⟨(some 26), .bin .add (.t 25) (.c (.v (.int .i64 1))), none⟩,
    ⟨(some 27), .mksl 4 64 [.v (.bool false), .z true, .v (.bool false), .z true] (.t 26) (.t 26), none⟩,
    ⟨(some 9), .mov (.t 27), none⟩] []) <|
  .keep [1, 6, 7, 8, 9] [[27]]) <|
  .seq (.seq (.reg [⟨(some 28), .mov (.t 9), none⟩,
    ⟨(some 29), .mov (.t 8), none⟩,
    ⟨(some 30), .mov (.t 7), none⟩,
    ⟨(some 31), .mov (.t 7), none⟩,
    ⟨(some 32), .len (.t 31), none⟩,
    ⟨(some 33), .bin .sub (.t 32) (.c (.v (.int .i64 1))), none⟩,
    ⟨(some 34), .ixa 4 (.t 30) (.t 33), none⟩,
    ⟨(some 35), .load (some 4) (.t 34), none⟩,
    ⟨(some 36), .mov (.t 1), none⟩,
    ⟨(some 37), .mov (.t 1), none⟩,
    ⟨(some 38), .len (.t 37), none⟩,
    ⟨(some 39), .bin .sub (.t 38) (.c (.v (.int .i64 1))), none⟩,
    ⟨(some 40), .ixa 4 (.t 36) (.t 39), none⟩,
    ⟨(some 41), .load (some 4) (.t 40), none⟩,
    ⟨(some 42), .call n_gantryref05_Div [(.t 35), (.t 41)] false, none⟩,
    ⟨(some 43), .ixa 4 (.t 28) (.t 29), none⟩,
    ⟨none, .store 4 (.t 43) (.t 42), none⟩] []) <|
  .keep [1, 6, 7, 9] [[27]]) <|
  .seq (.seq (.frz 9) <|
  .seq (.reg [⟨(some 44), .mov (.t 9), none⟩,
    ⟨(some 45), .call n_gantryref06_Trim [(.t 44)] false, none⟩,
    ⟨(some 10), .mov (.t 45), none⟩] []) <|
  .keep [1, 6, 7, 10] []) <|
  .seq (.seq (.reg [⟨(some 46), .mov (.t 6), none⟩,
    ⟨(some 47), .mov (.t 10), none⟩,
    ⟨(some 48), .call n_gantryref06_Add [(.t 46), (.t 47)] false, none⟩,
    ⟨(some 6), .mov (.t 48), none⟩] []) <|
  .keep [1, 6, 7, 10] []) <|
  .seq (.reg [⟨(some 49), .mov (.t 7), none⟩,
    ⟨(some 50), .mov (.t 10), none⟩,
    ⟨(some 51), .mov (.t 1), none⟩,
    ⟨(some 52), .call n_gantryref06_Mul [(.t 50), (.t 51)] false, none⟩,
    ⟨(some 53), .call n_gantryref06_Sub [(.t 49), (.t 52)] false, none⟩,
    ⟨(some 7), .mov (.t 53), none⟩] []) <|
  .keep [1, 6, 7] []) <|
  .keep [1, 6, 7] []) <|
  .keep [1, 6, 7] []
def gantryref06_Div : CF := ⟨2, .seq (.seq (.reg [⟨(some 4), .mov (.c (.z true)), none⟩,
    ⟨(some 5), .mov (.c (.z true)), none⟩] []) <|
  .keep [0, 1] []) <|
  .seq (.seq (.seq (.reg [⟨(some 11), .mov (.t 1), none⟩,
    ⟨(some 12), .len (.t 11), none⟩,
    ⟨(some 13), .bin .eql (.t 12) (.c (.v (.int .i64 0))), none⟩] []) <|
  .keep [0, 1, 13] []) <|
  .cond (.t 13) (.seq (.seq (.reg [⟨(some 4), .mov (.c (.z true)), none⟩,
    ⟨(some 5), .mov (.c (.z true)), none⟩] []) <|
  .keep [4, 5] []) <|
  .ret) <|
  .skip) <|
  .seq (.seq (.reg [⟨(some 6), .mov (.c (.z true)), none⟩] []) <|
  .keep [0, 1, 6] []) <|
  .seq (.seq (.reg [⟨(some 14), .mov (.t 0), none⟩,
    ⟨(some 7), .mov (.t 14), none⟩] []) <|
  .keep [1, 6, 7] []) <|
  .seq (.seq (.blk 0 <|
  .seq (.keep [1, 6, 7] []) <|
  .loop gantryref06_Div_l0) <|
  .keep [6, 7] []) <|
  .seq (.seq (.reg [⟨(some 54), .mov (.t 6), none⟩,
    ⟨(some 55), .mov (.t 7), none⟩,
    ⟨(some 4), .mov (.t 54), none⟩,
    ⟨(some 5), .mov (.t 55), none⟩] []) <|
  .keep [4, 5] []) <|
  .ret, [.t 4, .t 5]⟩

/- 12: gantry/gantryref06.Same -/
def gantryref06_Same_l0 : C :=
  .seq (.seq (.seq (.seq (.reg [⟨(some 11), .mov (.t 5), none⟩,
    ⟨(some 12), .mov (.t 0), none⟩,
    ⟨(some 13), .len (.t 12), none⟩,
    ⟨(some 14), .bin .lss (.t 11) (.t 13), none⟩] []) <|
  .keep [0, 1, 5, 14] []) <|
  .cond (.t 14) (.skip) <|
  .seq (.keep [] []) <|
  .exit 0) <|
  .seq (.seq (.blk 1 <|
  .seq (.seq (.reg [⟨(some 17), .mov (.t 0), none⟩,
    ⟨(some 18), .mov (.t 5), none⟩,
    ⟨(some 19), .ixa 4 (.t 17) (.t 18), none⟩,
    ⟨(some 20), .load (some 4) (.t 19), none⟩,
    ⟨(some 21), .mov (.t 1), none⟩,
    ⟨(some 22), .mov (.t 5), none⟩,
    ⟨(some 23), .ixa 4 (.t 21) (.t 22), none⟩,
    ⟨(some 24), .load (some 4) (.t 23), none⟩,
    ⟨(some 25), .call n_gantryref05_Same [(.t 20), (.t 24)] false, none⟩,
    ⟨(some 26), .un .not (.t 25), none⟩] []) <|
  .keep [0, 1, 5, 26] []) <|
  .cond (.t 26) (.seq (.seq (.reg [⟨(some 4), .mov (.c (.v (.bool false))), none⟩] []) <|
  .keep [4] []) <|
  .ret) <|
  .skip) <|
  .keep [0, 1, 5] []) <|
  .seq (.reg [⟨(some 15), .mov (.t 5), none⟩,
    ⟨(some 16), .bin .add (.t 15) (.c (.v (.int .i64 1))), none⟩,
    ⟨(some 5), .mov (.t 16), none⟩] []) <|
  .keep [0, 1, 5] []) <|
  .keep [0, 1, 5] []
def gantryref06_Same : CF := ⟨2, .seq (.seq (.reg [⟨(some 4), .mov (.c (.v (.bool false))), none⟩] []) <|
  .keep [0, 1] []) <|
  .seq (.seq (.seq (.reg [⟨(some 6), .mov (.t 0), none⟩,
    ⟨(some 7), .len (.t 6), none⟩,
    ⟨(some 8), .mov (.t 1), none⟩,
    ⟨(some 9), .len (.t 8), none⟩,
    ⟨(some 10), .bin .neq (.t 7) (.t 9), none⟩] []) <|
  .keep [0, 1, 10] []) <|
  .cond (.t 10) (.seq (.seq (.reg [⟨(some 4), .mov (.c (.v (.bool false))), none⟩] []) <|
  .keep [4] []) <|
  .ret) <|
  .skip) <|
  .seq (.seq (.seq (.reg [⟨(some 5), .mov (.c (.v (.int .i64 0))), none⟩] []) <|
  .keep [0, 1, 5] []) <|
  .seq (.blk 0 <|
  .seq (.keep [0, 1, 5] []) <|
  .loop gantryref06_Same_l0) <|
  .keep [] []) <|
  .seq (.seq (.reg [⟨(some 4), .mov (.c (.v (.bool true))), none⟩] []) <|
  .keep [4] []) <|
  .ret, [.t 4]⟩

/- 13: gantry/poly.Gcd -/
def poly_Gcd_l0 : C :=
  .seq (.seq (.seq (.seq (.reg [⟨(some 11), .mov (.t 1), none⟩,
    ⟨(some 12), .len (.t 11), none⟩,
    ⟨(some 13), .bin .gtr (.t 12) (.c (.v (.int .i64 0))), none⟩] []) <|
  .keep [0, 1, 13] []) <|
  .cond (.t 13) (.skip) <|
  .seq (.keep [0] []) <|
  .exit 0) <|
  .seq (.blk 1 <|
  .seq (.seq (.reg [⟨(some 15), .mov (.t 0), none⟩,
    ⟨(some 16), .mov (.t 1), none⟩,
    ⟨(some 17), .call n_poly_Div [(.t 15), (.t 16)] false, none⟩,
    ⟨(some 14), .mov (.t 17), none⟩,
    ⟨(some 18), .ext (.t 14) 0, none⟩,
    ⟨(some 19), .ext (.t 14) 1, none⟩,
    ⟨(some 5), .mov (.t 18), none⟩,
    ⟨(some 6), .mov (.t 19), none⟩] []) <|
  .keep [1, 6] []) <|
  .seq (.reg [⟨(some 20), .mov (.t 1), none⟩,
    ⟨(some 21), .mov (.t 6), none⟩,
    ⟨(some 22), .call n_poly_monic [(.t 21)] false, none⟩,
    ⟨(some 0), .mov (.t 20), none⟩,
    ⟨(some 1), .mov (.t 22), none⟩] []) <|
  .keep [0, 1] []) <|
  .keep [0, 1] []) <|
  .keep [0, 1] []
def poly_Gcd : CF := ⟨2, .seq (.seq (.reg [⟨(some 4), .mov (.c (.z true)), none⟩] []) <|
  .keep [0, 1] []) <|
  .seq (.seq (.reg [⟨(some 7), .mov (.t 0), none⟩,
    ⟨(some 8), .call n_poly_monic [(.t 7)] false, none⟩,
    ⟨(some 9), .mov (.t 1), none⟩,
    ⟨(some 10), .call n_poly_monic [(.t 9)] false, none⟩,
    ⟨(some 0), .mov (.t 8), none⟩,
    ⟨(some 1), .mov (.t 10), none⟩] []) <|
  .keep [0, 1] []) <|
  .seq (.seq (.blk 0 <|
  .seq (.keep [0, 1] []) <|
  .loop poly_Gcd_l0) <|
  .keep [0] []) <|
  .seq (.seq (.reg [⟨(some 23), .mov (.t 0), none⟩,
    ⟨(some 4), .mov (.t 23), none⟩] []) <|
  .keep [4] []) <|
  .ret, [.t 4]⟩

/- 14: gantry/gantryref06.Gcd -/
def gantryref06_Gcd_l0 : C :=
  .seq (.seq (.seq (.seq (.reg [⟨(some 13), .mov (.t 6), none⟩,
    ⟨(some 14), .len (.t 13), none⟩,
    ⟨(some 15), .bin .gtr (.t 14) (.c (.v (.int .i64 0))), none⟩] []) <|
  .keep [5, 6, 15] []) <|
  .cond (.t 15) (.skip) <|
  .seq (.keep [5] []) <|
  .exit 0) <|
  .seq (.blk 1 <|
  .seq (.seq (.reg [⟨(some 17), .mov (.t 5), none⟩,
    ⟨(some 18), .mov (.t 6), none⟩,
    ⟨(some 19), .call n_gantryref06_Div [(.t 17), (.t 18)] false, none⟩,
    ⟨(some 16), .mov (.t 19), none⟩,
    ⟨(some 20), .ext (.t 16) 0, none⟩,
    ⟨(some 21), .ext (.t 16) 1, none⟩,
    ⟨(some 7), .mov (.t 20), none⟩,
    ⟨(some 8), .mov (.t 21), none⟩] []) <|
  .keep [6, 8] []) <|
  .seq (.seq (.reg [⟨(some 22), .mov (.t 6), none⟩,
    ⟨(some 5), .mov (.t 22), none⟩] []) <|
  .keep [5, 8] []) <|
  .seq (.reg [⟨(some 23), .mov (.t 8), none⟩,
    ⟨(some 24), .call n_gantryref06_Monic [(.t 23)] false, none⟩,
    ⟨(some 6), .mov (.t 24), none⟩] []) <|
  .keep [5, 6] []) <|
  .keep [5, 6] []) <|
  .keep [5, 6] []
def gantryref06_Gcd : CF := ⟨2, .seq (.seq (.reg [⟨(some 4), .mov (.c (.z true)), none⟩] []) <|
  .keep [0, 1] []) <|
  .seq (.seq (.reg [⟨(some 9), .mov (.t 0), none⟩,
    ⟨(some 10), .call n_gantryref06_Monic [(.t 9)] false, none⟩,
    ⟨(some 5), .mov (.t 10), none⟩] []) <|
  .keep [1, 5] []) <|
  .seq (.seq (.reg [⟨(some 11), .mov (.t 1), none⟩,
    ⟨(some 12), .call n_gantryref06_Monic [(.t 11)] false, none⟩,
    ⟨(some 6), .mov (.t 12), none⟩] []) <|
  .keep [5, 6] []) <|
  .seq (.seq (.blk 0 <|
  .seq (.keep [5, 6] []) <|
  .loop gantryref06_Gcd_l0) <|
  .keep [5] []) <|
  .seq (.seq (.reg [⟨(some 25), .mov (.t 5), none⟩,
    ⟨(some 4), .mov (.t 25), none⟩] []) <|
  .keep [4] []) <|
  .ret, [.t 4]⟩

/- 15: gantry/poly.Free -/
def poly_Free : CF := ⟨1, .seq (.seq (.reg [⟨(some 2), .mov (.c (.z true)), none⟩] []) <|
  .keep [0] []) <|
  .seq (.seq (.reg [⟨(some 6), .mov (.t 0), none⟩,
    ⟨(some 7), .mov (.t 0), none⟩,
    ⟨(some 8), .mov (.t 0), none⟩,
    ⟨(some 9), .call n_poly_Derive [(.t 8)] false, none⟩,
    ⟨(some 10), .call n_poly_Gcd [(.t 7), (.t 9)] false, none⟩,
    ⟨(some 11), .call n_poly_Div [(.t 6), (.t 10)] false, none⟩,
    ⟨(some 5), .mov (.t 11), none⟩,
    ⟨(some 12), .ext (.t 5) 0, none⟩,
    ⟨(some 13), .ext (.t 5) 1, none⟩,
    ⟨(some 3), .mov (.t 12), none⟩,
    ⟨(some 4), .mov (.t 13), none⟩] []) <|
  .keep [3] []) <|
  .seq (.seq (.reg [⟨(some 14), .mov (.t 3), none⟩,
    ⟨(some 15), .call n_poly_monic [(.t 14)] false, none⟩,
    ⟨(some 2), .mov (.t 15), none⟩] []) <|
  .keep [2] []) <|
  .ret, [.t 2]⟩

/- 16: gantry/gantryref06.Free -/
def gantryref06_Free : CF := ⟨1, .seq (.seq (.reg [⟨(some 2), .mov (.c (.z true)), none⟩] []) <|
  .keep [0] []) <|
  .seq (.seq (.reg [⟨(some 6), .mov (.t 0), none⟩,
    ⟨(some 7), .mov (.t 0), none⟩,
    ⟨(some 8), .mov (.t 0), none⟩,
    ⟨(some 9), .call n_gantryref06_Derive [(.t 8)] false, none⟩,
    ⟨(some 10), .call n_gantryref06_Gcd [(.t 7), (.t 9)] false, none⟩,
    ⟨(some 11), .call n_gantryref06_Div [(.t 6), (.t 10)] false, none⟩,
    ⟨(some 5), .mov (.t 11), none⟩,
    ⟨(some 12), .ext (.t 5) 0, none⟩,
    ⟨(some 13), .ext (.t 5) 1, none⟩,
    ⟨(some 3), .mov (.t 12), none⟩,
    ⟨(some 4), .mov (.t 13), none⟩] []) <|
  .keep [3] []) <|
  .seq (.seq (.reg [⟨(some 14), .mov (.t 3), none⟩,
    ⟨(some 15), .call n_gantryref06_Monic [(.t 14)] false, none⟩,
    ⟨(some 2), .mov (.t 15), none⟩] []) <|
  .keep [2] []) <|
  .ret, [.t 2]⟩

/- 17: gantry/gantrylaw06.lives -/
def gantrylaw06_lives : CF := ⟨0, .seq (.seq (.reg [⟨(some 0), .mov (.c (.v (.bool false))), none⟩] []) <|
  .keep [] []) <|
  .seq (.seq (.reg [⟨(some 10), .lit 1 3 [.v (.int .i64 0)] [(0, (.c (.v (.int .i64 (-1))))), (1, (.c (.v (.int .i64 0)))), (2, (.c (.v (.int .i64 1))))] true, none⟩,
    ⟨(some 11), .call n_gantrylaw06_of [(.t 10)] false, none⟩,
    ⟨(some 1), .mov (.t 11), none⟩] []) <|
  .keep [1] []) <|
  .seq (.seq (.reg [⟨(some 12), .lit 1 2 [.v (.int .i64 0)] [(0, (.c (.v (.int .i64 (-1))))), (1, (.c (.v (.int .i64 1))))] true, none⟩,
    ⟨(some 13), .call n_gantrylaw06_of [(.t 12)] false, none⟩,
    ⟨(some 2), .mov (.t 13), none⟩] []) <|
  .keep [1, 2] []) <|
  .seq (.seq (.reg [⟨(some 14), .mov (.t 1), none⟩,
    ⟨(some 15), .mov (.t 2), none⟩,
    ⟨(some 16), .call n_poly_Mul [(.t 14), (.t 15)] false, none⟩,
    ⟨(some 3), .mov (.t 16), none⟩] []) <|
  .keep [1, 2, 3] []) <|
  .seq (.seq (.reg [⟨(some 18), .mov (.t 1), none⟩,
    ⟨(some 19), .mov (.t 2), none⟩,
    ⟨(some 20), .call n_poly_Div [(.t 18), (.t 19)] false, none⟩,
    ⟨(some 17), .mov (.t 20), none⟩,
    ⟨(some 21), .ext (.t 17) 0, none⟩,
    ⟨(some 22), .ext (.t 17) 1, none⟩,
    ⟨(some 4), .mov (.t 21), none⟩,
    ⟨(some 5), .mov (.t 22), none⟩] []) <|
  .keep [1, 2, 3, 4, 5] []) <|
  .seq (.seq (.reg [⟨(some 24), .mov (.t 2), none⟩,
    ⟨(some 25), .mov (.t 1), none⟩,
    ⟨(some 26), .call n_poly_Div [(.t 24), (.t 25)] false, none⟩,
    ⟨(some 23), .mov (.t 26), none⟩,
    ⟨(some 27), .ext (.t 23) 0, none⟩,
    ⟨(some 28), .ext (.t 23) 1, none⟩,
    ⟨(some 6), .mov (.t 27), none⟩,
    ⟨(some 7), .mov (.t 28), none⟩] []) <|
  .keep [1, 2, 3, 4, 5, 6, 7] []) <|
  .seq (.seq (.reg [⟨(some 29), .mov (.t 3), none⟩,
    ⟨(some 30), .lit 1 4 [.v (.int .i64 0)] [(0, (.c (.v (.int .i64 1)))), (1, (.c (.v (.int .i64 (-1))))), (2, (.c (.v (.int .i64 (-1))))), (3, (.c (.v (.int .i64 1))))] true, none⟩,
    ⟨(some 31), .call n_gantrylaw06_is [(.t 29), (.t 30)] false, none⟩,
    ⟨(some 32), .mov (.t 31), none⟩,
    ⟨(some 33), .mov (.t 4), (some (32, true))⟩,
    ⟨(some 34), .lit 1 2 [.v (.int .i64 0)] [(0, (.c (.v (.int .i64 1)))), (1, (.c (.v (.int .i64 1))))] true, (some (32, true))⟩,
    ⟨(some 35), .call n_gantrylaw06_is [(.t 33), (.t 34)] false, (some (32, true))⟩,
    ⟨(some 36), .pick (.t 32) (.t 35) (.c (.v (.bool false))), none⟩,
    ⟨(some 37), .mov (.t 36), none⟩,
    ⟨(some 38), .mov (.t 5), (some (37, true))⟩,
    ⟨(some 39), .len (.t 38), (some (37, true))⟩,
    ⟨(some 40), .bin .eql (.t 39) (.c (.v (.int .i64 0))), (some (37, true))⟩,
    ⟨(some 41), .pick (.t 37) (.t 40) (.c (.v (.bool false))), none⟩,
    ⟨(some 42), .mov (.t 41), none⟩,
    ⟨(some 43), .mov (.t 6), (some (42, true))⟩,
    ⟨(some 44), .len (.t 43), (some (42, true))⟩,
    ⟨(some 45), .bin .eql (.t 44) (.c (.v (.int .i64 0))), (some (42, true))⟩,
    ⟨(some 46), .pick (.t 42) (.t 45) (.c (.v (.bool false))), none⟩,
    ⟨(some 47), .mov (.t 46), none⟩,
    ⟨(some 48), .mov (.t 7), (some (47, true))⟩,
    ⟨(some 49), .lit 1 2 [.v (.int .i64 0)] [(0, (.c (.v (.int .i64 (-1))))), (1, (.c (.v (.int .i64 1))))] true, (some (47, true))⟩,
    ⟨(some 50), .call n_gantrylaw06_is [(.t 48), (.t 49)] false, (some (47, true))⟩,
    ⟨(some 51), .pick (.t 47) (.t 50) (.c (.v (.bool false))), none⟩,
    ⟨(some 8), .mov (.t 51), none⟩] []) <|
  .keep [1, 2, 3, 8] []) <|
  .seq (.seq (.reg [⟨(some 52), .mov (.t 1), none⟩,
    ⟨(some 53), .mov (.t 2), none⟩,
    ⟨(some 54), .mov (.t 2), none⟩,
    ⟨(some 55), .call n_poly_Mul [(.t 53), (.t 54)] false, none⟩,
    ⟨(some 56), .call n_poly_Gcd [(.t 52), (.t 55)] false, none⟩,
    ⟨(some 57), .lit 1 2 [.v (.int .i64 0)] [(0, (.c (.v (.int .i64 (-1))))), (1, (.c (.v (.int .i64 1))))] true, none⟩,
    ⟨(some 58), .call n_gantrylaw06_is [(.t 56), (.t 57)] false, none⟩,
    ⟨(some 59), .mov (.t 58), none⟩,
    ⟨(some 60), .mov (.t 3), (some (59, true))⟩,
    ⟨(some 61), .call n_poly_Free [(.t 60)] false, (some (59, true))⟩,
    ⟨(some 62), .lit 1 3 [.v (.int .i64 0)] [(0, (.c (.v (.int .i64 (-1))))), (1, (.c (.v (.int .i64 0)))), (2, (.c (.v (.int .i64 1))))] true, (some (59, true))⟩,
    ⟨(some 63), .call n_gantrylaw06_is [(.t 61), (.t 62)] false, (some (59, true))⟩,
    ⟨(some 64), .pick (.t 59) (.t 63) (.c (.v (.bool false))), none⟩,
    ⟨(some 65), .mov (.t 64), none⟩,
    ⟨(some 66), .mov (.t 1), (some (65, true))⟩,
    ⟨(some 67), .call n_gantryref05_Of [(.c (.v (.int .i64 1))), (.c (.v (.int .i64 1)))] false, (some (65, true))⟩,
    ⟨(some 68), .call n_poly_Shift [(.t 66), (.t 67)] false, (some (65, true))⟩,
    ⟨(some 69), .lit 1 3 [.v (.int .i64 0)] [(0, (.c (.v (.int .i64 0)))), (1, (.c (.v (.int .i64 2)))), (2, (.c (.v (.int .i64 1))))] true, (some (65, true))⟩,
    ⟨(some 70), .call n_gantrylaw06_is [(.t 68), (.t 69)] false, (some (65, true))⟩,
    ⟨(some 71), .pick (.t 65) (.t 70) (.c (.v (.bool false))), none⟩,
    ⟨(some 9), .mov (.t 71), none⟩] []) <|
  .keep [1, 8, 9] []) <|
  .seq (.seq (.reg [⟨(some 72), .mov (.t 8), none⟩,
    ⟨(some 73), .mov (.t 72), none⟩,
    ⟨(some 74), .mov (.t 9), (some (73, true))⟩,
    ⟨(some 75), .pick (.t 73) (.t 74) (.c (.v (.bool false))), none⟩,
    ⟨(some 76), .mov (.t 75), none⟩,
    ⟨(some 77), .mov (.t 1), (some (76, true))⟩,
    ⟨(some 78), .call n_gantryref05_Of [(.c (.v (.int .i64 3))), (.c (.v (.int .i64 1)))] false, (some (76, true))⟩,
    ⟨(some 79), .call n_poly_Eval [(.t 77), (.t 78)] false, (some (76, true))⟩,
    ⟨(some 80), .call n_gantryref05_Of [(.c (.v (.int .i64 8))), (.c (.v (.int .i64 1)))] false, (some (76, true))⟩,
    ⟨(some 81), .call n_gantryref05_Same [(.t 79), (.t 80)] false, (some (76, true))⟩,
    ⟨(some 82), .pick (.t 76) (.t 81) (.c (.v (.bool false))), none⟩,
    ⟨(some 83), .mov (.t 82), none⟩,
    ⟨(some 84), .mov (.t 1), (some (83, true))⟩,
    ⟨(some 85), .call n_poly_Degree [(.t 84)] false, (some (83, true))⟩,
    ⟨(some 86), .bin .eql (.t 85) (.c (.v (.int .i64 2))), (some (83, true))⟩,
    ⟨(some 87), .pick (.t 83) (.t 86) (.c (.v (.bool false))), none⟩,
    ⟨(some 88), .mov (.t 87), none⟩,
    ⟨(some 89), .mov (.t 1), (some (88, true))⟩,
    ⟨(some 90), .call n_poly_Valid [(.t 89)] false, (some (88, true))⟩,
    ⟨(some 91), .pick (.t 88) (.t 90) (.c (.v (.bool false))), none⟩,
    ⟨(some 0), .mov (.t 91), none⟩] []) <|
  .keep [0] []) <|
  .ret, [.t 0]⟩

/- 18: gantry/gantryref06.Small -/
def gantryref06_Small : CF := ⟨1, .seq (.seq (.reg [⟨(some 2), .new [.v (.bool false), .z true, .v (.bool false), .z true], none⟩] []) <|
  .keep [0, 2] [[2]]) <|
  .seq (.seq (.reg [⟨(some 4), .mov (.t 0), none⟩,
    ⟨(some 5), .call n_gantryref01_Around [(.t 4), (.c (.v (.int .i64 105)))] false, none⟩,
    ⟨(some 3), .mov (.t 5), none⟩] []) <|
  .keep [2, 3] [[2]]) <|
  .seq (.seq (.reg [⟨(some 6), .mov (.t 3), none⟩,
    ⟨(some 7), .bin .rem (.t 6) (.c (.v (.int .i64 15))), none⟩,
    ⟨(some 8), .bin .sub (.t 7) (.c (.v (.int .i64 7))), none⟩,
    ⟨(some 9), .mov (.t 3), none⟩,
    ⟨(some 10), .bin .quo (.t 9) (.c (.v (.int .i64 15))), none⟩,
    ⟨(some 11), .bin .rem (.t 10) (.c (.v (.int .i64 4))), none⟩,
    ⟨(some 12), .bin .add (.c (.v (.int .i64 1))) (.t 11), none⟩,
    ⟨(some 13), .call n_gantryref05_Of [(.t 8), (.t 12)] false, none⟩,
    ⟨none, .store 4 (.t 2) (.t 13), none⟩] []) <|
  .keep [2] [[2]]) <|
  .ret, [.cell 2 (some 4)]⟩

/- 19: gantry/gantryref06.Scale -/
def gantryref06_Scale_l0 : C :=
  .seq (.seq (.seq (.seq (.reg [⟨(some 7), .mov (.t 6), none⟩,
    ⟨(some 8), .mov (.t 0), none⟩,
    ⟨(some 9), .len (.t 8), none⟩,
    ⟨(some 10), .bin .lss (.t 7) (.t 9), none⟩] []) <|
  .keep [0, 3, 5, 6, 10] [[3], [21]]) <|
  .cond (.t 10) (.skip) <|
  .seq (.keep [5] [[21]]) <|
  .exit 0) <|
  .seq (.seq (.blk 1 <|
  .seq (.reg [⟨(some 13), .mov (.t 5), none⟩,
    ⟨(some 14), .mov (.t 0), none⟩,
    ⟨(some 15), .mov (.t 6), none⟩,
    ⟨(some 16), .ixa 4 (.t 14) (.t 15), none⟩,
    ⟨(some 17), .load (some 4) (.t 16), none⟩,
    ⟨(some 18), .load (some 4) (.t 3), none⟩,
    ⟨(some 19), .call n_gantryref05_Mul [(.t 17), (.t 18)] false, none⟩,
    ⟨(some 20), .lit 4 1 [.v (.bool false), .z true, .v (.bool false), .z true] [(0, (.t 19))] true, none⟩,
    ⟨(some 21), .app 4 64 (.t 13) (.t 20) false, none⟩,
    ⟨(some 5), .mov (.t 21), none⟩] []) <|
  .keep [0, 3, 5, 6] [[3], [21]]) <|
  .keep [0, 3, 5, 6] [[3], [21]]) <|
  .seq (.reg [⟨(some 11), .mov (.t 6), none⟩,
    ⟨(some 12), .bin .add (.t 11) (.c (.v (.int .i64 1))), none⟩,
    ⟨(some 6), .mov (.t 12), none⟩] []) <|
  .keep [0, 3, 5, 6] [[3], [21]]) <|
  .keep [0, 3, 5, 6] [[3], [21]]
def gantryref06_Scale : CF := ⟨2, .seq (.seq (.reg [⟨(some 3), .box (.t 1), none⟩,
    ⟨(some 4), .mov (.c (.z true)), none⟩] []) <|
  .keep [0, 3] [[3]]) <|
  .seq (.seq (.reg [⟨(some 5), .mov (.c (.z true)), none⟩] []) <|
  .keep [0, 3, 5] [[3], [21]]) <|
  .seq (.seq (.seq (.reg [⟨(some 6), .mov (.c (.v (.int .i64 0))), none⟩] []) <|
  .keep [0, 3, 5, 6] [[3], [21]]) <|
  .seq (.blk 0 <|
  .seq (.keep [0, 3, 5, 6] [[3], [21]]) <|
  .loop gantryref06_Scale_l0) <|
  .keep [5] [[21]]) <|
  .seq (.seq (.frz 5) <|
  .seq (.reg [⟨(some 22), .mov (.t 5), none⟩,
    ⟨(some 23), .call n_gantryref06_Trim [(.t 22)] false, none⟩,
    ⟨(some 4), .mov (.t 23), none⟩] []) <|
  .keep [4] []) <|
  .ret, [.t 4]⟩

/- 20: gantry/gantryref05.Of -/
def gantryref05_Of : CF := ⟨2, .seq (.seq (.reg [⟨(some 4), .new [.v (.bool false), .z true, .v (.bool false), .z true], none⟩] []) <|
  .keep [0, 1, 4] [[4]]) <|
  .seq (.seq (.reg [⟨(some 5), .mov (.t 0), none⟩,
    ⟨(some 6), .call n_gantryref04_Of [(.t 5)] false, none⟩,
    ⟨(some 7), .mov (.t 1), none⟩,
    ⟨(some 8), .call n_gantryref04_Of [(.t 7)] false, none⟩,
    ⟨(some 9), .call n_gantryref05_Make [(.t 6), (.t 8)] false, none⟩,
    ⟨none, .store 4 (.t 4) (.t 9), none⟩] []) <|
  .keep [4] [[4]]) <|
  .ret, [.cell 4 (some 4)]⟩

/- 21: gantry/poly.Add -/
def poly_Add : CF := ⟨2, .seq (.seq (.reg [⟨(some 2), .box (.t 0), none⟩,
    ⟨(some 3), .box (.t 1), none⟩,
    ⟨(some 4), .mov (.c (.z true)), none⟩] []) <|
  .keep [2, 3] [[2], [3]]) <|
  .seq (.seq (.reg [⟨(some 5), .load none (.t 2), none⟩,
    ⟨(some 6), .len (.t 5), none⟩,
    ⟨(some 7), .load none (.t 3), none⟩,
    ⟨(some 8), .len (.t 7), none⟩,
    ⟨(some 9), .mx [(.t 6), (.t 8)], none⟩,
    ⟨(some 10), .mkfn n_poly_Add_1 [(.t 2), (.t 3)] true, none⟩,
    ⟨(some 11), .call n_poly_made [(.t 9), (.t 10)] false, none⟩,
    ⟨(some 4), .mov (.t 11), none⟩] []) <|
  .keep [4] []) <|
  .ret, [.t 4]⟩

/- 22: gantry/gantryref06.Add -/
def gantryref06_Add_l0 : C :=
  .seq (.seq (.seq (.seq (.reg [⟨(some 7), .mov (.t 6), none⟩,
    ⟨(some 8), .mov (.t 0), none⟩,
    ⟨(some 9), .len (.t 8), none⟩,
    ⟨(some 10), .bin .lss (.t 7) (.t 9), none⟩,
    ⟨(some 11), .mov (.t 10), none⟩,
    ⟨(some 12), .mov (.t 6), (some (11, false))⟩,
    ⟨(some 13), .mov (.t 1), (some (11, false))⟩,
    ⟨(some 14), .len (.t 13), (some (11, false))⟩,
    ⟨(some 15), .bin .lss (.t 12) (.t 14), (some (11, false))⟩,
    ⟨(some 16), .pick (.t 11) (.c (.v (.bool true))) (.t 15), none⟩] []) <|
  .keep [0, 1, 5, 6, 16] [[28]]) <|
  .cond (.t 16) (.skip) <|
  .seq (.keep [5] [[28]]) <|
  .exit 0) <|
  .seq (.seq (.blk 1 <|
  .seq (.reg [⟨(some 19), .mov (.t 5), none⟩,
    ⟨(some 20), .mov (.t 0), none⟩,
    ⟨(some 21), .mov (.t 6), none⟩,
    ⟨(some 22), .call n_gantryref06_At [(.t 20), (.t 21)] false, none⟩,
    ⟨(some 23), .mov (.t 1), none⟩,
    ⟨(some 24), .mov (.t 6), none⟩,
    ⟨(some 25), .call n_gantryref06_At [(.t 23), (.t 24)] false, none⟩,
    ⟨(some 26), .call n_gantryref05_Add [(.t 22), (.t 25)] false, none⟩,
    ⟨(some 27), .lit 4 1 [.v (.bool false), .z true, .v (.bool false), .z true] [(0, (.t 26))] true, none⟩,
    ⟨(some 28), .app 4 64 (.t 19) (.t 27) false, none⟩,
    ⟨(some 5), .mov (.t 28), none⟩] []) <|
  .keep [0, 1, 5, 6] [[28]]) <|
  .keep [0, 1, 5, 6] [[28]]) <|
  .seq (.reg [⟨(some 17), .mov (.t 6), none⟩,
    ⟨(some 18), .bin .add (.t 17) (.c (.v (.int .i64 1))), none⟩,
    ⟨(some 6), .mov (.t 18), none⟩] []) <|
  .keep [0, 1, 5, 6] [[28]]) <|
  .keep [0, 1, 5, 6] [[28]]
def gantryref06_Add : CF := ⟨2, .seq (.seq (.reg [⟨(some 4), .mov (.c (.z true)), none⟩] []) <|
  .keep [0, 1] []) <|
  .seq (.seq (.reg [⟨(some 5), .mov (.c (.z true)), none⟩] []) <|
  .keep [0, 1, 5] [[28]]) <|
  .seq (.seq (.seq (.reg [⟨(some 6), .mov (.c (.v (.int .i64 0))), none⟩] []) <|
  .keep [0, 1, 5, 6] [[28]]) <|
  .seq (.blk 0 <|
  .seq (.keep [0, 1, 5, 6] [[28]]) <|
  .loop gantryref06_Add_l0) <|
  .keep [5] [[28]]) <|
  .seq (.seq (.frz 5) <|
  .seq (.reg [⟨(some 29), .mov (.t 5), none⟩,
    ⟨(some 30), .call n_gantryref06_Trim [(.t 29)] false, none⟩,
    ⟨(some 4), .mov (.t 30), none⟩] []) <|
  .keep [4] []) <|
  .ret, [.t 4]⟩

/- 23: gantry/poly.Sub -/
def poly_Sub : CF := ⟨2, .seq (.seq (.reg [⟨(some 2), .box (.t 0), none⟩,
    ⟨(some 3), .box (.t 1), none⟩,
    ⟨(some 4), .mov (.c (.z true)), none⟩] []) <|
  .keep [2, 3] [[2], [3]]) <|
  .seq (.seq (.reg [⟨(some 5), .load none (.t 2), none⟩,
    ⟨(some 6), .len (.t 5), none⟩,
    ⟨(some 7), .load none (.t 3), none⟩,
    ⟨(some 8), .len (.t 7), none⟩,
    ⟨(some 9), .mx [(.t 6), (.t 8)], none⟩,
    ⟨(some 10), .mkfn n_poly_Sub_1 [(.t 2), (.t 3)] true, none⟩,
    ⟨(some 11), .call n_poly_made [(.t 9), (.t 10)] false, none⟩,
    ⟨(some 4), .mov (.t 11), none⟩] []) <|
  .keep [4] []) <|
  .ret, [.t 4]⟩

/- 24: gantry/gantryref06.Sub -/
def gantryref06_Sub : CF := ⟨2, .seq (.seq (.reg [⟨(some 4), .mov (.c (.z true)), none⟩] []) <|
  .keep [0, 1] []) <|
  .seq (.seq (.reg [⟨(some 5), .mov (.t 0), none⟩,
    ⟨(some 6), .mov (.t 1), none⟩,
    ⟨(some 7), .call n_gantryref05_Of [(.c (.v (.int .i64 (-1)))), (.c (.v (.int .i64 1)))] false, none⟩,
    ⟨(some 8), .call n_gantryref06_Scale [(.t 6), (.t 7)] false, none⟩,
    ⟨(some 9), .call n_gantryref06_Add [(.t 5), (.t 8)] false, none⟩,
    ⟨(some 4), .mov (.t 9), none⟩] []) <|
  .keep [4] []) <|
  .ret, [.t 4]⟩

/- 25: gantry/poly.Mul -/
def poly_Mul : CF := ⟨2, .seq (.seq (.reg [⟨(some 2), .box (.t 0), none⟩,
    ⟨(some 3), .box (.t 1), none⟩,
    ⟨(some 4), .mov (.c (.z true)), none⟩] []) <|
  .keep [2, 3] [[2], [3]]) <|
  .seq (.seq (.reg [⟨(some 5), .load none (.t 2), none⟩,
    ⟨(some 6), .len (.t 5), none⟩,
    ⟨(some 7), .load none (.t 3), none⟩,
    ⟨(some 8), .len (.t 7), none⟩,
    ⟨(some 9), .bin .add (.t 6) (.t 8), none⟩,
    ⟨(some 10), .bin .sub (.t 9) (.c (.v (.int .i64 1))), none⟩,
    ⟨(some 11), .mkfn n_poly_Mul_1 [(.t 3), (.t 2)] true, none⟩,
    ⟨(some 12), .call n_poly_made [(.t 10), (.t 11)] false, none⟩,
    ⟨(some 4), .mov (.t 12), none⟩] []) <|
  .keep [4] []) <|
  .ret, [.t 4]⟩

/- 26: gantry/poly.Scale -/
def poly_Scale : CF := ⟨2, .seq (.seq (.reg [⟨(some 2), .box (.t 0), none⟩,
    ⟨(some 3), .box (.t 1), none⟩,
    ⟨(some 4), .mov (.c (.z true)), none⟩] []) <|
  .keep [2, 3] [[2], [3]]) <|
  .seq (.seq (.reg [⟨(some 5), .load none (.t 2), none⟩,
    ⟨(some 6), .len (.t 5), none⟩,
    ⟨(some 7), .mkfn n_poly_Scale_1 [(.t 2), (.t 3)] true, none⟩,
    ⟨(some 8), .call n_poly_made [(.t 6), (.t 7)] false, none⟩,
    ⟨(some 4), .mov (.t 8), none⟩] []) <|
  .keep [4] []) <|
  .ret, [.t 4]⟩

/- 27: gantry/gantryref05.Same -/
def gantryref05_Same : CF := ⟨2, .seq (.seq (.reg [⟨(some 2), .box (.t 0), none⟩,
    ⟨(some 3), .box (.t 1), none⟩,
    ⟨(some 4), .mov (.c (.v (.bool false))), none⟩] []) <|
  .keep [2, 3] [[2], [3]]) <|
  .seq (.seq (.reg [⟨(some 5), .fad 0 (.t 2), none⟩,
    ⟨(some 6), .load (some 2) (.t 5), none⟩,
    ⟨(some 7), .fad 0 (.t 3), none⟩,
    ⟨(some 8), .load (some 2) (.t 7), none⟩,
    ⟨(some 9), .call n_gantryref04_Same [(.t 6), (.t 8)] false, none⟩,
    ⟨(some 10), .mov (.t 9), none⟩,
    ⟨(some 11), .fad 2 (.t 2), (some (10, true))⟩,
    ⟨(some 12), .load (some 2) (.t 11), (some (10, true))⟩,
    ⟨(some 13), .fad 2 (.t 3), (some (10, true))⟩,
    ⟨(some 14), .load (some 2) (.t 13), (some (10, true))⟩,
    ⟨(some 15), .call n_gantryref04_Same [(.t 12), (.t 14)] false, (some (10, true))⟩,
    ⟨(some 16), .pick (.t 10) (.t 15) (.c (.v (.bool false))), none⟩,
    ⟨(some 4), .mov (.t 16), none⟩] []) <|
  .keep [4] []) <|
  .ret, [.t 4]⟩

/- 28: gantry/poly.Eval -/
def poly_Eval_a0 : C :=
  .seq (.reg [⟨(some 7), .new [.v (.bool false), .z true, .v (.bool false), .z true], none⟩,
    ⟨none, .store 4 (.t 7) (.t 11), none⟩] []) <|
  .keep [3, 5, 7] [[3], [5], [7], [4]]
def poly_Eval_b0 : C :=
  .seq (.blk 1 <|
  .seq (.reg [⟨(some 12), .load (some 4) (.t 5), none⟩,
    ⟨(some 13), .load (some 4) (.t 3), none⟩,
    ⟨(some 14), .call n_rat_Mul [(.t 12), (.t 13)] false, none⟩,
    ⟨(some 15), .load (some 4) (.t 7), none⟩,
    ⟨(some 16), .call n_rat_Add [(.t 14), (.t 15)] false, none⟩,
    ⟨none, .store 4 (.t 5) (.t 16), none⟩] []) <|
  .keep [] [[3], [4], [5]]) <|
  .keep [] [[3], [4], [5]]
def poly_Eval : CF := ⟨2, .seq (.seq (.reg [⟨(some 3), .box (.t 1), none⟩,
    ⟨(some 4), .new [.v (.bool false), .z true, .v (.bool false), .z true], none⟩] []) <|
  .keep [0, 3, 4] [[3], [4]]) <|
  .seq (.seq (.reg [⟨(some 5), .new [.v (.bool false), .z true, .v (.bool false), .z true], none⟩] []) <|
  .keep [0, 3, 4, 5] [[3], [4], [5]]) <|
  .seq (.seq (.seq (.reg [⟨(some 8), .mov (.t 0), none⟩,
    ⟨(some 9), .call n_slices_Backward_api_Poly_api_Rat [(.t 8)] false, none⟩] []) <|
  .keep [3, 4, 5, 9] [[3], [4], [5]]) <|
  .seq (.blk 0 <|
  .seq (.rfn (.t 9) [10, 11] poly_Eval_a0 poly_Eval_b0 [3, 4, 5] [[3], [4], [5]]) <|
  .keep [4, 5] [[4], [5]]) <|
  .keep [4, 5] [[4], [5]]) <|
  .seq (.seq (.reg [⟨(some 17), .load (some 4) (.t 5), none⟩,
    ⟨none, .store 4 (.t 4) (.t 17), none⟩] []) <|
  .keep [4] [[4]]) <|
  .ret, [.cell 4 (some 4)]⟩

/- 29: gantry/gantryref06.Eval -/
def gantryref06_Eval_l0 : C :=
  .seq (.seq (.seq (.seq (.reg [⟨(some 10), .mov (.t 7), none⟩,
    ⟨(some 11), .mov (.t 0), none⟩,
    ⟨(some 12), .len (.t 11), none⟩,
    ⟨(some 13), .bin .lss (.t 10) (.t 12), none⟩] []) <|
  .keep [0, 3, 4, 5, 6, 7, 13] [[3], [4], [5], [6]]) <|
  .cond (.t 13) (.skip) <|
  .seq (.keep [4, 5] [[4], [5]]) <|
  .exit 0) <|
  .seq (.seq (.blk 1 <|
  .seq (.seq (.reg [⟨(some 16), .load (some 4) (.t 5), none⟩,
    ⟨(some 17), .mov (.t 0), none⟩,
    ⟨(some 18), .mov (.t 7), none⟩,
    ⟨(some 19), .ixa 4 (.t 17) (.t 18), none⟩,
    ⟨(some 20), .load (some 4) (.t 19), none⟩,
    ⟨(some 21), .load (some 4) (.t 6), none⟩,
    ⟨(some 22), .call n_gantryref05_Mul [(.t 20), (.t 21)] false, none⟩,
    ⟨(some 23), .call n_gantryref05_Add [(.t 16), (.t 22)] false, none⟩,
    ⟨none, .store 4 (.t 5) (.t 23), none⟩] []) <|
  .keep [0, 3, 4, 5, 6, 7] [[3], [4], [5], [6]]) <|
  .seq (.reg [⟨(some 24), .load (some 4) (.t 6), none⟩,
    ⟨(some 25), .load (some 4) (.t 3), none⟩,
    ⟨(some 26), .call n_gantryref05_Mul [(.t 24), (.t 25)] false, none⟩,
    ⟨none, .store 4 (.t 6) (.t 26), none⟩] []) <|
  .keep [0, 3, 4, 5, 6, 7] [[3], [4], [5], [6]]) <|
  .keep [0, 3, 4, 5, 6, 7] [[3], [4], [5], [6]]) <|
  .seq (.reg [⟨(some 14), .mov (.t 7), none⟩,
    ⟨(some 15), .bin .add (.t 14) (.c (.v (.int .i64 1))), none⟩,
    ⟨(some 7), .mov (.t 15), none⟩] []) <|
  .keep [0, 3, 4, 5, 6, 7] [[3], [4], [5], [6]]) <|
  .keep [0, 3, 4, 5, 6, 7] [[3], [4], [5], [6]]
def gantryref06_Eval : CF := ⟨2, .seq (.seq (.reg [⟨(some 3), .box (.t 1), none⟩,
    ⟨(some 4), .new [.v (.bool false), .z true, .v (.bool false), .z true], none⟩] []) <|
  .keep [0, 3, 4] [[3], [4]]) <|
  .seq (.seq (.reg [⟨(some 8), .build [.v (.bool false), .z true, .v (.bool false), .z true] [], none⟩,
    ⟨(some 5), .new [.v (.bool false), .z true, .v (.bool false), .z true], none⟩,
    ⟨none, .store 4 (.t 5) (.t 8), none⟩] []) <|
  .keep [0, 3, 4, 5] [[3], [4], [5]]) <|
  .seq (.seq (.reg [⟨(some 9), .call n_gantryref05_Of [(.c (.v (.int .i64 1))), (.c (.v (.int .i64 1)))] false, none⟩,
    ⟨(some 6), .new [.v (.bool false), .z true, .v (.bool false), .z true], none⟩,
    ⟨none, .store 4 (.t 6) (.t 9), none⟩] []) <|
  .keep [0, 3, 4, 5, 6] [[3], [4], [5], [6]]) <|
  .seq (.seq (.seq (.reg [⟨(some 7), .mov (.c (.v (.int .i64 0))), none⟩] []) <|
  .keep [0, 3, 4, 5, 6, 7] [[3], [4], [5], [6]]) <|
  .seq (.blk 0 <|
  .seq (.keep [0, 3, 4, 5, 6, 7] [[3], [4], [5], [6]]) <|
  .loop gantryref06_Eval_l0) <|
  .keep [4, 5] [[4], [5]]) <|
  .seq (.seq (.reg [⟨(some 27), .load (some 4) (.t 5), none⟩,
    ⟨none, .store 4 (.t 4) (.t 27), none⟩] []) <|
  .keep [4] [[4]]) <|
  .ret, [.cell 4 (some 4)]⟩

/- 30: gantry/poly.Derive -/
def poly_Derive : CF := ⟨1, .seq (.seq (.reg [⟨(some 1), .box (.t 0), none⟩,
    ⟨(some 2), .mov (.c (.z true)), none⟩] []) <|
  .keep [1] [[1]]) <|
  .seq (.seq (.reg [⟨(some 3), .load none (.t 1), none⟩,
    ⟨(some 4), .len (.t 3), none⟩,
    ⟨(some 5), .bin .sub (.t 4) (.c (.v (.int .i64 1))), none⟩,
    ⟨(some 6), .mkfn n_poly_Derive_1 [(.t 1)] true, none⟩,
    ⟨(some 7), .call n_poly_made [(.t 5), (.t 6)] false, none⟩,
    ⟨(some 2), .mov (.t 7), none⟩] []) <|
  .keep [2] []) <|
  .ret, [.t 2]⟩

/- 31: gantry/poly.Shift -/
def poly_Shift_l0 : C :=
  .seq (.seq (.seq (.seq (.reg [⟨(some 18), .mov (.t 7), none⟩,
    ⟨(some 19), .mov (.t 6), none⟩,
    ⟨(some 20), .bin .geq (.t 18) (.t 19), none⟩] []) <|
  .keep [3, 5, 6, 7, 11, 12, 20] [[3], [9]]) <|
  .cond (.t 20) (.skip) <|
  .seq (.keep [3, 5, 11, 12] [[3], [9]]) <|
  .exit 2) <|
  .seq (.seq (.blk 3 <|
  .seq (.reg [⟨(some 23), .mov (.t 5), none⟩,
    ⟨(some 24), .mov (.t 7), none⟩,
    ⟨(some 25), .mov (.t 5), none⟩,
    ⟨(some 26), .mov (.t 7), none⟩,
    ⟨(some 27), .ixa 4 (.t 25) (.t 26), none⟩,
    ⟨(some 28), .load (some 4) (.t 27), none⟩,
    ⟨(some 29), .load (some 4) (.t 3), none⟩,
    ⟨(some 30), .mov (.t 5), none⟩,
    ⟨(some 31), .mov (.t 7), none⟩,
    ⟨(some 32), .bin .add (.t 31) (.c (.v (.int .i64 1))), none⟩,
    ⟨(some 33), .ixa 4 (.t 30) (.t 32), none⟩,
    ⟨(some 34), .load (some 4) (.t 33), none⟩,
    ⟨(some 35), .call n_rat_Mul [(.t 29), (.t 34)] false, none⟩,
    ⟨(some 36), .call n_rat_Add [(.t 28), (.t 35)] false, none⟩,
    ⟨(some 37), .ixa 4 (.t 23) (.t 24), none⟩,
    ⟨none, .store 4 (.t 37) (.t 36), none⟩] []) <|
  .keep [3, 5, 6, 7, 11, 12] [[3], [9]]) <|
  .keep [3, 5, 6, 7, 11, 12] [[3], [9]]) <|
  .seq (.reg [⟨(some 21), .mov (.t 7), none⟩,
    ⟨(some 22), .bin .sub (.t 21) (.c (.v (.int .i64 1))), none⟩,
    ⟨(some 7), .mov (.t 22), none⟩] []) <|
  .keep [3, 5, 6, 7, 11, 12] [[3], [9]]) <|
  .keep [3, 5, 6, 7, 11, 12] [[3], [9]]
def poly_Shift_l1 : C :=
  .seq (.seq (.seq (.reg [⟨(some 13), .bin .lss (.t 12) (.t 11), none⟩] []) <|
  .keep [3, 5, 11, 12, 13] [[3], [9]]) <|
  .seq (.cond (.t 13) (.skip) <|
  .seq (.keep [5] [[9]]) <|
  .exit 0) <|
  .seq (.seq (.blk 1 <|
  .seq (.seq (.reg [⟨(some 14), .mov (.t 12), none⟩,
    ⟨(some 6), .mov (.t 14), none⟩] []) <|
  .keep [3, 5, 6, 11, 12] [[3], [9]]) <|
  .seq (.seq (.reg [⟨(some 15), .mov (.t 5), none⟩,
    ⟨(some 16), .len (.t 15), none⟩,
    ⟨(some 17), .bin .sub (.t 16) (.c (.v (.int .i64 2))), none⟩,
    ⟨(some 7), .mov (.t 17), none⟩] []) <|
  .keep [3, 5, 6, 7, 11, 12] [[3], [9]]) <|
  .seq (.blk 2 <|
  .seq (.keep [3, 5, 6, 7, 11, 12] [[3], [9]]) <|
  .loop poly_Shift_l0) <|
  .keep [3, 5, 11, 12] [[3], [9]]) <|
  .keep [3, 5, 11, 12] [[3], [9]]) <|
  .seq (.reg [⟨(some 38), .bin .add (.t 12) (.c (.v (.int .i64 1))), none⟩,
    ⟨(some 12), .mov (.t 38), none⟩] []) <|
  .keep [3, 5, 11, 12] [[3], [9]]) <|
  .keep [3, 5, 11, 12] [[3], [9]]
def poly_Shift : CF := ⟨2, .seq (.seq (.reg [⟨(some 3), .box (.t 1), none⟩,
    ⟨(some 4), .mov (.c (.z true)), none⟩] []) <|
  .keep [0, 3] [[3]]) <|
  .seq (.seq (.reg [⟨(some 8), .mov (.t 0), none⟩,
    ⟨(some 9), .call n_slices_Clone_api_Poly_api_Rat [(.t 8)] true, none⟩,
    ⟨(some 5), .mov (.t 9), none⟩] []) <|
  .keep [3, 5] [[3], [9]]) <|
  .seq (.seq (.seq (.reg [⟨(some 10), .mov (.t 5), none⟩,
    ⟨(some 11), .len (.t 10), none⟩,
    ⟨(some 12), .mov (.c (.v (.int .i64 0))), none⟩] []) <|
  .keep [3, 5, 11, 12] [[3], [9]]) <|
  .seq (.blk 0 <|
  .seq (.keep [3, 5, 11, 12] [[3], [9]]) <|
  .loop poly_Shift_l1) <|
  .keep [5] [[9]]) <|
  .seq (.seq (.frz 5) <|
  .seq (.reg [⟨(some 39), .mov (.t 5), none⟩,
    ⟨(some 40), .call n_poly_Trim [(.t 39)] false, none⟩,
    ⟨(some 4), .mov (.t 40), none⟩] []) <|
  .keep [4] []) <|
  .ret, [.t 4]⟩

/- 32: gantry/gantryref06.Shift -/
def gantryref06_Shift_l0 : C :=
  .seq (.seq (.seq (.seq (.reg [⟨(some 15), .mov (.t 7), none⟩,
    ⟨(some 16), .bin .geq (.t 15) (.c (.v (.int .i64 0))), none⟩] []) <|
  .keep [0, 5, 6, 7, 16] []) <|
  .cond (.t 16) (.skip) <|
  .seq (.keep [6] []) <|
  .exit 0) <|
  .seq (.seq (.blk 1 <|
  .seq (.reg [⟨(some 19), .mov (.t 6), none⟩,
    ⟨(some 20), .mov (.t 5), none⟩,
    ⟨(some 21), .call n_gantryref06_Mul [(.t 19), (.t 20)] false, none⟩,
    ⟨(some 22), .mov (.t 0), none⟩,
    ⟨(some 23), .mov (.t 7), none⟩,
    ⟨(some 24), .ixa 4 (.t 22) (.t 23), none⟩,
    ⟨(some 25), .load (some 4) (.t 24), none⟩,
    ⟨(some 26), .lit 4 1 [.v (.bool false), .z true, .v (.bool false), .z true] [(0, (.t 25))] true, none⟩,
    ⟨(some 27), .call n_gantryref06_Trim [(.t 26)] false, none⟩,
    ⟨(some 28), .call n_gantryref06_Add [(.t 21), (.t 27)] false, none⟩,
    ⟨(some 6), .mov (.t 28), none⟩] []) <|
  .keep [0, 5, 6, 7] []) <|
  .keep [0, 5, 6, 7] []) <|
  .seq (.reg [⟨(some 17), .mov (.t 7), none⟩,
    ⟨(some 18), .bin .sub (.t 17) (.c (.v (.int .i64 1))), none⟩,
    ⟨(some 7), .mov (.t 18), none⟩] []) <|
  .keep [0, 5, 6, 7] []) <|
  .keep [0, 5, 6, 7] []
def gantryref06_Shift : CF := ⟨2, .seq (.seq (.reg [⟨(some 3), .box (.t 1), none⟩,
    ⟨(some 4), .mov (.c (.z true)), none⟩] []) <|
  .keep [0, 3] [[3]]) <|
  .seq (.seq (.reg [⟨(some 8), .load (some 4) (.t 3), none⟩,
    ⟨(some 9), .call n_gantryref05_Of [(.c (.v (.int .i64 1))), (.c (.v (.int .i64 1)))] false, none⟩,
    ⟨(some 10), .lit 4 2 [.v (.bool false), .z true, .v (.bool false), .z true] [(0, (.t 8)), (1, (.t 9))] true, none⟩,
    ⟨(some 11), .call n_gantryref06_Trim [(.t 10)] false, none⟩,
    ⟨(some 5), .mov (.t 11), none⟩] []) <|
  .keep [0, 5] []) <|
  .seq (.seq (.reg [⟨(some 6), .mov (.c (.z true)), none⟩] []) <|
  .keep [0, 5, 6] []) <|
  .seq (.seq (.seq (.reg [⟨(some 12), .mov (.t 0), none⟩,
    ⟨(some 13), .len (.t 12), none⟩,
    ⟨(some 14), .bin .sub (.t 13) (.c (.v (.int .i64 1))), none⟩,
    ⟨(some 7), .mov (.t 14), none⟩] []) <|
  .keep [0, 5, 6, 7] []) <|
  .seq (.blk 0 <|
  .seq (.keep [0, 5, 6, 7] []) <|
  .loop gantryref06_Shift_l0) <|
  .keep [6] []) <|
  .seq (.seq (.reg [⟨(some 29), .mov (.t 6), none⟩,
    ⟨(some 4), .mov (.t 29), none⟩] []) <|
  .keep [4] []) <|
  .ret, [.t 4]⟩

/- 33: gantry/rat.Same -/
def rat_Same : CF := ⟨2, .seq (.seq (.reg [⟨(some 2), .box (.t 0), none⟩,
    ⟨(some 3), .box (.t 1), none⟩,
    ⟨(some 4), .mov (.c (.v (.bool false))), none⟩] []) <|
  .keep [2, 3] [[2], [3]]) <|
  .seq (.seq (.reg [⟨(some 5), .mov (.f n_rat_Same_1), none⟩] []) <|
  .keep [2, 3, 5] [[2], [3]]) <|
  .seq (.seq (.reg [⟨(some 6), .mov (.t 5), none⟩,
    ⟨(some 7), .fad 0 (.t 2), none⟩,
    ⟨(some 8), .load (some 2) (.t 7), none⟩,
    ⟨(some 9), .fad 0 (.t 3), none⟩,
    ⟨(some 10), .load (some 2) (.t 9), none⟩,
    ⟨(some 11), .calv (.t 6) [(.t 8), (.t 10)], none⟩,
    ⟨(some 12), .mov (.t 11), none⟩,
    ⟨(some 13), .mov (.t 5), (some (12, true))⟩,
    ⟨(some 14), .fad 2 (.t 2), (some (12, true))⟩,
    ⟨(some 15), .load (some 2) (.t 14), (some (12, true))⟩,
    ⟨(some 16), .fad 2 (.t 3), (some (12, true))⟩,
    ⟨(some 17), .load (some 2) (.t 16), (some (12, true))⟩,
    ⟨(some 18), .calv (.t 13) [(.t 15), (.t 17)], (some (12, true))⟩,
    ⟨(some 19), .pick (.t 12) (.t 18) (.c (.v (.bool false))), none⟩,
    ⟨(some 4), .mov (.t 19), none⟩] []) <|
  .keep [4] []) <|
  .ret, [.t 4]⟩

/- 34: gantry/rat.Add -/
def rat_Add : CF := ⟨2, .seq (.seq (.reg [⟨(some 2), .box (.t 0), none⟩,
    ⟨(some 3), .box (.t 1), none⟩,
    ⟨(some 4), .new [.v (.bool false), .z true, .v (.bool false), .z true], none⟩] []) <|
  .keep [2, 3, 4] [[2], [3], [4]]) <|
  .seq (.seq (.blk 0 <|
  .seq (.seq (.reg [⟨(some 8), .fad 2 (.t 2), none⟩,
    ⟨(some 9), .fad 1 (.t 8), none⟩,
    ⟨(some 10), .load none (.t 9), none⟩,
    ⟨(some 11), .len (.t 10), none⟩,
    ⟨(some 12), .bin .eql (.t 11) (.c (.v (.int .i64 0))), none⟩,
    ⟨(some 13), .mov (.t 12), none⟩,
    ⟨(some 14), .fad 2 (.t 3), (some (13, true))⟩,
    ⟨(some 15), .fad 1 (.t 14), (some (13, true))⟩,
    ⟨(some 16), .load none (.t 15), (some (13, true))⟩,
    ⟨(some 17), .len (.t 16), (some (13, true))⟩,
    ⟨(some 18), .bin .eql (.t 17) (.c (.v (.int .i64 0))), (some (13, true))⟩,
    ⟨(some 19), .pick (.t 13) (.t 18) (.c (.v (.bool false))), none⟩,
    ⟨(some 7), .mov (.t 19), none⟩] []) <|
  .keep [2, 3, 4, 7] [[2], [3], [4]]) <|
  .cond (.t 7) (.seq (.seq (.reg [⟨(some 20), .fad 0 (.t 2), none⟩,
    ⟨(some 21), .load (some 2) (.t 20), none⟩,
    ⟨(some 22), .fad 0 (.t 3), none⟩,
    ⟨(some 23), .load (some 2) (.t 22), none⟩,
    ⟨(some 24), .call n_integer_Add [(.t 21), (.t 23)] false, none⟩,
    ⟨(some 25), .build [.v (.bool false), .z true, .v (.bool false), .z true] [(0, 2, (.t 24))], none⟩,
    ⟨none, .store 4 (.t 4) (.t 25), none⟩] []) <|
  .keep [4] [[4]]) <|
  .ret) <|
  .seq (.seq (.reg [⟨(some 27), .fad 0 (.t 2), none⟩,
    ⟨(some 28), .fad 1 (.t 27), none⟩,
    ⟨(some 29), .load none (.t 28), none⟩,
    ⟨(some 30), .len (.t 29), none⟩,
    ⟨(some 31), .bin .eql (.t 30) (.c (.v (.int .i64 0))), none⟩,
    ⟨(some 26), .mov (.t 31), none⟩] []) <|
  .keep [2, 3, 4, 26] [[2], [3], [4]]) <|
  .cond (.t 26) (.seq (.seq (.reg [⟨(some 32), .load (some 4) (.t 3), none⟩,
    ⟨none, .store 4 (.t 4) (.t 32), none⟩] []) <|
  .keep [4] [[4]]) <|
  .ret) <|
  .seq (.seq (.reg [⟨(some 34), .fad 0 (.t 3), none⟩,
    ⟨(some 35), .fad 1 (.t 34), none⟩,
    ⟨(some 36), .load none (.t 35), none⟩,
    ⟨(some 37), .len (.t 36), none⟩,
    ⟨(some 38), .bin .eql (.t 37) (.c (.v (.int .i64 0))), none⟩,
    ⟨(some 33), .mov (.t 38), none⟩] []) <|
  .keep [2, 3, 4, 33] [[2], [3], [4]]) <|
  .cond (.t 33) (.seq (.seq (.reg [⟨(some 39), .load (some 4) (.t 2), none⟩,
    ⟨none, .store 4 (.t 4) (.t 39), none⟩] []) <|
  .keep [4] [[4]]) <|
  .ret) <|
  .skip) <|
  .keep [2, 3, 4] [[2], [3], [4]]) <|
  .seq (.seq (.reg [⟨(some 40), .load (some 4) (.t 2), none⟩,
    ⟨(some 41), .call n_rat_Den [(.t 40)] false, none⟩,
    ⟨(some 42), .load (some 4) (.t 3), none⟩,
    ⟨(some 43), .call n_rat_Den [(.t 42)] false, none⟩,
    ⟨(some 5), .new [.v (.bool false), .z true], none⟩,
    ⟨(some 6), .new [.v (.bool false), .z true], none⟩,
    ⟨none, .store 2 (.t 5) (.t 41), none⟩,
    ⟨none, .store 2 (.t 6) (.t 43), none⟩] []) <|
  .keep [2, 3, 4, 5, 6] [[2], [3], [4], [5], [6]]) <|
  .seq (.seq (.reg [⟨(some 44), .fad 0 (.t 2), none⟩,
    ⟨(some 45), .load (some 2) (.t 44), none⟩,
    ⟨(some 46), .load (some 2) (.t 6), none⟩,
    ⟨(some 47), .call n_integer_Mul [(.t 45), (.t 46)] false, none⟩,
    ⟨(some 48), .fad 0 (.t 3), none⟩,
    ⟨(some 49), .load (some 2) (.t 48), none⟩,
    ⟨(some 50), .load (some 2) (.t 5), none⟩,
    ⟨(some 51), .call n_integer_Mul [(.t 49), (.t 50)] false, none⟩,
    ⟨(some 52), .call n_integer_Add [(.t 47), (.t 51)] false, none⟩,
    ⟨(some 53), .load (some 2) (.t 5), none⟩,
    ⟨(some 54), .load (some 2) (.t 6), none⟩,
    ⟨(some 55), .call n_integer_Mul [(.t 53), (.t 54)] false, none⟩,
    ⟨(some 56), .call n_rat_Make [(.t 52), (.t 55)] false, none⟩,
    ⟨none, .store 4 (.t 4) (.t 56), none⟩] []) <|
  .keep [4] [[4]]) <|
  .ret, [.cell 4 (some 4)]⟩

/- 35: gantry/rat.Mul -/
def rat_Mul : CF := ⟨2, .seq (.seq (.reg [⟨(some 2), .box (.t 0), none⟩,
    ⟨(some 3), .box (.t 1), none⟩,
    ⟨(some 4), .new [.v (.bool false), .z true, .v (.bool false), .z true], none⟩] []) <|
  .keep [2, 3, 4] [[2], [3], [4]]) <|
  .seq (.seq (.seq (.reg [⟨(some 7), .fad 0 (.t 2), none⟩,
    ⟨(some 8), .fad 1 (.t 7), none⟩,
    ⟨(some 9), .load none (.t 8), none⟩,
    ⟨(some 10), .len (.t 9), none⟩,
    ⟨(some 11), .bin .eql (.t 10) (.c (.v (.int .i64 0))), none⟩,
    ⟨(some 12), .mov (.t 11), none⟩,
    ⟨(some 13), .fad 0 (.t 3), (some (12, false))⟩,
    ⟨(some 14), .fad 1 (.t 13), (some (12, false))⟩,
    ⟨(some 15), .load none (.t 14), (some (12, false))⟩,
    ⟨(some 16), .len (.t 15), (some (12, false))⟩,
    ⟨(some 17), .bin .eql (.t 16) (.c (.v (.int .i64 0))), (some (12, false))⟩,
    ⟨(some 18), .pick (.t 12) (.c (.v (.bool true))) (.t 17), none⟩] []) <|
  .keep [2, 3, 4, 18] [[2], [3], [4]]) <|
  .cond (.t 18) (.seq (.seq (.reg [⟨(some 19), .build [.v (.bool false), .z true, .v (.bool false), .z true] [], none⟩,
    ⟨none, .store 4 (.t 4) (.t 19), none⟩] []) <|
  .keep [4] [[4]]) <|
  .ret) <|
  .skip) <|
  .seq (.seq (.seq (.reg [⟨(some 20), .fad 2 (.t 2), none⟩,
    ⟨(some 21), .fad 1 (.t 20), none⟩,
    ⟨(some 22), .load none (.t 21), none⟩,
    ⟨(some 23), .len (.t 22), none⟩,
    ⟨(some 24), .bin .eql (.t 23) (.c (.v (.int .i64 0))), none⟩,
    ⟨(some 25), .mov (.t 24), none⟩,
    ⟨(some 26), .fad 2 (.t 3), (some (25, true))⟩,
    ⟨(some 27), .fad 1 (.t 26), (some (25, true))⟩,
    ⟨(some 28), .load none (.t 27), (some (25, true))⟩,
    ⟨(some 29), .len (.t 28), (some (25, true))⟩,
    ⟨(some 30), .bin .eql (.t 29) (.c (.v (.int .i64 0))), (some (25, true))⟩,
    ⟨(some 31), .pick (.t 25) (.t 30) (.c (.v (.bool false))), none⟩] []) <|
  .keep [2, 3, 4, 31] [[2], [3], [4]]) <|
  .cond (.t 31) (.seq (.seq (.reg [⟨(some 32), .fad 0 (.t 2), none⟩,
    ⟨(some 33), .load (some 2) (.t 32), none⟩,
    ⟨(some 34), .fad 0 (.t 3), none⟩,
    ⟨(some 35), .load (some 2) (.t 34), none⟩,
    ⟨(some 36), .call n_integer_Mul [(.t 33), (.t 35)] false, none⟩,
    ⟨(some 37), .build [.v (.bool false), .z true, .v (.bool false), .z true] [(0, 2, (.t 36))], none⟩,
    ⟨none, .store 4 (.t 4) (.t 37), none⟩] []) <|
  .keep [4] [[4]]) <|
  .ret) <|
  .skip) <|
  .seq (.seq (.reg [⟨(some 38), .fad 0 (.t 2), none⟩,
    ⟨(some 39), .load (some 2) (.t 38), none⟩,
    ⟨(some 40), .load (some 4) (.t 3), none⟩,
    ⟨(some 41), .call n_rat_Den [(.t 40)] false, none⟩,
    ⟨(some 42), .call n_rat_Make [(.t 39), (.t 41)] false, none⟩,
    ⟨(some 43), .fad 0 (.t 3), none⟩,
    ⟨(some 44), .load (some 2) (.t 43), none⟩,
    ⟨(some 45), .load (some 4) (.t 2), none⟩,
    ⟨(some 46), .call n_rat_Den [(.t 45)] false, none⟩,
    ⟨(some 47), .call n_rat_Make [(.t 44), (.t 46)] false, none⟩,
    ⟨(some 5), .new [.v (.bool false), .z true, .v (.bool false), .z true], none⟩,
    ⟨(some 6), .new [.v (.bool false), .z true, .v (.bool false), .z true], none⟩,
    ⟨none, .store 4 (.t 5) (.t 42), none⟩,
    ⟨none, .store 4 (.t 6) (.t 47), none⟩] []) <|
  .keep [4, 5, 6] [[4], [5], [6]]) <|
  .seq (.seq (.reg [⟨(some 48), .fad 0 (.t 5), none⟩,
    ⟨(some 49), .load (some 2) (.t 48), none⟩,
    ⟨(some 50), .fad 0 (.t 6), none⟩,
    ⟨(some 51), .load (some 2) (.t 50), none⟩,
    ⟨(some 52), .call n_integer_Mul [(.t 49), (.t 51)] false, none⟩,
    ⟨(some 53), .load (some 4) (.t 5), none⟩,
    ⟨(some 54), .call n_rat_Den [(.t 53)] false, none⟩,
    ⟨(some 55), .load (some 4) (.t 6), none⟩,
    ⟨(some 56), .call n_rat_Den [(.t 55)] false, none⟩,
    ⟨(some 57), .call n_integer_Mul [(.t 54), (.t 56)] false, none⟩,
    ⟨(some 58), .call n_rat_lowest [(.t 52), (.t 57)] false, none⟩,
    ⟨none, .store 4 (.t 4) (.t 58), none⟩] []) <|
  .keep [4] [[4]]) <|
  .ret, [.cell 4 (some 4)]⟩

/- 36: gantry/poly.Encode -/
def poly_Encode_l0 : C :=
  .seq (.seq (.seq (.reg [⟨(some 12), .bin .lss (.t 11) (.t 10), none⟩] []) <|
  .keep [3, 9, 10, 11, 12] [[8], [18]]) <|
  .seq (.cond (.t 12) (.skip) <|
  .seq (.keep [3] [[8], [18]]) <|
  .exit 0) <|
  .seq (.seq (.blk 1 <|
  .seq (.seq (.reg [⟨(some 13), .ixa 4 (.t 9) (.t 11), none⟩,
    ⟨(some 14), .load (some 4) (.t 13), none⟩,
    ⟨(some 5), .new [.v (.bool false), .z true, .v (.bool false), .z true], none⟩,
    ⟨none, .store 4 (.t 5) (.t 14), none⟩] []) <|
  .keep [3, 5, 9, 10, 11] [[5], [8], [18]]) <|
  .seq (.reg [⟨(some 15), .mov (.t 3), none⟩,
    ⟨(some 16), .load (some 4) (.t 5), none⟩,
    ⟨(some 17), .call n_rat_Encode [(.t 16)] false, none⟩,
    ⟨(some 18), .app 1 1 (.t 15) (.t 17) false, none⟩,
    ⟨(some 3), .mov (.t 18), none⟩] []) <|
  .keep [3, 9, 10, 11] [[8], [18]]) <|
  .keep [3, 9, 10, 11] [[8], [18]]) <|
  .seq (.reg [⟨(some 19), .bin .add (.t 11) (.c (.v (.int .i64 1))), none⟩,
    ⟨(some 11), .mov (.t 19), none⟩] []) <|
  .keep [3, 9, 10, 11] [[8], [18]]) <|
  .keep [3, 9, 10, 11] [[8], [18]]
def poly_Encode : CF := ⟨1, .seq (.seq (.reg [⟨(some 2), .mov (.c (.z true)), none⟩] []) <|
  .keep [0] []) <|
  .seq (.seq (.reg [⟨(some 6), .mov (.t 0), none⟩,
    ⟨(some 7), .len (.t 6), none⟩,
    ⟨(some 8), .call n_wire_Int [(.t 7)] true, none⟩,
    ⟨(some 3), .mov (.t 8), none⟩] []) <|
  .keep [0, 3] [[8], [18]]) <|
  .seq (.seq (.seq (.reg [⟨(some 9), .mov (.t 0), none⟩,
    ⟨(some 10), .len (.t 9), none⟩,
    ⟨(some 11), .mov (.c (.v (.int .i64 0))), none⟩] []) <|
  .keep [3, 9, 10, 11] [[8], [18]]) <|
  .seq (.blk 0 <|
  .seq (.keep [3, 9, 10, 11] [[8], [18]]) <|
  .loop poly_Encode_l0) <|
  .keep [3] [[8], [18]]) <|
  .seq (.seq (.reg [⟨(some 20), .mov (.t 3), none⟩,
    ⟨(some 2), .mov (.t 20), none⟩] []) <|
  .keep [2] [[8], [18]]) <|
  .ret, [.t 2]⟩

/- 37: gantry/gantryref01.Same -/
def gantryref01_Same_l0 : C :=
  .seq (.seq (.seq (.seq (.reg [⟨(some 11), .mov (.t 5), none⟩,
    ⟨(some 12), .mov (.t 0), none⟩,
    ⟨(some 13), .len (.t 12), none⟩,
    ⟨(some 14), .bin .lss (.t 11) (.t 13), none⟩] []) <|
  .keep [0, 1, 5, 14] []) <|
  .cond (.t 14) (.skip) <|
  .seq (.keep [] []) <|
  .exit 0) <|
  .seq (.seq (.blk 1 <|
  .seq (.seq (.reg [⟨(some 17), .mov (.t 0), none⟩,
    ⟨(some 18), .mov (.t 5), none⟩,
    ⟨(some 19), .ixa 1 (.t 17) (.t 18), none⟩,
    ⟨(some 20), .load none (.t 19), none⟩,
    ⟨(some 21), .mov (.t 1), none⟩,
    ⟨(some 22), .mov (.t 5), none⟩,
    ⟨(some 23), .ixa 1 (.t 21) (.t 22), none⟩,
    ⟨(some 24), .load none (.t 23), none⟩,
    ⟨(some 25), .bin .neq (.t 20) (.t 24), none⟩] []) <|
  .keep [0, 1, 5, 25] []) <|
  .cond (.t 25) (.seq (.seq (.reg [⟨(some 4), .mov (.c (.v (.bool false))), none⟩] []) <|
  .keep [4] []) <|
  .ret) <|
  .skip) <|
  .keep [0, 1, 5] []) <|
  .seq (.reg [⟨(some 15), .mov (.t 5), none⟩,
    ⟨(some 16), .bin .add (.t 15) (.c (.v (.int .i64 1))), none⟩,
    ⟨(some 5), .mov (.t 16), none⟩] []) <|
  .keep [0, 1, 5] []) <|
  .keep [0, 1, 5] []
def gantryref01_Same : CF := ⟨2, .seq (.seq (.reg [⟨(some 4), .mov (.c (.v (.bool false))), none⟩] []) <|
  .keep [0, 1] []) <|
  .seq (.seq (.seq (.reg [⟨(some 6), .mov (.t 0), none⟩,
    ⟨(some 7), .len (.t 6), none⟩,
    ⟨(some 8), .mov (.t 1), none⟩,
    ⟨(some 9), .len (.t 8), none⟩,
    ⟨(some 10), .bin .neq (.t 7) (.t 9), none⟩] []) <|
  .keep [0, 1, 10] []) <|
  .cond (.t 10) (.seq (.seq (.reg [⟨(some 4), .mov (.c (.v (.bool false))), none⟩] []) <|
  .keep [4] []) <|
  .ret) <|
  .skip) <|
  .seq (.seq (.seq (.reg [⟨(some 5), .mov (.c (.v (.int .i64 0))), none⟩] []) <|
  .keep [0, 1, 5] []) <|
  .seq (.blk 0 <|
  .seq (.keep [0, 1, 5] []) <|
  .loop gantryref01_Same_l0) <|
  .keep [] []) <|
  .seq (.seq (.reg [⟨(some 4), .mov (.c (.v (.bool true))), none⟩] []) <|
  .keep [4] []) <|
  .ret, [.t 4]⟩

/- 38: gantry/gantryref06.Encode -/
def gantryref06_Encode_l0 : C :=
  .seq (.seq (.seq (.seq (.reg [⟨(some 8), .mov (.t 4), none⟩,
    ⟨(some 9), .mov (.t 0), none⟩,
    ⟨(some 10), .len (.t 9), none⟩,
    ⟨(some 11), .bin .lss (.t 8) (.t 10), none⟩] []) <|
  .keep [0, 3, 4, 11] [[7], [20]]) <|
  .cond (.t 11) (.skip) <|
  .seq (.keep [3] [[7], [20]]) <|
  .exit 0) <|
  .seq (.seq (.blk 1 <|
  .seq (.reg [⟨(some 14), .mov (.t 3), none⟩,
    ⟨(some 15), .mov (.t 0), none⟩,
    ⟨(some 16), .mov (.t 4), none⟩,
    ⟨(some 17), .ixa 4 (.t 15) (.t 16), none⟩,
    ⟨(some 18), .load (some 4) (.t 17), none⟩,
    ⟨(some 19), .call n_gantryref05_Encode [(.t 18)] false, none⟩,
    ⟨(some 20), .app 1 1 (.t 14) (.t 19) false, none⟩,
    ⟨(some 3), .mov (.t 20), none⟩] []) <|
  .keep [0, 3, 4] [[7], [20]]) <|
  .keep [0, 3, 4] [[7], [20]]) <|
  .seq (.reg [⟨(some 12), .mov (.t 4), none⟩,
    ⟨(some 13), .bin .add (.t 12) (.c (.v (.int .i64 1))), none⟩,
    ⟨(some 4), .mov (.t 13), none⟩] []) <|
  .keep [0, 3, 4] [[7], [20]]) <|
  .keep [0, 3, 4] [[7], [20]]
def gantryref06_Encode : CF := ⟨1, .seq (.seq (.reg [⟨(some 2), .mov (.c (.z true)), none⟩] []) <|
  .keep [0] []) <|
  .seq (.seq (.reg [⟨(some 5), .mov (.t 0), none⟩,
    ⟨(some 6), .len (.t 5), none⟩,
    ⟨(some 7), .call n_gantryref01_Int [(.t 6)] true, none⟩,
    ⟨(some 3), .mov (.t 7), none⟩] []) <|
  .keep [0, 3] [[7], [20]]) <|
  .seq (.seq (.seq (.reg [⟨(some 4), .mov (.c (.v (.int .i64 0))), none⟩] []) <|
  .keep [0, 3, 4] [[7], [20]]) <|
  .seq (.blk 0 <|
  .seq (.keep [0, 3, 4] [[7], [20]]) <|
  .loop gantryref06_Encode_l0) <|
  .keep [3] [[7], [20]]) <|
  .seq (.seq (.reg [⟨(some 21), .mov (.t 3), none⟩,
    ⟨(some 2), .mov (.t 21), none⟩] []) <|
  .keep [2] [[7], [20]]) <|
  .ret, [.t 2]⟩

/- 39: gantry/gantryref01.Around -/
def gantryref01_Around : CF := ⟨2, .seq (.seq (.reg [⟨(some 4), .mov (.c (.v (.int .i64 0))), none⟩] []) <|
  .keep [0, 1] []) <|
  .seq (.seq (.seq (.reg [⟨(some 5), .mov (.t 0), none⟩,
    ⟨(some 6), .bin .lss (.t 5) (.c (.v (.int .i64 0))), none⟩] []) <|
  .keep [0, 1, 6] []) <|
  .cond (.t 6) (.seq (.reg [⟨(some 7), .mov (.t 0), none⟩,
    ⟨(some 8), .bin .add (.t 7) (.c (.v (.int .i64 1))), none⟩,
    ⟨(some 9), .un .neg (.t 8), none⟩,
    ⟨(some 0), .mov (.t 9), none⟩] []) <|
  .keep [0, 1] []) <|
  .skip) <|
  .seq (.seq (.reg [⟨(some 10), .mov (.t 0), none⟩,
    ⟨(some 11), .mov (.t 1), none⟩,
    ⟨(some 12), .bin .rem (.t 10) (.t 11), none⟩,
    ⟨(some 4), .mov (.t 12), none⟩] []) <|
  .keep [4] []) <|
  .ret, [.t 4]⟩

/- 40: gantry/poly.Decode -/
def poly_Decode_l0 : C :=
  .seq (.seq (.seq (.reg [⟨(some 26), .bin .lss (.t 25) (.t 24), none⟩] []) <|
  .keep [0, 6, 7, 8, 24, 25, 26] [[40]]) <|
  .seq (.cond (.t 26) (.skip) <|
  .seq (.keep [6, 7, 8] [[40]]) <|
  .exit 0) <|
  .seq (.seq (.blk 1 <|
  .seq (.seq (.seq (.reg [⟨(some 27), .mov (.t 7), none⟩,
    ⟨(some 28), .bin .neq (.t 27) (.c (.v (.int .i64 0))), none⟩] []) <|
  .keep [0, 6, 7, 8, 24, 25, 28] [[40]]) <|
  .cond (.t 28) (.seq (.keep [6, 7, 8] [[40]]) <|
  .exit 0) <|
  .skip) <|
  .seq (.seq (.reg [⟨(some 30), .mov (.t 0), none⟩,
    ⟨(some 31), .mov (.t 6), none⟩,
    ⟨(some 32), .slc 1 (.t 30) (some (.t 31)) none none, none⟩,
    ⟨(some 33), .call n_rat_Decode [(.t 32)] false, none⟩,
    ⟨(some 29), .mov (.t 33), none⟩,
    ⟨(some 34), .ext (.t 29) 0, none⟩,
    ⟨(some 35), .ext (.t 29) 1, none⟩,
    ⟨(some 36), .ext (.t 29) 2, none⟩,
    ⟨(some 9), .new [.v (.bool false), .z true, .v (.bool false), .z true], none⟩,
    ⟨none, .store 4 (.t 9) (.t 34), none⟩,
    ⟨(some 10), .mov (.t 35), none⟩,
    ⟨(some 11), .mov (.t 36), none⟩] []) <|
  .keep [0, 6, 8, 9, 10, 11, 24, 25] [[9], [40]]) <|
  .seq (.reg [⟨(some 37), .mov (.t 8), none⟩,
    ⟨(some 38), .load (some 4) (.t 9), none⟩,
    ⟨(some 39), .lit 4 1 [.v (.bool false), .z true, .v (.bool false), .z true] [(0, (.t 38))] true, none⟩,
    ⟨(some 40), .app 4 64 (.t 37) (.t 39) false, none⟩,
    ⟨(some 41), .mov (.t 6), none⟩,
    ⟨(some 42), .mov (.t 10), none⟩,
    ⟨(some 43), .bin .add (.t 41) (.t 42), none⟩,
    ⟨(some 44), .mov (.t 11), none⟩,
    ⟨(some 8), .mov (.t 40), none⟩,
    ⟨(some 6), .mov (.t 43), none⟩,
    ⟨(some 7), .mov (.t 44), none⟩] []) <|
  .keep [0, 6, 7, 8, 24, 25] [[40]]) <|
  .keep [0, 6, 7, 8, 24, 25] [[40]]) <|
  .seq (.reg [⟨(some 45), .bin .add (.t 25) (.c (.v (.int .i64 1))), none⟩,
    ⟨(some 25), .mov (.t 45), none⟩] []) <|
  .keep [0, 6, 7, 8, 24, 25] [[40]]) <|
  .keep [0, 6, 7, 8, 24, 25] [[40]]
def poly_Decode : CF := ⟨1, .seq (.seq (.reg [⟨(some 2), .mov (.c (.z true)), none⟩,
    ⟨(some 3), .mov (.c (.v (.int .i64 0))), none⟩,
    ⟨(some 4), .mov (.c (.v (.int .i64 0))), none⟩] []) <|
  .keep [0] []) <|
  .seq (.seq (.reg [⟨(some 13), .mov (.t 0), none⟩,
    ⟨(some 14), .call n_wire_GetInt [(.t 13)] false, none⟩,
    ⟨(some 12), .mov (.t 14), none⟩,
    ⟨(some 15), .ext (.t 12) 0, none⟩,
    ⟨(some 16), .ext (.t 12) 1, none⟩,
    ⟨(some 17), .ext (.t 12) 2, none⟩,
    ⟨(some 5), .mov (.t 15), none⟩,
    ⟨(some 6), .mov (.t 16), none⟩,
    ⟨(some 7), .mov (.t 17), none⟩] []) <|
  .keep [0, 5, 6, 7] []) <|
  .seq (.seq (.seq (.reg [⟨(some 18), .mov (.t 7), none⟩,
    ⟨(some 19), .bin .eql (.t 18) (.c (.v (.int .i64 0))), none⟩,
    ⟨(some 20), .mov (.t 19), none⟩,
    ⟨(some 21), .mov (.t 5), (some (20, true))⟩,
    ⟨(some 22), .bin .lss (.t 21) (.c (.v (.int .i64 0))), (some (20, true))⟩,
    ⟨(some 23), .pick (.t 20) (.t 22) (.c (.v (.bool false))), none⟩] []) <|
  .keep [0, 5, 6, 7, 23] []) <|
  .cond (.t 23) (.seq (.reg [⟨(some 7), .mov (.c (.v (.int .i64 2))), none⟩] []) <|
  .keep [0, 5, 6, 7] []) <|
  .skip) <|
  .seq (.seq (.reg [⟨(some 8), .mov (.c (.z true)), none⟩] []) <|
  .keep [0, 5, 6, 7, 8] [[40]]) <|
  .seq (.seq (.seq (.reg [⟨(some 24), .mov (.t 5), none⟩,
    ⟨(some 25), .mov (.c (.v (.int .i64 0))), none⟩] []) <|
  .keep [0, 6, 7, 8, 24, 25] [[40]]) <|
  .seq (.blk 0 <|
  .seq (.keep [0, 6, 7, 8, 24, 25] [[40]]) <|
  .loop poly_Decode_l0) <|
  .keep [6, 7, 8] [[40]]) <|
  .seq (.seq (.seq (.frz 8) <|
  .seq (.reg [⟨(some 46), .mov (.t 7), none⟩,
    ⟨(some 47), .bin .eql (.t 46) (.c (.v (.int .i64 0))), none⟩,
    ⟨(some 48), .mov (.t 47), none⟩,
    ⟨(some 49), .mov (.t 8), (some (48, true))⟩,
    ⟨(some 50), .call n_poly_Valid [(.t 49)] false, (some (48, true))⟩,
    ⟨(some 51), .un .not (.t 50), (some (48, true))⟩,
    ⟨(some 52), .pick (.t 48) (.t 51) (.c (.v (.bool false))), none⟩] []) <|
  .keep [6, 7, 8, 52] [[40]]) <|
  .cond (.t 52) (.seq (.reg [⟨(some 7), .mov (.c (.v (.int .i64 2))), none⟩] []) <|
  .keep [6, 7, 8] [[40]]) <|
  .skip) <|
  .seq (.seq (.seq (.reg [⟨(some 53), .mov (.t 7), none⟩,
    ⟨(some 54), .bin .neq (.t 53) (.c (.v (.int .i64 0))), none⟩] []) <|
  .keep [6, 7, 8, 54] [[40]]) <|
  .cond (.t 54) (.seq (.seq (.reg [⟨(some 55), .mov (.t 7), none⟩,
    ⟨(some 2), .mov (.c (.z true)), none⟩,
    ⟨(some 3), .mov (.c (.v (.int .i64 0))), none⟩,
    ⟨(some 4), .mov (.t 55), none⟩] []) <|
  .keep [2, 3, 4] [[40]]) <|
  .ret) <|
  .skip) <|
  .seq (.seq (.reg [⟨(some 56), .mov (.t 8), none⟩,
    ⟨(some 57), .mov (.t 6), none⟩,
    ⟨(some 2), .mov (.t 56), none⟩,
    ⟨(some 3), .mov (.t 57), none⟩,
    ⟨(some 4), .mov (.c (.v (.int .i64 0))), none⟩] []) <|
  .keep [2, 3, 4] [[40]]) <|
  .ret, [.t 2, .t 3, .t 4]⟩

/- 41: gantry/gantryref06.Decode -/
def gantryref06_Decode_l0 : C :=
  .seq (.seq (.seq (.seq (.reg [⟨(some 24), .mov (.t 9), none⟩,
    ⟨(some 25), .mov (.t 5), none⟩,
    ⟨(some 26), .bin .lss (.t 24) (.t 25), none⟩] []) <|
  .keep [0, 5, 6, 8, 9, 26] [[43]]) <|
  .cond (.t 26) (.skip) <|
  .seq (.keep [6, 8] [[43]]) <|
  .exit 0) <|
  .seq (.seq (.blk 1 <|
  .seq (.seq (.reg [⟨(some 30), .mov (.t 0), none⟩,
    ⟨(some 31), .mov (.t 6), none⟩,
    ⟨(some 32), .slc 1 (.t 30) (some (.t 31)) none none, none⟩,
    ⟨(some 33), .call n_gantryref05_Decode [(.t 32)] false, none⟩,
    ⟨(some 29), .mov (.t 33), none⟩,
    ⟨(some 34), .ext (.t 29) 0, none⟩,
    ⟨(some 35), .ext (.t 29) 1, none⟩,
    ⟨(some 36), .ext (.t 29) 2, none⟩,
    ⟨(some 10), .new [.v (.bool false), .z true, .v (.bool false), .z true], none⟩,
    ⟨none, .store 4 (.t 10) (.t 34), none⟩,
    ⟨(some 11), .mov (.t 35), none⟩,
    ⟨(some 12), .mov (.t 36), none⟩] []) <|
  .keep [0, 5, 6, 8, 9, 10, 11, 12] [[10], [43]]) <|
  .seq (.seq (.seq (.reg [⟨(some 37), .mov (.t 12), none⟩,
    ⟨(some 38), .bin .neq (.t 37) (.c (.v (.int .i64 0))), none⟩] []) <|
  .keep [0, 5, 6, 8, 9, 10, 11, 12, 38] [[10], [43]]) <|
  .cond (.t 38) (.seq (.seq (.reg [⟨(some 39), .mov (.t 12), none⟩,
    ⟨(some 2), .mov (.c (.z true)), none⟩,
    ⟨(some 3), .mov (.c (.v (.int .i64 0))), none⟩,
    ⟨(some 4), .mov (.t 39), none⟩] []) <|
  .keep [2, 3, 4] [[43]]) <|
  .ret) <|
  .skip) <|
  .seq (.seq (.reg [⟨(some 40), .mov (.t 8), none⟩,
    ⟨(some 41), .load (some 4) (.t 10), none⟩,
    ⟨(some 42), .lit 4 1 [.v (.bool false), .z true, .v (.bool false), .z true] [(0, (.t 41))] true, none⟩,
    ⟨(some 43), .app 4 64 (.t 40) (.t 42) false, none⟩,
    ⟨(some 8), .mov (.t 43), none⟩] []) <|
  .keep [0, 5, 6, 8, 9, 11] [[43]]) <|
  .seq (.reg [⟨(some 44), .mov (.t 6), none⟩,
    ⟨(some 45), .mov (.t 11), none⟩,
    ⟨(some 46), .bin .add (.t 44) (.t 45), none⟩,
    ⟨(some 6), .mov (.t 46), none⟩] []) <|
  .keep [0, 5, 6, 8, 9] [[43]]) <|
  .keep [0, 5, 6, 8, 9] [[43]]) <|
  .seq (.reg [⟨(some 27), .mov (.t 9), none⟩,
    ⟨(some 28), .bin .add (.t 27) (.c (.v (.int .i64 1))), none⟩,
    ⟨(some 9), .mov (.t 28), none⟩] []) <|
  .keep [0, 5, 6, 8, 9] [[43]]) <|
  .keep [0, 5, 6, 8, 9] [[43]]
def gantryref06_Decode : CF := ⟨1, .seq (.seq (.reg [⟨(some 2), .mov (.c (.z true)), none⟩,
    ⟨(some 3), .mov (.c (.v (.int .i64 0))), none⟩,
    ⟨(some 4), .mov (.c (.v (.int .i64 0))), none⟩] []) <|
  .keep [0] []) <|
  .seq (.seq (.reg [⟨(some 14), .mov (.t 0), none⟩,
    ⟨(some 15), .call n_gantryref01_GetInt [(.t 14)] false, none⟩,
    ⟨(some 13), .mov (.t 15), none⟩,
    ⟨(some 16), .ext (.t 13) 0, none⟩,
    ⟨(some 17), .ext (.t 13) 1, none⟩,
    ⟨(some 18), .ext (.t 13) 2, none⟩,
    ⟨(some 5), .mov (.t 16), none⟩,
    ⟨(some 6), .mov (.t 17), none⟩,
    ⟨(some 7), .mov (.t 18), none⟩] []) <|
  .keep [0, 5, 6, 7] []) <|
  .seq (.seq (.seq (.reg [⟨(some 19), .mov (.t 7), none⟩,
    ⟨(some 20), .bin .neq (.t 19) (.c (.v (.int .i64 0))), none⟩] []) <|
  .keep [0, 5, 6, 7, 20] []) <|
  .cond (.t 20) (.seq (.seq (.reg [⟨(some 21), .mov (.t 7), none⟩,
    ⟨(some 2), .mov (.c (.z true)), none⟩,
    ⟨(some 3), .mov (.c (.v (.int .i64 0))), none⟩,
    ⟨(some 4), .mov (.t 21), none⟩] []) <|
  .keep [2, 3, 4] [[43]]) <|
  .ret) <|
  .skip) <|
  .seq (.seq (.seq (.reg [⟨(some 22), .mov (.t 5), none⟩,
    ⟨(some 23), .bin .lss (.t 22) (.c (.v (.int .i64 0))), none⟩] []) <|
  .keep [0, 5, 6, 23] []) <|
  .cond (.t 23) (.seq (.seq (.reg [⟨(some 2), .mov (.c (.z true)), none⟩,
    ⟨(some 3), .mov (.c (.v (.int .i64 0))), none⟩,
    ⟨(some 4), .mov (.c (.v (.int .i64 2))), none⟩] []) <|
  .keep [2, 3, 4] [[43]]) <|
  .ret) <|
  .skip) <|
  .seq (.seq (.reg [⟨(some 8), .mov (.c (.z true)), none⟩] []) <|
  .keep [0, 5, 6, 8] [[43]]) <|
  .seq (.seq (.seq (.reg [⟨(some 9), .mov (.c (.v (.int .i64 0))), none⟩] []) <|
  .keep [0, 5, 6, 8, 9] [[43]]) <|
  .seq (.blk 0 <|
  .seq (.keep [0, 5, 6, 8, 9] [[43]]) <|
  .loop gantryref06_Decode_l0) <|
  .keep [6, 8] [[43]]) <|
  .seq (.seq (.seq (.frz 8) <|
  .seq (.reg [⟨(some 47), .mov (.t 8), none⟩,
    ⟨(some 48), .call n_gantryref06_Valid [(.t 47)] false, none⟩,
    ⟨(some 49), .un .not (.t 48), none⟩] []) <|
  .keep [6, 8, 49] [[43]]) <|
  .cond (.t 49) (.seq (.seq (.reg [⟨(some 2), .mov (.c (.z true)), none⟩,
    ⟨(some 3), .mov (.c (.v (.int .i64 0))), none⟩,
    ⟨(some 4), .mov (.c (.v (.int .i64 2))), none⟩] []) <|
  .keep [2, 3, 4] [[43]]) <|
  .ret) <|
  .skip) <|
  .seq (.seq (.reg [⟨(some 50), .mov (.t 8), none⟩,
    ⟨(some 51), .mov (.t 6), none⟩,
    ⟨(some 2), .mov (.t 50), none⟩,
    ⟨(some 3), .mov (.t 51), none⟩,
    ⟨(some 4), .mov (.c (.v (.int .i64 0))), none⟩] []) <|
  .keep [2, 3, 4] [[43]]) <|
  .ret, [.t 2, .t 3, .t 4]⟩

/- 42: gantry/gantryref01.At -/
def gantryref01_At : CF := ⟨3, .seq (.seq (.reg [⟨(some 6), .mov (.c (.v (.int .i64 0))), none⟩] []) <|
  .keep [0, 1, 2] []) <|
  .seq (.seq (.seq (.reg [⟨(some 7), .mov (.t 1), none⟩,
    ⟨(some 8), .bin .lss (.t 7) (.c (.v (.int .i64 0))), none⟩,
    ⟨(some 9), .mov (.t 8), none⟩,
    ⟨(some 10), .mov (.t 1), (some (9, false))⟩,
    ⟨(some 11), .mov (.t 0), (some (9, false))⟩,
    ⟨(some 12), .len (.t 11), (some (9, false))⟩,
    ⟨(some 13), .bin .geq (.t 10) (.t 12), (some (9, false))⟩,
    ⟨(some 14), .pick (.t 9) (.c (.v (.bool true))) (.t 13), none⟩] []) <|
  .keep [0, 1, 2, 14] []) <|
  .cond (.t 14) (.seq (.seq (.reg [⟨(some 6), .mov (.c (.v (.int .i64 0))), none⟩] []) <|
  .keep [6] []) <|
  .ret) <|
  .skip) <|
  .seq (.seq (.reg [⟨(some 15), .mov (.t 0), none⟩,
    ⟨(some 16), .mov (.t 1), none⟩,
    ⟨(some 17), .ixa 1 (.t 15) (.t 16), none⟩,
    ⟨(some 18), .load none (.t 17), none⟩,
    ⟨(some 19), .mov (.t 2), none⟩,
    ⟨(some 20), .call n_gantryref01_Around [(.t 18), (.t 19)] false, none⟩,
    ⟨(some 6), .mov (.t 20), none⟩] []) <|
  .keep [6] []) <|
  .ret, [.t 6]⟩

/- 43: gantry/gantryref06.Trim -/
def gantryref06_Trim_l0 : C :=
  .seq (.seq (.seq (.seq (.reg [⟨(some 7), .mov (.t 3), none⟩,
    ⟨(some 8), .bin .gtr (.t 7) (.c (.v (.int .i64 0))), none⟩,
    ⟨(some 9), .mov (.t 8), none⟩,
    ⟨(some 10), .mov (.t 0), (some (9, true))⟩,
    ⟨(some 11), .mov (.t 3), (some (9, true))⟩,
    ⟨(some 12), .bin .sub (.t 11) (.c (.v (.int .i64 1))), (some (9, true))⟩,
    ⟨(some 13), .mx [(.t 12), (.c (.v (.int .i64 0)))], (some (9, true))⟩,
    ⟨(some 14), .ixa 4 (.t 10) (.t 13), (some (9, true))⟩,
    ⟨(some 15), .load (some 4) (.t 14), (some (9, true))⟩,
    ⟨(some 16), .call n_gantryref05_Sign [(.t 15)] false, (some (9, true))⟩,
    ⟨(some 17), .bin .eql (.t 16) (.c (.v (.int .i64 0))), (some (9, true))⟩,
    ⟨(some 18), .pick (.t 9) (.t 17) (.c (.v (.bool false))), none⟩] []) <|
  .keep [0, 3, 18] []) <|
  .cond (.t 18) (.skip) <|
  .seq (.keep [0, 3] []) <|
  .exit 0) <|
  .seq (.blk 1 <|
  .seq (.reg [⟨(some 19), .mov (.t 3), none⟩,
    ⟨(some 20), .bin .sub (.t 19) (.c (.v (.int .i64 1))), none⟩,
    ⟨(some 3), .mov (.t 20), none⟩] []) <|
  .keep [0, 3] []) <|
  .keep [0, 3] []) <|
  .keep [0, 3] []
def gantryref06_Trim : CF := ⟨1, .seq (.seq (.reg [⟨(some 2), .mov (.c (.z true)), none⟩] []) <|
  .keep [0] []) <|
  .seq (.seq (.reg [⟨(some 5), .mov (.t 0), none⟩,
    ⟨(some 6), .len (.t 5), none⟩,
    ⟨(some 3), .mov (.t 6), none⟩] []) <|
  .keep [0, 3] []) <|
  .seq (.seq (.blk 0 <|
  .seq (.keep [0, 3] []) <|
  .loop gantryref06_Trim_l0) <|
  .keep [0, 3] []) <|
  .seq (.seq (.reg [⟨(some 4), .mov (.c (.z true)), none⟩] []) <|
  .keep [0, 3, 4] []) <|
  .seq (.seq (.reg [⟨(some 21), .mov (.t 4), none⟩,
    ⟨(some 22), .mov (.t 0), none⟩,
    ⟨(some 23), .mov (.t 3), none⟩,
    ⟨(some 24), .slc 4 (.t 22) none (some (.t 23)) none, none⟩,
    ⟨(some 25), .app 4 64 (.t 21) (.t 24) true, none⟩,
    ⟨(some 2), .mov (.t 25), none⟩] []) <|
  .keep [2] [[25]]) <|
  .ret, [.t 2]⟩

/- 44: gantry/gantryref05.Neg -/
def gantryref05_Neg : CF := ⟨1, .seq (.seq (.reg [⟨(some 1), .box (.t 0), none⟩,
    ⟨(some 2), .new [.v (.bool false), .z true, .v (.bool false), .z true], none⟩] []) <|
  .keep [1, 2] [[1], [2]]) <|
  .seq (.seq (.reg [⟨(some 3), .fad 0 (.t 1), none⟩,
    ⟨(some 4), .load (some 2) (.t 3), none⟩,
    ⟨(some 5), .call n_gantryref04_Neg [(.t 4)] false, none⟩,
    ⟨(some 6), .fad 2 (.t 1), none⟩,
    ⟨(some 7), .load (some 2) (.t 6), none⟩,
    ⟨(some 8), .build [.v (.bool false), .z true, .v (.bool false), .z true] [(0, 2, (.t 5)), (2, 2, (.t 7))], none⟩,
    ⟨none, .store 4 (.t 2) (.t 8), none⟩] []) <|
  .keep [2] [[2]]) <|
  .ret, [.cell 2 (some 4)]⟩

/- 45: gantry/gantryref05.Add -/
def gantryref05_Add : CF := ⟨2, .seq (.seq (.reg [⟨(some 2), .box (.t 0), none⟩,
    ⟨(some 3), .box (.t 1), none⟩,
    ⟨(some 4), .new [.v (.bool false), .z true, .v (.bool false), .z true], none⟩] []) <|
  .keep [2, 3, 4] [[2], [3], [4]]) <|
  .seq (.seq (.reg [⟨(some 7), .fad 0 (.t 2), none⟩,
    ⟨(some 8), .load (some 2) (.t 7), none⟩,
    ⟨(some 9), .load (some 4) (.t 3), none⟩,
    ⟨(some 10), .call n_gantryref05_Den [(.t 9)] false, none⟩,
    ⟨(some 11), .call n_gantryref04_Mul [(.t 8), (.t 10)] false, none⟩,
    ⟨(some 5), .new [.v (.bool false), .z true], none⟩,
    ⟨none, .store 2 (.t 5) (.t 11), none⟩] []) <|
  .keep [2, 3, 4, 5] [[2], [3], [4], [5]]) <|
  .seq (.seq (.reg [⟨(some 12), .fad 0 (.t 3), none⟩,
    ⟨(some 13), .load (some 2) (.t 12), none⟩,
    ⟨(some 14), .load (some 4) (.t 2), none⟩,
    ⟨(some 15), .call n_gantryref05_Den [(.t 14)] false, none⟩,
    ⟨(some 16), .call n_gantryref04_Mul [(.t 13), (.t 15)] false, none⟩,
    ⟨(some 6), .new [.v (.bool false), .z true], none⟩,
    ⟨none, .store 2 (.t 6) (.t 16), none⟩] []) <|
  .keep [2, 3, 4, 5, 6] [[2], [3], [4], [5], [6]]) <|
  .seq (.seq (.reg [⟨(some 17), .load (some 2) (.t 5), none⟩,
    ⟨(some 18), .load (some 2) (.t 6), none⟩,
    ⟨(some 19), .call n_gantryref04_Add [(.t 17), (.t 18)] false, none⟩,
    ⟨(some 20), .load (some 4) (.t 2), none⟩,
    ⟨(some 21), .call n_gantryref05_Den [(.t 20)] false, none⟩,
    ⟨(some 22), .load (some 4) (.t 3), none⟩,
    ⟨(some 23), .call n_gantryref05_Den [(.t 22)] false, none⟩,
    ⟨(some 24), .call n_gantryref04_Mul [(.t 21), (.t 23)] false, none⟩,
    ⟨(some 25), .call n_gantryref05_Make [(.t 19), (.t 24)] false, none⟩,
    ⟨none, .store 4 (.t 4) (.t 25), none⟩] []) <|
  .keep [4] [[4]]) <|
  .ret, [.cell 4 (some 4)]⟩

/- 46: gantry/gantryref05.Mul -/
def gantryref05_Mul : CF := ⟨2, .seq (.seq (.reg [⟨(some 2), .box (.t 0), none⟩,
    ⟨(some 3), .box (.t 1), none⟩,
    ⟨(some 4), .new [.v (.bool false), .z true, .v (.bool false), .z true], none⟩] []) <|
  .keep [2, 3, 4] [[2], [3], [4]]) <|
  .seq (.seq (.reg [⟨(some 5), .fad 0 (.t 2), none⟩,
    ⟨(some 6), .load (some 2) (.t 5), none⟩,
    ⟨(some 7), .fad 0 (.t 3), none⟩,
    ⟨(some 8), .load (some 2) (.t 7), none⟩,
    ⟨(some 9), .call n_gantryref04_Mul [(.t 6), (.t 8)] false, none⟩,
    ⟨(some 10), .load (some 4) (.t 2), none⟩,
    ⟨(some 11), .call n_gantryref05_Den [(.t 10)] false, none⟩,
    ⟨(some 12), .load (some 4) (.t 3), none⟩,
    ⟨(some 13), .call n_gantryref05_Den [(.t 12)] false, none⟩,
    ⟨(some 14), .call n_gantryref04_Mul [(.t 11), (.t 13)] false, none⟩,
    ⟨(some 15), .call n_gantryref05_Make [(.t 9), (.t 14)] false, none⟩,
    ⟨none, .store 4 (.t 4) (.t 15), none⟩] []) <|
  .keep [4] [[4]]) <|
  .ret, [.cell 4 (some 4)]⟩

/- 47: slices.Clone[gantry/api.Poly,gantry/api.Rat] -/
def slices_Clone_api_Poly_api_Rat : CF := ⟨1, .seq (.seq (.reg [⟨(some 2), .mov (.c (.z true)), none⟩] []) <|
  .keep [0] []) <|
  .seq (.seq (.seq (.reg [⟨(some 3), .mov (.t 0), none⟩,
    ⟨(some 4), .isn false (.t 3), none⟩] []) <|
  .keep [0, 4] []) <|
  .cond (.t 4) (.seq (.seq (.reg [⟨(some 2), .mov (.c (.z true)), none⟩] []) <|
  .keep [2] [[5], [7]]) <|
  .ret) <|
  .skip) <|
  .seq (.seq (.reg [⟨(some 5), .lit 4 0 [.v (.bool false), .z true, .v (.bool false), .z true] [] false, none⟩,
    ⟨(some 6), .mov (.t 0), none⟩,
    ⟨(some 7), .app 4 64 (.t 5) (.t 6) false, none⟩,
    ⟨(some 2), .mov (.t 7), none⟩] []) <|
  .keep [2] [[5], [7]]) <|
  .ret, [.t 2]⟩

/- 48: gantry/rat.Div -/
def rat_Div : CF := ⟨2, .seq (.seq (.reg [⟨(some 2), .box (.t 0), none⟩,
    ⟨(some 3), .box (.t 1), none⟩,
    ⟨(some 4), .new [.v (.bool false), .z true, .v (.bool false), .z true], none⟩] []) <|
  .keep [2, 3, 4] [[2], [3], [4]]) <|
  .seq (.seq (.seq (.reg [⟨(some 5), .fad 0 (.t 3), none⟩,
    ⟨(some 6), .fad 1 (.t 5), none⟩,
    ⟨(some 7), .load none (.t 6), none⟩,
    ⟨(some 8), .len (.t 7), none⟩,
    ⟨(some 9), .bin .eql (.t 8) (.c (.v (.int .i64 0))), none⟩] []) <|
  .keep [2, 3, 4, 9] [[2], [3], [4]]) <|
  .cond (.t 9) (.seq (.seq (.reg [⟨(some 10), .build [.v (.bool false), .z true, .v (.bool false), .z true] [], none⟩,
    ⟨none, .store 4 (.t 4) (.t 10), none⟩] []) <|
  .keep [4] [[4]]) <|
  .ret) <|
  .skip) <|
  .seq (.seq (.reg [⟨(some 11), .load (some 4) (.t 2), none⟩,
    ⟨(some 12), .load (some 4) (.t 3), none⟩,
    ⟨(some 13), .call n_rat_Den [(.t 12)] false, none⟩,
    ⟨(some 14), .fad 0 (.t 3), none⟩,
    ⟨(some 15), .load (some 2) (.t 14), none⟩,
    ⟨(some 16), .call n_rat_lowest [(.t 13), (.t 15)] false, none⟩,
    ⟨(some 17), .call n_rat_Mul [(.t 11), (.t 16)] false, none⟩,
    ⟨none, .store 4 (.t 4) (.t 17), none⟩] []) <|
  .keep [4] [[4]]) <|
  .ret, [.cell 4 (some 4)]⟩

/- 49: gantry/rat.Sub -/
def rat_Sub : CF := ⟨2, .seq (.seq (.reg [⟨(some 2), .box (.t 0), none⟩,
    ⟨(some 3), .box (.t 1), none⟩,
    ⟨(some 4), .new [.v (.bool false), .z true, .v (.bool false), .z true], none⟩] []) <|
  .keep [2, 3, 4] [[2], [3], [4]]) <|
  .seq (.seq (.reg [⟨(some 5), .load (some 4) (.t 2), none⟩,
    ⟨(some 6), .load (some 4) (.t 3), none⟩,
    ⟨(some 7), .call n_rat_Neg [(.t 6)] false, none⟩,
    ⟨(some 8), .call n_rat_Add [(.t 5), (.t 7)] false, none⟩,
    ⟨none, .store 4 (.t 4) (.t 8), none⟩] []) <|
  .keep [4] [[4]]) <|
  .ret, [.cell 4 (some 4)]⟩

/- 50: gantry/poly.Trim -/
def poly_Trim_l0 : C :=
  .seq (.seq (.seq (.seq (.reg [⟨(some 6), .mov (.t 3), none⟩,
    ⟨(some 7), .bin .gtr (.t 6) (.c (.v (.int .i64 0))), none⟩,
    ⟨(some 8), .mov (.t 7), none⟩,
    ⟨(some 9), .mov (.t 0), (some (8, true))⟩,
    ⟨(some 10), .mov (.t 3), (some (8, true))⟩,
    ⟨(some 11), .bin .sub (.t 10) (.c (.v (.int .i64 1))), (some (8, true))⟩,
    ⟨(some 12), .ixa 4 (.t 9) (.t 11), (some (8, true))⟩,
    ⟨(some 13), .load (some 4) (.t 12), (some (8, true))⟩,
    ⟨(some 14), .call n_rat_Sign [(.t 13)] false, (some (8, true))⟩,
    ⟨(some 15), .bin .eql (.t 14) (.c (.v (.int .i64 0))), (some (8, true))⟩,
    ⟨(some 16), .pick (.t 8) (.t 15) (.c (.v (.bool false))), none⟩] []) <|
  .keep [0, 3, 16] []) <|
  .cond (.t 16) (.skip) <|
  .seq (.keep [0, 3] []) <|
  .exit 0) <|
  .seq (.blk 1 <|
  .seq (.reg [⟨(some 17), .mov (.t 3), none⟩,
    ⟨(some 18), .bin .sub (.t 17) (.c (.v (.int .i64 1))), none⟩,
    ⟨(some 3), .mov (.t 18), none⟩] []) <|
  .keep [0, 3] []) <|
  .keep [0, 3] []) <|
  .keep [0, 3] []
def poly_Trim : CF := ⟨1, .seq (.seq (.reg [⟨(some 2), .mov (.c (.z true)), none⟩] []) <|
  .keep [0] []) <|
  .seq (.seq (.reg [⟨(some 4), .mov (.t 0), none⟩,
    ⟨(some 5), .len (.t 4), none⟩,
    ⟨(some 3), .mov (.t 5), none⟩] []) <|
  .keep [0, 3] []) <|
  .seq (.seq (.blk 0 <|
  .seq (.keep [0, 3] []) <|
  .loop poly_Trim_l0) <|
  .keep [0, 3] []) <|
  .seq (.seq (.reg [⟨(some 19), .mov (.t 0), none⟩,
    ⟨(some 20), .mov (.t 3), none⟩,
    ⟨(some 21), .slc 4 (.t 19) none (some (.t 20)) none, none⟩,
    ⟨(some 22), .call n_slices_Clone_api_Poly_api_Rat [(.t 21)] false, none⟩,
    ⟨(some 2), .mov (.t 22), none⟩] []) <|
  .keep [2] []) <|
  .ret, [.t 2]⟩

/- 51: gantry/gantryref05.Div -/
def gantryref05_Div : CF := ⟨2, .seq (.seq (.reg [⟨(some 2), .box (.t 0), none⟩,
    ⟨(some 3), .box (.t 1), none⟩,
    ⟨(some 4), .new [.v (.bool false), .z true, .v (.bool false), .z true], none⟩] []) <|
  .keep [2, 3, 4] [[2], [3], [4]]) <|
  .seq (.seq (.reg [⟨(some 5), .fad 0 (.t 2), none⟩,
    ⟨(some 6), .load (some 2) (.t 5), none⟩,
    ⟨(some 7), .load (some 4) (.t 3), none⟩,
    ⟨(some 8), .call n_gantryref05_Den [(.t 7)] false, none⟩,
    ⟨(some 9), .call n_gantryref04_Mul [(.t 6), (.t 8)] false, none⟩,
    ⟨(some 10), .load (some 4) (.t 2), none⟩,
    ⟨(some 11), .call n_gantryref05_Den [(.t 10)] false, none⟩,
    ⟨(some 12), .fad 0 (.t 3), none⟩,
    ⟨(some 13), .load (some 2) (.t 12), none⟩,
    ⟨(some 14), .call n_gantryref04_Mul [(.t 11), (.t 13)] false, none⟩,
    ⟨(some 15), .call n_gantryref05_Make [(.t 9), (.t 14)] false, none⟩,
    ⟨none, .store 4 (.t 4) (.t 15), none⟩] []) <|
  .keep [4] [[4]]) <|
  .ret, [.cell 4 (some 4)]⟩

/- 52: gantry/poly.monic -/
def poly_monic : CF := ⟨1, .seq (.seq (.reg [⟨(some 2), .mov (.c (.z true)), none⟩] []) <|
  .keep [0] []) <|
  .seq (.seq (.seq (.reg [⟨(some 3), .mov (.t 0), none⟩,
    ⟨(some 4), .len (.t 3), none⟩,
    ⟨(some 5), .bin .eql (.t 4) (.c (.v (.int .i64 0))), none⟩] []) <|
  .keep [0, 5] []) <|
  .cond (.t 5) (.seq (.seq (.reg [⟨(some 2), .mov (.c (.z true)), none⟩] []) <|
  .keep [2] []) <|
  .ret) <|
  .skip) <|
  .seq (.seq (.reg [⟨(some 6), .mov (.t 0), none⟩,
    ⟨(some 7), .call n_rat_Of [(.c (.v (.int .i64 1))), (.c (.v (.int .i64 1)))] false, none⟩,
    ⟨(some 8), .mov (.t 0), none⟩,
    ⟨(some 9), .mov (.t 0), none⟩,
    ⟨(some 10), .len (.t 9), none⟩,
    ⟨(some 11), .bin .sub (.t 10) (.c (.v (.int .i64 1))), none⟩,
    ⟨(some 12), .ixa 4 (.t 8) (.t 11), none⟩,
    ⟨(some 13), .load (some 4) (.t 12), none⟩,
    ⟨(some 14), .call n_rat_Div [(.t 7), (.t 13)] false, none⟩,
    ⟨(some 15), .call n_poly_Scale [(.t 6), (.t 14)] false, none⟩,
    ⟨(some 2), .mov (.t 15), none⟩] []) <|
  .keep [2] []) <|
  .ret, [.t 2]⟩

/- 53: gantry/gantryref06.Monic -/
def gantryref06_Monic : CF := ⟨1, .seq (.seq (.reg [⟨(some 2), .mov (.c (.z true)), none⟩] []) <|
  .keep [0] []) <|
  .seq (.seq (.seq (.reg [⟨(some 3), .mov (.t 0), none⟩,
    ⟨(some 4), .len (.t 3), none⟩,
    ⟨(some 5), .bin .eql (.t 4) (.c (.v (.int .i64 0))), none⟩] []) <|
  .keep [0, 5] []) <|
  .cond (.t 5) (.seq (.seq (.reg [⟨(some 2), .mov (.c (.z true)), none⟩] []) <|
  .keep [2] []) <|
  .ret) <|
  .skip) <|
  .seq (.seq (.reg [⟨(some 6), .mov (.t 0), none⟩,
    ⟨(some 7), .call n_gantryref05_Of [(.c (.v (.int .i64 1))), (.c (.v (.int .i64 1)))] false, none⟩,
    ⟨(some 8), .mov (.t 0), none⟩,
    ⟨(some 9), .mov (.t 0), none⟩,
    ⟨(some 10), .len (.t 9), none⟩,
    ⟨(some 11), .bin .sub (.t 10) (.c (.v (.int .i64 1))), none⟩,
    ⟨(some 12), .ixa 4 (.t 8) (.t 11), none⟩,
    ⟨(some 13), .load (some 4) (.t 12), none⟩,
    ⟨(some 14), .call n_gantryref05_Div [(.t 7), (.t 13)] false, none⟩,
    ⟨(some 15), .call n_gantryref06_Scale [(.t 6), (.t 14)] false, none⟩,
    ⟨(some 2), .mov (.t 15), none⟩] []) <|
  .keep [2] []) <|
  .ret, [.t 2]⟩

/- 54: gantry/gantrylaw06.of -/
def gantrylaw06_of_l0 : C :=
  .seq (.seq (.seq (.seq (.reg [⟨(some 5), .mov (.t 4), none⟩,
    ⟨(some 6), .mov (.t 0), none⟩,
    ⟨(some 7), .len (.t 6), none⟩,
    ⟨(some 8), .bin .lss (.t 5) (.t 7), none⟩] []) <|
  .keep [0, 3, 4, 8] [[18]]) <|
  .cond (.t 8) (.skip) <|
  .seq (.keep [3] [[18]]) <|
  .exit 0) <|
  .seq (.seq (.blk 1 <|
  .seq (.reg [⟨(some 11), .mov (.t 3), none⟩,
    ⟨(some 12), .mov (.t 0), none⟩,
    ⟨(some 13), .mov (.t 4), none⟩,
    ⟨(some 14), .ixa 1 (.t 12) (.t 13), none⟩,
    ⟨(some 15), .load none (.t 14), none⟩,
    ⟨(some 16), .call n_gantryref05_Of [(.t 15), (.c (.v (.int .i64 1)))] false, none⟩,
    ⟨(some 17), .lit 4 1 [.v (.bool false), .z true, .v (.bool false), .z true] [(0, (.t 16))] true, none⟩,
    ⟨(some 18), .app 4 64 (.t 11) (.t 17) false, none⟩,
    ⟨(some 3), .mov (.t 18), none⟩] []) <|
  .keep [0, 3, 4] [[18]]) <|
  .keep [0, 3, 4] [[18]]) <|
  .seq (.reg [⟨(some 9), .mov (.t 4), none⟩,
    ⟨(some 10), .bin .add (.t 9) (.c (.v (.int .i64 1))), none⟩,
    ⟨(some 4), .mov (.t 10), none⟩] []) <|
  .keep [0, 3, 4] [[18]]) <|
  .keep [0, 3, 4] [[18]]
def gantrylaw06_of : CF := ⟨1, .seq (.seq (.reg [⟨(some 2), .mov (.c (.z true)), none⟩] []) <|
  .keep [0] []) <|
  .seq (.seq (.reg [⟨(some 3), .mov (.c (.z true)), none⟩] []) <|
  .keep [0, 3] [[18]]) <|
  .seq (.seq (.seq (.reg [⟨(some 4), .mov (.c (.v (.int .i64 0))), none⟩] []) <|
  .keep [0, 3, 4] [[18]]) <|
  .seq (.blk 0 <|
  .seq (.keep [0, 3, 4] [[18]]) <|
  .loop gantrylaw06_of_l0) <|
  .keep [3] [[18]]) <|
  .seq (.seq (.frz 3) <|
  .seq (.reg [⟨(some 19), .mov (.t 3), none⟩,
    ⟨(some 20), .call n_gantryref06_Trim [(.t 19)] false, none⟩,
    ⟨(some 2), .mov (.t 20), none⟩] []) <|
  .keep [2] []) <|
  .ret, [.t 2]⟩

/- 55: gantry/gantrylaw06.is -/
def gantrylaw06_is : CF := ⟨2, .seq (.seq (.reg [⟨(some 4), .mov (.c (.v (.bool false))), none⟩] []) <|
  .keep [0, 1] []) <|
  .seq (.seq (.reg [⟨(some 5), .mov (.t 0), none⟩,
    ⟨(some 6), .mov (.t 1), none⟩,
    ⟨(some 7), .call n_gantrylaw06_of [(.t 6)] false, none⟩,
    ⟨(some 8), .call n_gantryref06_Same [(.t 5), (.t 7)] false, none⟩,
    ⟨(some 4), .mov (.t 8), none⟩] []) <|
  .keep [4] []) <|
  .ret, [.t 4]⟩

/- 56: gantry/poly.Degree -/
def poly_Degree : CF := ⟨1, .seq (.seq (.reg [⟨(some 2), .mov (.c (.v (.int .i64 0))), none⟩] []) <|
  .keep [0] []) <|
  .seq (.seq (.reg [⟨(some 3), .mov (.t 0), none⟩,
    ⟨(some 4), .len (.t 3), none⟩,
    ⟨(some 5), .bin .sub (.t 4) (.c (.v (.int .i64 1))), none⟩,
    ⟨(some 2), .mov (.t 5), none⟩] []) <|
  .keep [2] []) <|
  .ret, [.t 2]⟩

/- 57: gantry/poly.Valid -/
def poly_Valid : CF := ⟨1, .seq (.seq (.reg [⟨(some 2), .mov (.c (.v (.bool false))), none⟩] []) <|
  .keep [0] []) <|
  .seq (.seq (.reg [⟨(some 4), .mov (.t 0), none⟩,
    ⟨(some 5), .len (.t 4), none⟩,
    ⟨(some 3), .mov (.t 5), none⟩] []) <|
  .keep [0, 3] []) <|
  .seq (.seq (.reg [⟨(some 6), .mov (.t 0), none⟩,
    ⟨(some 7), .call n_slices_ContainsFunc_api_Poly_api_Rat [(.t 6), (.f n_poly_Valid_1)] false, none⟩,
    ⟨(some 8), .un .not (.t 7), none⟩,
    ⟨(some 9), .mov (.t 8), none⟩,
    ⟨(some 10), .mov (.t 3), (some (9, true))⟩,
    ⟨(some 11), .bin .eql (.t 10) (.c (.v (.int .i64 0))), (some (9, true))⟩,
    ⟨(some 12), .mov (.t 11), (some (9, true))⟩,
    ⟨(some 13), .mov (.t 0), (some (12, false))⟩,
    ⟨(some 14), .mov (.t 3), (some (12, false))⟩,
    ⟨(some 15), .bin .sub (.t 14) (.c (.v (.int .i64 1))), (some (12, false))⟩,
    ⟨(some 16), .ixa 4 (.t 13) (.t 15), (some (12, false))⟩,
    ⟨(some 17), .load (some 4) (.t 16), (some (12, false))⟩,
    ⟨(some 18), .call n_rat_Sign [(.t 17)] false, (some (12, false))⟩,
    ⟨(some 19), .bin .neq (.t 18) (.c (.v (.int .i64 0))), (some (12, false))⟩,
    ⟨(some 20), .pick (.t 12) (.c (.v (.bool true))) (.t 19), (some (9, true))⟩,
    ⟨(some 21), .pick (.t 9) (.t 20) (.c (.v (.bool false))), none⟩,
    ⟨(some 2), .mov (.t 21), none⟩] []) <|
  .keep [2] []) <|
  .ret, [.t 2]⟩

/- 58: gantry/gantryref05.Make -/
def gantryref05_Make : CF := ⟨2, .seq (.seq (.reg [⟨(some 2), .box (.t 0), none⟩,
    ⟨(some 3), .box (.t 1), none⟩,
    ⟨(some 4), .new [.v (.bool false), .z true, .v (.bool false), .z true], none⟩] []) <|
  .keep [2, 3, 4] [[2], [3], [4]]) <|
  .seq (.seq (.seq (.reg [⟨(some 10), .fad 1 (.t 3), none⟩,
    ⟨(some 11), .load none (.t 10), none⟩,
    ⟨(some 12), .len (.t 11), none⟩,
    ⟨(some 13), .bin .eql (.t 12) (.c (.v (.int .i64 0))), none⟩,
    ⟨(some 14), .mov (.t 13), none⟩,
    ⟨(some 15), .fad 1 (.t 2), (some (14, false))⟩,
    ⟨(some 16), .load none (.t 15), (some (14, false))⟩,
    ⟨(some 17), .len (.t 16), (some (14, false))⟩,
    ⟨(some 18), .bin .eql (.t 17) (.c (.v (.int .i64 0))), (some (14, false))⟩,
    ⟨(some 19), .pick (.t 14) (.c (.v (.bool true))) (.t 18), none⟩] []) <|
  .keep [2, 3, 4, 19] [[2], [3], [4]]) <|
  .cond (.t 19) (.seq (.seq (.reg [⟨(some 20), .build [.v (.bool false), .z true, .v (.bool false), .z true] [], none⟩,
    ⟨none, .store 4 (.t 4) (.t 20), none⟩] []) <|
  .keep [4] [[4]]) <|
  .ret) <|
  .skip) <|
  .seq (.seq (.reg [⟨(some 21), .load (some 2) (.t 2), none⟩,
    ⟨(some 22), .load (some 2) (.t 3), none⟩,
    ⟨(some 23), .call n_gantryref04_Gcd [(.t 21), (.t 22)] false, none⟩,
    ⟨(some 5), .new [.v (.bool false), .z true], none⟩,
    ⟨none, .store 2 (.t 5) (.t 23), none⟩] []) <|
  .keep [2, 3, 4, 5] [[2], [3], [4], [5]]) <|
  .seq (.seq (.reg [⟨(some 25), .load (some 2) (.t 2), none⟩,
    ⟨(some 26), .load (some 2) (.t 5), none⟩,
    ⟨(some 27), .call n_gantryref04_Div [(.t 25), (.t 26)] false, none⟩,
    ⟨(some 24), .mov (.t 27), none⟩,
    ⟨(some 28), .ext (.t 24) 0, none⟩,
    ⟨(some 29), .ext (.t 24) 1, none⟩,
    ⟨(some 6), .new [.v (.bool false), .z true], none⟩,
    ⟨(some 7), .new [.v (.bool false), .z true], none⟩,
    ⟨none, .store 2 (.t 6) (.t 28), none⟩,
    ⟨none, .store 2 (.t 7) (.t 29), none⟩] []) <|
  .keep [3, 4, 5, 6] [[3], [4], [5], [6]]) <|
  .seq (.seq (.reg [⟨(some 31), .load (some 2) (.t 3), none⟩,
    ⟨(some 32), .load (some 2) (.t 5), none⟩,
    ⟨(some 33), .call n_gantryref04_Div [(.t 31), (.t 32)] false, none⟩,
    ⟨(some 30), .mov (.t 33), none⟩,
    ⟨(some 34), .ext (.t 30) 0, none⟩,
    ⟨(some 35), .ext (.t 30) 1, none⟩,
    ⟨(some 8), .new [.v (.bool false), .z true], none⟩,
    ⟨(some 9), .new [.v (.bool false), .z true], none⟩,
    ⟨none, .store 2 (.t 8) (.t 34), none⟩,
    ⟨none, .store 2 (.t 9) (.t 35), none⟩] []) <|
  .keep [4, 6, 8] [[4], [6], [8]]) <|
  .seq (.seq (.seq (.reg [⟨(some 36), .fad 0 (.t 8), none⟩,
    ⟨(some 37), .load none (.t 36), none⟩] []) <|
  .keep [4, 6, 8, 37] [[4], [6], [8]]) <|
  .cond (.t 37) (.seq (.seq (.reg [⟨(some 38), .load (some 2) (.t 6), none⟩,
    ⟨(some 39), .call n_gantryref04_Neg [(.t 38)] false, none⟩,
    ⟨none, .store 2 (.t 6) (.t 39), none⟩] []) <|
  .keep [4, 6, 8] [[4], [6], [8]]) <|
  .seq (.reg [⟨(some 40), .load (some 2) (.t 8), none⟩,
    ⟨(some 41), .call n_gantryref04_Neg [(.t 40)] false, none⟩,
    ⟨none, .store 2 (.t 8) (.t 41), none⟩] []) <|
  .keep [4, 6, 8] [[4], [6], [8]]) <|
  .skip) <|
  .seq (.seq (.seq (.reg [⟨(some 42), .load (some 2) (.t 8), none⟩,
    ⟨(some 43), .call n_gantryref05_one [(.t 42)] false, none⟩] []) <|
  .keep [4, 6, 8, 43] [[4], [6], [8]]) <|
  .cond (.t 43) (.seq (.seq (.reg [⟨(some 44), .load (some 2) (.t 6), none⟩,
    ⟨(some 45), .build [.v (.bool false), .z true, .v (.bool false), .z true] [(0, 2, (.t 44))], none⟩,
    ⟨none, .store 4 (.t 4) (.t 45), none⟩] []) <|
  .keep [4] [[4]]) <|
  .ret) <|
  .skip) <|
  .seq (.seq (.reg [⟨(some 46), .load (some 2) (.t 6), none⟩,
    ⟨(some 47), .load (some 2) (.t 8), none⟩,
    ⟨(some 48), .build [.v (.bool false), .z true, .v (.bool false), .z true] [(0, 2, (.t 46)), (2, 2, (.t 47))], none⟩,
    ⟨none, .store 4 (.t 4) (.t 48), none⟩] []) <|
  .keep [4] [[4]]) <|
  .ret, [.cell 4 (some 4)]⟩

/- 59: gantry/gantryref04.Of -/
def gantryref04_Of_l0 : C :=
  .seq (.seq (.seq (.seq (.reg [⟨(some 8), .mov (.t 0), none⟩,
    ⟨(some 9), .bin .neq (.t 8) (.c (.v (.int .i64 0))), none⟩] []) <|
  .keep [0, 2, 3, 4, 9] [[2], [19]]) <|
  .cond (.t 9) (.skip) <|
  .seq (.keep [2, 3, 4] [[2], [19]]) <|
  .exit 0) <|
  .seq (.blk 1 <|
  .seq (.seq (.reg [⟨(some 10), .mov (.t 0), none⟩,
    ⟨(some 11), .bin .rem (.t 10) (.c (.v (.int .i64 1000000000))), none⟩,
    ⟨(some 5), .mov (.t 11), none⟩] []) <|
  .keep [0, 2, 3, 4, 5] [[2], [19]]) <|
  .seq (.seq (.seq (.reg [⟨(some 12), .mov (.t 5), none⟩,
    ⟨(some 13), .bin .lss (.t 12) (.c (.v (.int .i64 0))), none⟩] []) <|
  .keep [0, 2, 3, 4, 5, 13] [[2], [19]]) <|
  .cond (.t 13) (.seq (.reg [⟨(some 14), .mov (.t 5), none⟩,
    ⟨(some 15), .un .neg (.t 14), none⟩,
    ⟨(some 5), .mov (.t 15), none⟩] []) <|
  .keep [0, 2, 3, 4, 5] [[2], [19]]) <|
  .skip) <|
  .seq (.seq (.reg [⟨(some 16), .mov (.t 3), none⟩,
    ⟨(some 17), .mov (.t 5), none⟩,
    ⟨(some 18), .lit 1 1 [.v (.int .i64 0)] [(0, (.t 17))] true, none⟩,
    ⟨(some 19), .app 1 8 (.t 16) (.t 18) false, none⟩,
    ⟨(some 3), .mov (.t 19), none⟩] []) <|
  .keep [0, 2, 3, 4] [[2], [19]]) <|
  .seq (.reg [⟨(some 20), .mov (.t 0), none⟩,
    ⟨(some 21), .bin .quo (.t 20) (.c (.v (.int .i64 1000000000))), none⟩,
    ⟨(some 0), .mov (.t 21), none⟩] []) <|
  .keep [0, 2, 3, 4] [[2], [19]]) <|
  .keep [0, 2, 3, 4] [[2], [19]]) <|
  .keep [0, 2, 3, 4] [[2], [19]]
def gantryref04_Of : CF := ⟨1, .seq (.seq (.reg [⟨(some 2), .new [.v (.bool false), .z true], none⟩] []) <|
  .keep [0, 2] [[2]]) <|
  .seq (.seq (.reg [⟨(some 3), .mov (.c (.z true)), none⟩] []) <|
  .keep [0, 2, 3] [[2], [19]]) <|
  .seq (.seq (.reg [⟨(some 6), .mov (.t 0), none⟩,
    ⟨(some 7), .bin .lss (.t 6) (.c (.v (.int .i64 0))), none⟩,
    ⟨(some 4), .mov (.t 7), none⟩] []) <|
  .keep [0, 2, 3, 4] [[2], [19]]) <|
  .seq (.seq (.blk 0 <|
  .seq (.keep [0, 2, 3, 4] [[2], [19]]) <|
  .loop gantryref04_Of_l0) <|
  .keep [2, 3, 4] [[2], [19]]) <|
  .seq (.seq (.frz 3) <|
  .seq (.reg [⟨(some 22), .mov (.t 4), none⟩,
    ⟨(some 23), .mov (.t 3), none⟩,
    ⟨(some 24), .call n_gantryref04_normal [(.t 22), (.t 23)] false, none⟩,
    ⟨none, .store 2 (.t 2) (.t 24), none⟩] []) <|
  .keep [2] [[2]]) <|
  .ret, [.cell 2 (some 2)]⟩

/- 60: gantry/poly.made -/
def poly_made_l0 : C :=
  .seq (.seq (.seq (.reg [⟨(some 10), .bin .lss (.t 9) (.t 8), none⟩] []) <|
  .keep [1, 5, 8, 9, 10] [[17]]) <|
  .seq (.cond (.t 10) (.skip) <|
  .seq (.keep [5] [[17]]) <|
  .exit 0) <|
  .seq (.seq (.blk 1 <|
  .seq (.seq (.reg [⟨(some 11), .mov (.t 9), none⟩,
    ⟨(some 6), .mov (.t 11), none⟩] []) <|
  .keep [1, 5, 6, 8, 9] [[17]]) <|
  .seq (.reg [⟨(some 12), .mov (.t 5), none⟩,
    ⟨(some 13), .mov (.t 1), none⟩,
    ⟨(some 14), .mov (.t 6), none⟩,
    ⟨(some 15), .calv (.t 13) [(.t 14)], none⟩,
    ⟨(some 16), .lit 4 1 [.v (.bool false), .z true, .v (.bool false), .z true] [(0, (.t 15))] true, none⟩,
    ⟨(some 17), .app 4 64 (.t 12) (.t 16) false, none⟩,
    ⟨(some 5), .mov (.t 17), none⟩] []) <|
  .keep [1, 5, 8, 9] [[17]]) <|
  .keep [1, 5, 8, 9] [[17]]) <|
  .seq (.reg [⟨(some 18), .bin .add (.t 9) (.c (.v (.int .i64 1))), none⟩,
    ⟨(some 9), .mov (.t 18), none⟩] []) <|
  .keep [1, 5, 8, 9] [[17]]) <|
  .keep [1, 5, 8, 9] [[17]]
def poly_made : CF := ⟨2, .seq (.seq (.reg [⟨(some 4), .mov (.c (.z true)), none⟩] []) <|
  .keep [0, 1] []) <|
  .seq (.seq (.reg [⟨(some 5), .mov (.c (.z true)), none⟩] []) <|
  .keep [0, 1, 5] [[17]]) <|
  .seq (.seq (.seq (.reg [⟨(some 7), .mov (.t 0), none⟩,
    ⟨(some 8), .mx [(.t 7), (.c (.v (.int .i64 0)))], none⟩,
    ⟨(some 9), .mov (.c (.v (.int .i64 0))), none⟩] []) <|
  .keep [1, 5, 8, 9] [[17]]) <|
  .seq (.blk 0 <|
  .seq (.keep [1, 5, 8, 9] [[17]]) <|
  .loop poly_made_l0) <|
  .keep [5] [[17]]) <|
  .seq (.seq (.frz 5) <|
  .seq (.reg [⟨(some 19), .mov (.t 5), none⟩,
    ⟨(some 20), .call n_poly_Trim [(.t 19)] false, none⟩,
    ⟨(some 4), .mov (.t 20), none⟩] []) <|
  .keep [4] []) <|
  .ret, [.t 4]⟩

/- 61: gantry/poly.Add$1 -/
def poly_Add_1 : CF := ⟨3, .seq (.seq (.reg [⟨(some 4), .new [.v (.bool false), .z true, .v (.bool false), .z true], none⟩] []) <|
  .keep [0, 1, 2, 4] [[4]]) <|
  .seq (.seq (.reg [⟨(some 5), .load none (.t 1), none⟩,
    ⟨(some 6), .mov (.t 0), none⟩,
    ⟨(some 7), .call n_poly_at [(.t 5), (.t 6)] false, none⟩,
    ⟨(some 8), .load none (.t 2), none⟩,
    ⟨(some 9), .mov (.t 0), none⟩,
    ⟨(some 10), .call n_poly_at [(.t 8), (.t 9)] false, none⟩,
    ⟨(some 11), .call n_rat_Add [(.t 7), (.t 10)] false, none⟩,
    ⟨none, .store 4 (.t 4) (.t 11), none⟩] []) <|
  .keep [4] [[4]]) <|
  .ret, [.cell 4 (some 4)]⟩

/- 62: gantry/poly.at -/
def poly_at : CF := ⟨2, .seq (.seq (.reg [⟨(some 4), .new [.v (.bool false), .z true, .v (.bool false), .z true], none⟩] []) <|
  .keep [0, 1, 4] [[4]]) <|
  .seq (.seq (.seq (.reg [⟨(some 5), .mov (.t 1), none⟩,
    ⟨(some 6), .bin .lss (.t 5) (.c (.v (.int .i64 0))), none⟩,
    ⟨(some 7), .mov (.t 6), none⟩,
    ⟨(some 8), .mov (.t 1), (some (7, false))⟩,
    ⟨(some 9), .mov (.t 0), (some (7, false))⟩,
    ⟨(some 10), .len (.t 9), (some (7, false))⟩,
    ⟨(some 11), .bin .geq (.t 8) (.t 10), (some (7, false))⟩,
    ⟨(some 12), .pick (.t 7) (.c (.v (.bool true))) (.t 11), none⟩] []) <|
  .keep [0, 1, 4, 12] [[4]]) <|
  .cond (.t 12) (.seq (.seq (.reg [⟨(some 13), .build [.v (.bool false), .z true, .v (.bool false), .z true] [], none⟩,
    ⟨none, .store 4 (.t 4) (.t 13), none⟩] []) <|
  .keep [4] [[4]]) <|
  .ret) <|
  .skip) <|
  .seq (.seq (.reg [⟨(some 14), .mov (.t 0), none⟩,
    ⟨(some 15), .mov (.t 1), none⟩,
    ⟨(some 16), .ixa 4 (.t 14) (.t 15), none⟩,
    ⟨(some 17), .load (some 4) (.t 16), none⟩,
    ⟨none, .store 4 (.t 4) (.t 17), none⟩] []) <|
  .keep [4] [[4]]) <|
  .ret, [.cell 4 (some 4)]⟩

/- 63: gantry/gantryref06.At -/
def gantryref06_At : CF := ⟨2, .seq (.seq (.reg [⟨(some 4), .new [.v (.bool false), .z true, .v (.bool false), .z true], none⟩] []) <|
  .keep [0, 1, 4] [[4]]) <|
  .seq (.seq (.seq (.reg [⟨(some 5), .mov (.t 1), none⟩,
    ⟨(some 6), .bin .lss (.t 5) (.c (.v (.int .i64 0))), none⟩,
    ⟨(some 7), .mov (.t 6), none⟩,
    ⟨(some 8), .mov (.t 1), (some (7, false))⟩,
    ⟨(some 9), .mov (.t 0), (some (7, false))⟩,
    ⟨(some 10), .len (.t 9), (some (7, false))⟩,
    ⟨(some 11), .bin .geq (.t 8) (.t 10), (some (7, false))⟩,
    ⟨(some 12), .pick (.t 7) (.c (.v (.bool true))) (.t 11), none⟩] []) <|
  .keep [0, 1, 4, 12] [[4]]) <|
  .cond (.t 12) (.seq (.seq (.reg [⟨(some 13), .build [.v (.bool false), .z true, .v (.bool false), .z true] [], none⟩,
    ⟨none, .store 4 (.t 4) (.t 13), none⟩] []) <|
  .keep [4] [[4]]) <|
  .ret) <|
  .skip) <|
  .seq (.seq (.reg [⟨(some 14), .mov (.t 0), none⟩,
    ⟨(some 15), .mov (.t 1), none⟩,
    ⟨(some 16), .ixa 4 (.t 14) (.t 15), none⟩,
    ⟨(some 17), .load (some 4) (.t 16), none⟩,
    ⟨none, .store 4 (.t 4) (.t 17), none⟩] []) <|
  .keep [4] [[4]]) <|
  .ret, [.cell 4 (some 4)]⟩

/- 64: gantry/poly.Sub$1 -/
def poly_Sub_1 : CF := ⟨3, .seq (.seq (.reg [⟨(some 4), .new [.v (.bool false), .z true, .v (.bool false), .z true], none⟩] []) <|
  .keep [0, 1, 2, 4] [[4]]) <|
  .seq (.seq (.reg [⟨(some 5), .load none (.t 1), none⟩,
    ⟨(some 6), .mov (.t 0), none⟩,
    ⟨(some 7), .call n_poly_at [(.t 5), (.t 6)] false, none⟩,
    ⟨(some 8), .load none (.t 2), none⟩,
    ⟨(some 9), .mov (.t 0), none⟩,
    ⟨(some 10), .call n_poly_at [(.t 8), (.t 9)] false, none⟩,
    ⟨(some 11), .call n_rat_Sub [(.t 7), (.t 10)] false, none⟩,
    ⟨none, .store 4 (.t 4) (.t 11), none⟩] []) <|
  .keep [4] [[4]]) <|
  .ret, [.cell 4 (some 4)]⟩

/- 65: gantry/poly.Mul$1 -/
def poly_Mul_1_l0 : C :=
  .seq (.seq (.seq (.seq (.reg [⟨(some 13), .mov (.t 6), none⟩,
    ⟨(some 14), .mov (.t 0), none⟩,
    ⟨(some 15), .load none (.t 2), none⟩,
    ⟨(some 16), .len (.t 15), none⟩,
    ⟨(some 17), .bin .sub (.t 16) (.c (.v (.int .i64 1))), none⟩,
    ⟨(some 18), .mn [(.t 14), (.t 17)], none⟩,
    ⟨(some 19), .bin .leq (.t 13) (.t 18), none⟩] []) <|
  .keep [0, 1, 2, 4, 5, 6, 19] [[4], [5]]) <|
  .cond (.t 19) (.skip) <|
  .seq (.keep [4, 5] [[4], [5]]) <|
  .exit 0) <|
  .seq (.seq (.blk 1 <|
  .seq (.reg [⟨(some 22), .load (some 4) (.t 5), none⟩,
    ⟨(some 23), .load none (.t 2), none⟩,
    ⟨(some 24), .mov (.t 6), none⟩,
    ⟨(some 25), .ixa 4 (.t 23) (.t 24), none⟩,
    ⟨(some 26), .load (some 4) (.t 25), none⟩,
    ⟨(some 27), .load none (.t 1), none⟩,
    ⟨(some 28), .mov (.t 0), none⟩,
    ⟨(some 29), .mov (.t 6), none⟩,
    ⟨(some 30), .bin .sub (.t 28) (.t 29), none⟩,
    ⟨(some 31), .ixa 4 (.t 27) (.t 30), none⟩,
    ⟨(some 32), .load (some 4) (.t 31), none⟩,
    ⟨(some 33), .call n_rat_Mul [(.t 26), (.t 32)] false, none⟩,
    ⟨(some 34), .call n_rat_Add [(.t 22), (.t 33)] false, none⟩,
    ⟨none, .store 4 (.t 5) (.t 34), none⟩] []) <|
  .keep [0, 1, 2, 4, 5, 6] [[4], [5]]) <|
  .keep [0, 1, 2, 4, 5, 6] [[4], [5]]) <|
  .seq (.reg [⟨(some 20), .mov (.t 6), none⟩,
    ⟨(some 21), .bin .add (.t 20) (.c (.v (.int .i64 1))), none⟩,
    ⟨(some 6), .mov (.t 21), none⟩] []) <|
  .keep [0, 1, 2, 4, 5, 6] [[4], [5]]) <|
  .keep [0, 1, 2, 4, 5, 6] [[4], [5]]
def poly_Mul_1 : CF := ⟨3, .seq (.seq (.reg [⟨(some 4), .new [.v (.bool false), .z true, .v (.bool false), .z true], none⟩] []) <|
  .keep [0, 1, 2, 4] [[4]]) <|
  .seq (.seq (.reg [⟨(some 5), .new [.v (.bool false), .z true, .v (.bool false), .z true], none⟩] []) <|
  .keep [0, 1, 2, 4, 5] [[4], [5]]) <|
  .seq (.seq (.seq (.reg [⟨(some 7), .mov (.t 0), none⟩,
    ⟨(some 8), .load none (.t 1), none⟩,
    ⟨(some 9), .len (.t 8), none⟩,
    ⟨(some 10), .bin .sub (.t 7) (.t 9), none⟩,
    ⟨(some 11), .bin .add (.t 10) (.c (.v (.int .i64 1))), none⟩,
    ⟨(some 12), .mx [(.c (.v (.int .i64 0))), (.t 11)], none⟩,
    ⟨(some 6), .mov (.t 12), none⟩] []) <|
  .keep [0, 1, 2, 4, 5, 6] [[4], [5]]) <|
  .seq (.blk 0 <|
  .seq (.keep [0, 1, 2, 4, 5, 6] [[4], [5]]) <|
  .loop poly_Mul_1_l0) <|
  .keep [4, 5] [[4], [5]]) <|
  .seq (.seq (.reg [⟨(some 35), .load (some 4) (.t 5), none⟩,
    ⟨none, .store 4 (.t 4) (.t 35), none⟩] []) <|
  .keep [4] [[4]]) <|
  .ret, [.cell 4 (some 4)]⟩

/- 66: gantry/poly.Scale$1 -/
def poly_Scale_1 : CF := ⟨3, .seq (.seq (.reg [⟨(some 4), .new [.v (.bool false), .z true, .v (.bool false), .z true], none⟩] []) <|
  .keep [0, 1, 2, 4] [[4]]) <|
  .seq (.seq (.reg [⟨(some 5), .load none (.t 1), none⟩,
    ⟨(some 6), .mov (.t 0), none⟩,
    ⟨(some 7), .ixa 4 (.t 5) (.t 6), none⟩,
    ⟨(some 8), .load (some 4) (.t 7), none⟩,
    ⟨(some 9), .load (some 4) (.t 2), none⟩,
    ⟨(some 10), .call n_rat_Mul [(.t 8), (.t 9)] false, none⟩,
    ⟨none, .store 4 (.t 4) (.t 10), none⟩] []) <|
  .keep [4] [[4]]) <|
  .ret, [.cell 4 (some 4)]⟩
end Go.AM

