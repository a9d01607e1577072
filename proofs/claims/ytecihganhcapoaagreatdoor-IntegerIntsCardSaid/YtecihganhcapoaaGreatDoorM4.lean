/- Part 4 of the proof: a small machine, its soundness against the model, and what the program's functions compute on it. -/
import Derived.Test.YtecihganhcapoaaGreatDoorM0
import Derived.Test.YtecihganhcapoaaGreatDoorProg
import Derived.KernelRfl
import Derived.Test.YtecihganhcapoaaGreatDoorM3
set_option linter.unusedVariables false
set_option linter.unusedSimpArgs false
set_option maxRecDepth 100000
namespace Go.AM
open Go Go.Proofs
abbrev n_gantrylaw04_IntegerRoots : Nat := 3
abbrev n_gantrylaw04_IntegerSums : Nat := 4
abbrev n_gantrylaw04_IntegerRing : Nat := 5
abbrev n_gantrylaw04_IntegerGo : Nat := 6
abbrev n_gantrylaw04_IntegerQuotients : Nat := 7
abbrev n_gantrylaw04_IntegerInts : Nat := 8
abbrev n_gantrylaw04_IntegerDivisors : Nat := 9
abbrev n_gantrylaw04_IntegerTexts : Nat := 10
abbrev n_gantryref04_Number : Nat := 11
abbrev n_gantryref04_Mul : Nat := 12
abbrev n_gantryref04_Add : Nat := 13
abbrev n_gantryref04_Of : Nat := 14
abbrev n_gantryref01_Around : Nat := 15
abbrev n_gantryref04_Sub : Nat := 16
abbrev n_integer_Root : Nat := 17
abbrev n_gantryref04_Root : Nat := 18
abbrev n_gantrylaw04_same : Nat := 19
abbrev n_gantrylaw04_lives : Nat := 20
abbrev n_gantryref04_Encode : Nat := 21
abbrev n_integer_Add : Nat := 22
abbrev n_integer_Sub : Nat := 23
abbrev n_integer_Mul : Nat := 24
abbrev n_integer_Neg : Nat := 25
abbrev n_gantryref04_Neg : Nat := 26
abbrev n_integer_Compare : Nat := 27
abbrev n_gantryref04_Compare : Nat := 28
abbrev n_integer_Sign : Nat := 29
abbrev n_gantryref04_Sign : Nat := 30
abbrev n_gantryref01_Same : Nat := 31
abbrev n_integer_Of : Nat := 32
abbrev n_integer_Div : Nat := 33
abbrev n_gantryref04_Div : Nat := 34
abbrev n_integer_Gcd : Nat := 35
abbrev n_gantryref04_Gcd : Nat := 36
abbrev n_gantryref01_Take : Nat := 37
abbrev n_integer_Valid : Nat := 38
abbrev n_gantryref04_Valid : Nat := 39
abbrev n_integer_Small : Nat := 40
abbrev n_gantryref04_Small : Nat := 41
abbrev n_integer_Text : Nat := 42
abbrev n_integer_Parse : Nat := 43
abbrev n_integer_Encode : Nat := 44
abbrev n_integer_Decode : Nat := 45
abbrev n_gantryref01_Few : Nat := 46
abbrev n_gantryref04_Text : Nat := 47
abbrev n_gantryref01_Short : Nat := 48
abbrev n_gantryref04_Parse : Nat := 49
abbrev n_gantryref01_Ints : Nat := 50
abbrev n_gantryref04_Decode : Nat := 51
abbrev n_gantryref01_At : Nat := 52
abbrev n_gantryref04_Power : Nat := 53
abbrev n_gantryref04_normal : Nat := 54
abbrev n_gantryref04_plus : Nat := 55
abbrev n_gantryref04_compared : Nat := 56
abbrev n_gantryref04_minus : Nat := 57
abbrev n_integer_of : Nat := 58
abbrev n_gantryref04_Same : Nat := 59
abbrev n_integer_plus : Nat := 60
abbrev n_integer_compare : Nat := 61
abbrev n_integer_minus : Nat := 62
abbrev n_integer_unsigned : Nat := 63
abbrev n_integer_divide : Nat := 64
abbrev n_gantryref04_divided : Nat := 65
abbrev n_integer_two : Nat := 66
abbrev n_gantryref04_tiny : Nat := 67
abbrev n_slices_ContainsFunc_int_int : Nat := 68
abbrev n_integer_Valid_1 : Nat := 69
abbrev n_strings_Builder_WriteByte : Nat := 70
abbrev n_strings_Builder_WriteString : Nat := 71
abbrev n_strconv_Itoa : Nat := 72
abbrev n_strings_Repeat : Nat := 73
abbrev n_strings_Builder_String : Nat := 74
abbrev n_strings_CutPrefix : Nat := 75
abbrev n_strings_Trim : Nat := 76
abbrev n_strconv_Atoi : Nat := 77
abbrev n_wire_Ints : Nat := 78
abbrev n_wire_GetInts : Nat := 79
abbrev n_slices_Clone_int_int : Nat := 80
abbrev n_gantryref04_decimal : Nat := 81
abbrev n_gantryref01_Int : Nat := 82
abbrev n_gantryref01_GetInts : Nat := 83
abbrev n_gantryref04_digit : Nat := 84
abbrev n_cmp_Compare_int : Nat := 85
abbrev n_integer_short : Nat := 86
abbrev n_integer_long : Nat := 87
abbrev n_gantryref04_times : Nat := 88
abbrev n_slices_IndexFunc_int_int : Nat := 89
abbrev n_strings_Builder_copyCheck : Nat := 90
abbrev n_internal_strconv_Itoa : Nat := 91
abbrev n_math_bits_Mul : Nat := 92
abbrev n_strings_HasPrefix : Nat := 93
abbrev n_strings_Builder_Grow : Nat := 94
abbrev n_strings_Builder_Len : Nat := 95
abbrev n_internal_stringslite_CutPrefix : Nat := 96
abbrev n_strings_trimLeftByte : Nat := 97
abbrev n_strings_trimRightByte : Nat := 98
abbrev n_strings_makeASCIISet : Nat := 99
abbrev n_strings_trimLeftASCII : Nat := 100
abbrev n_strings_trimRightASCII : Nat := 101
abbrev n_strings_trimLeftUnicode : Nat := 102
abbrev n_strings_trimRightUnicode : Nat := 103
abbrev n_internal_strconv_Atoi : Nat := 104
abbrev n_strconv_toError : Nat := 105
abbrev n_wire_Int : Nat := 106
abbrev n_wire_count : Nat := 107
abbrev n_wire_reader : Nat := 108
abbrev n_gantryref01_count : Nat := 109
abbrev n_gantryref01_GetInt : Nat := 110
abbrev n_cmp_isNaN_int : Nat := 111
abbrev n_integer_scaled : Nat := 112
abbrev n_internal_abi_NoEscape : Nat := 113
abbrev n_internal_strconv_FormatInt : Nat := 114
abbrev n_math_bits_Mul32 : Nat := 115
abbrev n_math_bits_Mul64 : Nat := 116
abbrev n_internal_stringslite_HasPrefix : Nat := 117
abbrev n_strings_Builder_grow : Nat := 118
abbrev n_strings_asciiSet_contains : Nat := 119
abbrev n_unicode_utf8_DecodeRuneInString : Nat := 120
abbrev n_strings_ContainsRune : Nat := 121
abbrev n_unicode_utf8_DecodeLastRuneInString : Nat := 122
abbrev n_internal_strconv_ParseInt : Nat := 123
abbrev n_strconv_syntaxError : Nat := 124
abbrev n_strconv_rangeError : Nat := 125
abbrev n_strconv_baseError : Nat := 126
abbrev n_strconv_bitSizeError : Nat := 127
abbrev n_wire_GetInt : Nat := 128
abbrev n_wire_reader_1 : Nat := 129
abbrev n_internal_strconv_small : Nat := 130
abbrev n_internal_strconv_numDigits : Nat := 131
abbrev n_internal_strconv_formatBase10 : Nat := 132
abbrev n_internal_strconv_formatBits : Nat := 133
abbrev n_internal_bytealg_MakeNoZero : Nat := 134
abbrev n_unicode_utf8_decodeRuneInStringSlow : Nat := 135
abbrev n_strings_IndexRune : Nat := 136
abbrev n_unicode_utf8_RuneStart : Nat := 137
abbrev n_internal_strconv_ParseUint : Nat := 138
abbrev n_internal_stringslite_Clone : Nat := 139
abbrev n_errors_New : Nat := 140
abbrev n_internal_strconv_log10Pow2 : Nat := 141
abbrev n_math_bits_Len64 : Nat := 142
abbrev n_internal_strconv_bool2_int : Nat := 143
abbrev n_internal_strconv_isPowerOfTwo : Nat := 144
abbrev n_math_bits_TrailingZeros : Nat := 145
abbrev n_strings_IndexByte : Nat := 146
abbrev n_unicode_utf8_ValidRune : Nat := 147
abbrev n_internal_bytealg_Cutover : Nat := 148
abbrev n_internal_bytealg_IndexString : Nat := 149
abbrev n_internal_strconv_lower : Nat := 150
abbrev n_internal_strconv_underscoreOK : Nat := 151
abbrev n_math_bits_TrailingZeros32 : Nat := 152
abbrev n_math_bits_TrailingZeros64 : Nat := 153
abbrev n_internal_stringslite_IndexByte : Nat := 154
abbrev n_internal_bytealg_IndexByteString : Nat := 155
abbrev n_runtime_boundsError_Error : Nat := 156
abbrev n_runtime_boundsError_RuntimeError : Nat := 157
abbrev n_runtime_errorString_Error : Nat := 158
abbrev n_runtime_errorString_RuntimeError : Nat := 159
abbrev n_runtime_plainError_Error : Nat := 160
abbrev n_runtime_plainError_RuntimeError : Nat := 161
abbrev n_runtime_errorAddressString_Error : Nat := 162
abbrev n_runtime_errorAddressString_RuntimeError : Nat := 163
abbrev n_runtime_TypeAssertionError_Error : Nat := 164
abbrev n_runtime_TypeAssertionError_RuntimeError : Nat := 165
abbrev n_runtime_PanicNilError_Error : Nat := 166
abbrev n_runtime_PanicNilError_RuntimeError : Nat := 167
abbrev n_internal_abi_Type_Align : Nat := 168
abbrev n_internal_runtime_maps_unhashableTypeError_Error : Nat := 169
abbrev n_internal_runtime_maps_unhashableTypeError_RuntimeError : Nat := 170
abbrev n_strings_Builder_Reset : Nat := 171
abbrev n_internal_strconv_Error_Error : Nat := 172
abbrev n_strconv_NumError_Error : Nat := 173
abbrev n_errors_errorString_Error : Nat := 174
abbrev n_internal_abi_Kind_String : Nat := 175
abbrev n_var_s_door_gosem_cut_vars_holds_initialisers_alone_see_the_manifest_s_row_cutvarsword_look_11_test_files_too : Nat := 176
abbrev n_var_s_door_internal_strconv_uint64pow10_is_laid_by_its_own_initialiser_plain_data_look_11 : Nat := 177
abbrev n_var_s_door_math_bits_deBruijn32tab_is_laid_by_its_own_initialiser_plain_data_look_11 : Nat := 178
abbrev n_var_s_door_math_bits_deBruijn64tab_is_laid_by_its_own_initialiser_plain_data_look_11 : Nat := 179
abbrev n_var_s_door_strconv_ErrRange_is_laid_by_its_own_call_of_errors_New_on_one_literal_look_11 : Nat := 180
abbrev n_var_s_door_strconv_ErrSyntax_is_laid_by_its_own_call_of_errors_New_on_one_literal_look_11 : Nat := 181
abbrev n_var_s_door_the_look_of_gosem_cut_vars_went_over_the_folder_that_the_caller_named_as_the_repository_s_root_look_11 : Nat := 182
abbrev n_var_s_door_unicode_utf8_acceptRanges_is_laid_by_its_own_initialiser_plain_data_look_11 : Nat := 183
abbrev n_var_s_door_unicode_utf8_first_is_laid_by_its_text_alone_pinned_1 : Nat := 184
abbrev n_gosem_cut_vars : Nat := 185

def gantrylaw04_IntegerInts_l0 : C :=
 .seq (.seq (.seq (.seq (.reg [⟨some 61, .mov (.t 15), none⟩,
 ⟨some 62, .mov (.t 14), none⟩,
 ⟨some 63, .len (.t 62), none⟩,
 ⟨some 64, .bin .lss (.t 61) (.t 63), none⟩] []) <|
 .keep [0, 14, 15, 64] []) <|
 .cond (.t 64) (.skip) <|
 .seq (.keep [0] []) <|
 .exit 0) <|
 .seq (.seq (.blk 1 <|
 .seq (.seq (.seq (.reg [⟨some 67, .mov (.t 14), none⟩,
 ⟨some 68, .mov (.t 15), none⟩,
 ⟨some 69, .ixa 2 (.t 67) (.t 68), none⟩,
 ⟨some 70, .load (some 2) (.t 69), none⟩,
 ⟨some 71, .call n_integer_Valid [(.t 70)] false, none⟩,
 ⟨some 72, .mov (.t 14), none⟩,
 ⟨some 73, .mov (.t 15), none⟩,
 ⟨some 74, .ixa 2 (.t 72) (.t 73), none⟩,
 ⟨some 75, .load (some 2) (.t 74), none⟩,
 ⟨some 76, .call n_gantryref04_Valid [(.t 75)] false, none⟩,
 ⟨some 77, .binb true (.t 71) (.t 76), none⟩] []) <|
 .keep [0, 14, 15, 77] []) <|
 .cond (.t 77) (.seq (.seq (.reg [⟨some 10, .mov (.c (.v (.bool false))), none⟩] []) <|
 .keep [10] []) <|
 .ret) <|
 .skip) <|
 .seq (.seq (.seq (.reg [⟨some 78, .mov (.t 14), none⟩,
 ⟨some 79, .mov (.t 15), none⟩,
 ⟨some 80, .ixa 2 (.t 78) (.t 79), none⟩,
 ⟨some 81, .load (some 2) (.t 80), none⟩,
 ⟨some 82, .call n_gantryref04_Valid [(.t 81)] false, none⟩,
 ⟨some 83, .un .not (.t 82), none⟩] []) <|
 .keep [0, 14, 15, 83] []) <|
 .cond (.t 83) (.seq (.keep [0, 14, 15] []) <|
 .exit 1) <|
 .skip) <|
 .seq (.seq (.reg [⟨some 85, .mov (.t 14), none⟩,
 ⟨some 86, .mov (.t 15), none⟩,
 ⟨some 87, .ixa 2 (.t 85) (.t 86), none⟩,
 ⟨some 88, .load (some 2) (.t 87), none⟩,
 ⟨some 89, .call n_integer_Small [(.t 88)] false, none⟩,
 ⟨some 84, .mov (.t 89), none⟩,
 ⟨some 90, .ext (.t 84) 0, none⟩,
 ⟨some 91, .ext (.t 84) 1, none⟩,
 ⟨some 16, .mov (.t 90), none⟩,
 ⟨some 17, .mov (.t 91), none⟩] []) <|
 .keep [0, 14, 15, 16, 17] []) <|
 .seq (.seq (.reg [⟨some 93, .mov (.t 14), none⟩,
 ⟨some 94, .mov (.t 15), none⟩,
 ⟨some 95, .ixa 2 (.t 93) (.t 94), none⟩,
 ⟨some 96, .load (some 2) (.t 95), none⟩,
 ⟨some 97, .call n_gantryref04_Small [(.t 96)] false, none⟩,
 ⟨some 92, .mov (.t 97), none⟩,
 ⟨some 98, .ext (.t 92) 0, none⟩,
 ⟨some 99, .ext (.t 92) 1, none⟩,
 ⟨some 18, .mov (.t 98), none⟩,
 ⟨some 19, .mov (.t 99), none⟩] []) <|
 .keep [0, 14, 15, 16, 17, 18, 19] []) <|
 .seq (.seq (.reg [⟨some 100, .mov (.t 16), none⟩,
 ⟨some 101, .mov (.t 18), none⟩,
 ⟨some 102, .bin .neq (.t 100) (.t 101), none⟩,
 ⟨some 103, .mov (.t 102), none⟩,
 ⟨some 104, .mov (.t 17), (some (103, false))⟩,
 ⟨some 105, .mov (.t 19), (some (103, false))⟩,
 ⟨some 106, .binb true (.t 104) (.t 105), (some (103, false))⟩,
 ⟨some 107, .pick (.t 103) (.c (.v (.bool true))) (.t 106), none⟩] []) <|
 .keep [0, 14, 15, 107] []) <|
 .cond (.t 107) (.seq (.seq (.reg [⟨some 10, .mov (.c (.v (.bool false))), none⟩] []) <|
 .keep [10] []) <|
 .ret) <|
 .skip) <|
 .keep [0, 14, 15] []) <|
 .seq (.reg [⟨some 65, .mov (.t 15), none⟩,
 ⟨some 66, .bin .add (.t 65) (.c (.v (.int .i64 1))), none⟩,
 ⟨some 15, .mov (.t 66), none⟩] []) <|
 .keep [0, 14, 15] []) <|
 .keep [0, 14, 15] []
def gantrylaw04_IntegerInts : CF := ⟨5, .seq (.seq (.reg [⟨some 10, .mov (.c (.v (.bool false))), none⟩] []) <|
 .keep [0, 1, 2, 3, 4] []) <|
 .seq (.seq (.reg [⟨some 22, .mov (.t 1), none⟩,
 ⟨some 23, .call n_gantryref04_Number [(.t 22), (.c (.v (.int .i64 0)))] false, none⟩,
 ⟨some 11, .new [.v (.bool false), .z true], none⟩,
 ⟨none, .store 2 (.t 11) (.t 23), none⟩] []) <|
 .keep [0, 2, 3, 4, 11] [[11]]) <|
 .seq (.seq (.reg [⟨some 24, .mov (.t 3), none⟩,
 ⟨some 25, .mov (.t 2), none⟩,
 ⟨some 26, .call n_gantryref01_Take [(.t 25), (.c (.v (.int .i64 8)))] false, none⟩,
 ⟨some 27, .build [.v (.bool false), .z true] [(0, 1, (.t 24)), (1, 1, (.t 26))], none⟩,
 ⟨some 12, .new [.v (.bool false), .z true], none⟩,
 ⟨none, .store 2 (.t 12) (.t 27), none⟩] []) <|
 .keep [0, 3, 4, 11, 12] [[11], [12]]) <|
 .seq (.seq (.reg [⟨some 28, .mov (.t 3), none⟩,
 ⟨some 29, .fad 0 (.t 11), none⟩,
 ⟨some 30, .load none (.t 29), none⟩,
 ⟨some 31, .binb true (.t 28) (.t 30), none⟩,
 ⟨some 32, .lit 1 0 [.v (.int .i64 0)] [] false, none⟩,
 ⟨some 33, .fad 1 (.t 11), none⟩,
 ⟨some 34, .load none (.t 33), none⟩,
 ⟨some 35, .app 1 8 (.t 32) (.t 34) false, none⟩,
 ⟨some 36, .lit 1 5 [.v (.int .i64 0)] [(0, (.c (.v (.int .i64 0)))), (1, (.c (.v (.int .i64 1)))), (2, (.c (.v (.int .i64 (-1))))), (3, (.c (.v (.int .i64 999999999)))), (4, (.c (.v (.int .i64 1000000000))))] true, none⟩,
 ⟨some 37, .mov (.t 4), none⟩,
 ⟨some 38, .call n_gantryref01_Around [(.t 37), (.c (.v (.int .i64 5)))] false, none⟩,
 ⟨some 39, .ixa 1 (.t 36) (.t 38), none⟩,
 ⟨some 40, .load none (.t 39), none⟩,
 ⟨some 41, .lit 1 1 [.v (.int .i64 0)] [(0, (.t 40))] true, none⟩,
 ⟨some 42, .app 1 8 (.t 35) (.t 41) true, none⟩,
 ⟨some 43, .build [.v (.bool false), .z true] [(0, 1, (.t 31)), (1, 1, (.t 42))], none⟩,
 ⟨some 13, .new [.v (.bool false), .z true], none⟩,
 ⟨none, .store 2 (.t 13) (.t 43), none⟩] [((.t 29), 0, (.t 29), 0), ((.t 29), 0, (.t 29), 0)]) <|
 .keep [0, 4, 11, 12, 13] [[11], [12], [13]]) <|
 .seq (.seq (.reg [⟨some 44, .load (some 2) (.t 11), none⟩,
 ⟨some 45, .load (some 2) (.t 12), none⟩,
 ⟨some 46, .load (some 2) (.t 13), none⟩,
 ⟨some 47, .mov (.t 0), none⟩,
 ⟨some 48, .call n_gantryref04_Of [(.t 47)] false, none⟩,
 ⟨some 49, .call n_gantryref04_Of [(.c (.v (.int .i64 9223372036854775807)))] false, none⟩,
 ⟨some 50, .mov (.t 4), none⟩,
 ⟨some 51, .bin .rem (.t 50) (.c (.v (.int .i64 3))), none⟩,
 ⟨some 52, .call n_gantryref04_Of [(.t 51)] false, none⟩,
 ⟨some 53, .call n_gantryref04_Add [(.t 49), (.t 52)] false, none⟩,
 ⟨some 54, .call n_gantryref04_Of [(.c (.v (.int .i64 (-9223372036854775808))))] false, none⟩,
 ⟨some 55, .mov (.t 4), none⟩,
 ⟨some 56, .bin .rem (.t 55) (.c (.v (.int .i64 3))), none⟩,
 ⟨some 57, .call n_gantryref04_Of [(.t 56)] false, none⟩,
 ⟨some 58, .call n_gantryref04_Sub [(.t 54), (.t 57)] false, none⟩,
 ⟨some 59, .build [.v (.bool false), .z true] [], none⟩,
 ⟨some 60, .lit 2 7 [.v (.bool false), .z true] [(0, (.t 44)), (1, (.t 45)), (2, (.t 46)), (3, (.t 48)), (4, (.t 53)), (5, (.t 58)), (6, (.t 59))] true, none⟩,
 ⟨some 14, .mov (.t 60), none⟩] []) <|
 .keep [0, 14] []) <|
 .seq (.seq (.seq (.reg [⟨some 15, .mov (.c (.v (.int .i64 0))), none⟩] []) <|
 .keep [0, 14, 15] []) <|
 .seq (.blk 0 <|
 .seq (.keep [0, 14, 15] []) <|
 .loop gantrylaw04_IntegerInts_l0) <|
 .keep [0] []) <|
 .seq (.seq (.reg [⟨some 109, .mov (.t 0), none⟩,
 ⟨some 110, .call n_integer_Of [(.t 109)] false, none⟩,
 ⟨some 111, .call n_integer_Small [(.t 110)] false, none⟩,
 ⟨some 108, .mov (.t 111), none⟩,
 ⟨some 112, .ext (.t 108) 0, none⟩,
 ⟨some 113, .ext (.t 108) 1, none⟩,
 ⟨some 20, .mov (.t 112), none⟩,
 ⟨some 21, .mov (.t 113), none⟩] []) <|
 .keep [0, 20, 21] []) <|
 .seq (.seq (.reg [⟨some 114, .mov (.t 0), none⟩,
 ⟨some 115, .call n_integer_Of [(.t 114)] false, none⟩,
 ⟨some 116, .mov (.t 0), none⟩,
 ⟨some 117, .call n_gantryref04_Of [(.t 116)] false, none⟩,
 ⟨some 118, .call n_gantrylaw04_same [(.t 115), (.t 117)] false, none⟩,
 ⟨some 119, .mov (.t 118), none⟩,
 ⟨some 120, .mov (.t 20), (some (119, true))⟩,
 ⟨some 121, .mov (.t 0), (some (119, true))⟩,
 ⟨some 122, .bin .eql (.t 120) (.t 121), (some (119, true))⟩,
 ⟨some 123, .pick (.t 119) (.t 122) (.c (.v (.bool false))), none⟩,
 ⟨some 124, .mov (.t 123), none⟩,
 ⟨some 125, .mov (.t 21), (some (124, true))⟩,
 ⟨some 126, .pick (.t 124) (.t 125) (.c (.v (.bool false))), none⟩,
 ⟨some 127, .mov (.t 126), none⟩,
 ⟨some 128, .call n_gantrylaw04_lives [] false, (some (127, true))⟩,
 ⟨some 129, .pick (.t 127) (.t 128) (.c (.v (.bool false))), none⟩,
 ⟨some 10, .mov (.t 129), none⟩] []) <|
 .keep [10] []) <|
 .ret, [.t 10]⟩

def gantryref04_Number_l0 : C :=
 .seq (.seq (.seq (.seq (.reg [⟨some 72, .mov (.t 10), none⟩,
 ⟨some 73, .mov (.t 6), none⟩,
 ⟨some 74, .bin .quo (.t 73) (.c (.v (.int .i64 2))), none⟩,
 ⟨some 75, .bin .rem (.t 74) (.c (.v (.int .i64 5))), none⟩,
 ⟨some 76, .bin .add (.c (.v (.int .i64 1))) (.t 75), none⟩,
 ⟨some 77, .bin .lss (.t 72) (.t 76), none⟩] []) <|
 .keep [0, 1, 4, 6, 7, 8, 10, 77] [[4], [39], [91]]) <|
 .cond (.t 77) (.skip) <|
 .seq (.keep [4, 7, 8] [[4], [39], [91]]) <|
 .exit 3) <|
 .seq (.seq (.blk 4 <|
 .seq (.reg [⟨some 80, .mov (.t 8), none⟩,
 ⟨some 81, .lit 1 4 [.v (.int .i64 0)] [(0, (.c (.v (.int .i64 0)))), (1, (.c (.v (.int .i64 999999999)))), (2, (.c (.v (.int .i64 1)))), (3, (.c (.v (.int .i64 500000000))))] true, none⟩,
 ⟨some 82, .mov (.t 0), none⟩,
 ⟨some 83, .mov (.t 1), none⟩,
 ⟨some 84, .bin .add (.t 83) (.c (.v (.int .i64 2))), none⟩,
 ⟨some 85, .mov (.t 10), none⟩,
 ⟨some 86, .bin .add (.t 84) (.t 85), none⟩,
 ⟨some 87, .call n_gantryref01_At [(.t 82), (.t 86), (.c (.v (.int .i64 4)))] false, none⟩,
 ⟨some 88, .ixa 1 (.t 81) (.t 87), none⟩,
 ⟨some 89, .load none (.t 88), none⟩,
 ⟨some 90, .lit 1 1 [.v (.int .i64 0)] [(0, (.t 89))] true, none⟩,
 ⟨some 91, .app 1 8 (.t 80) (.t 90) false, none⟩,
 ⟨some 8, .mov (.t 91), none⟩] []) <|
 .keep [0, 1, 4, 6, 7, 8, 10] [[4], [39], [91]]) <|
 .keep [0, 1, 4, 6, 7, 8, 10] [[4], [39], [91]]) <|
 .seq (.reg [⟨some 78, .mov (.t 10), none⟩,
 ⟨some 79, .bin .add (.t 78) (.c (.v (.int .i64 1))), none⟩,
 ⟨some 10, .mov (.t 79), none⟩] []) <|
 .keep [0, 1, 4, 6, 7, 8, 10] [[4], [39], [91]]) <|
 .keep [0, 1, 4, 6, 7, 8, 10] [[4], [39], [91]]
def gantryref04_Number_l1 : C :=
 .seq (.seq (.seq (.seq (.reg [⟨some 23, .mov (.t 11), none⟩,
 ⟨some 24, .mov (.t 6), none⟩,
 ⟨some 25, .bin .quo (.t 24) (.c (.v (.int .i64 2))), none⟩,
 ⟨some 26, .bin .rem (.t 25) (.c (.v (.int .i64 6))), none⟩,
 ⟨some 27, .bin .add (.c (.v (.int .i64 1))) (.t 26), none⟩,
 ⟨some 28, .bin .lss (.t 23) (.t 27), none⟩] []) <|
 .keep [0, 1, 4, 6, 7, 8, 11, 28] [[4], [39], [91]]) <|
 .cond (.t 28) (.skip) <|
 .seq (.keep [4, 7, 8] [[4], [39], [91]]) <|
 .exit 1) <|
 .seq (.seq (.blk 2 <|
 .seq (.reg [⟨some 31, .mov (.t 8), none⟩,
 ⟨some 32, .mov (.t 0), none⟩,
 ⟨some 33, .mov (.t 1), none⟩,
 ⟨some 34, .bin .add (.t 33) (.c (.v (.int .i64 2))), none⟩,
 ⟨some 35, .mov (.t 11), none⟩,
 ⟨some 36, .bin .add (.t 34) (.t 35), none⟩,
 ⟨some 37, .call n_gantryref01_At [(.t 32), (.t 36), (.c (.v (.int .i64 1000000000)))] false, none⟩,
 ⟨some 38, .lit 1 1 [.v (.int .i64 0)] [(0, (.t 37))] true, none⟩,
 ⟨some 39, .app 1 8 (.t 31) (.t 38) false, none⟩,
 ⟨some 8, .mov (.t 39), none⟩] []) <|
 .keep [0, 1, 4, 6, 7, 8, 11] [[4], [39], [91]]) <|
 .keep [0, 1, 4, 6, 7, 8, 11] [[4], [39], [91]]) <|
 .seq (.reg [⟨some 29, .mov (.t 11), none⟩,
 ⟨some 30, .bin .add (.t 29) (.c (.v (.int .i64 1))), none⟩,
 ⟨some 11, .mov (.t 30), none⟩] []) <|
 .keep [0, 1, 4, 6, 7, 8, 11] [[4], [39], [91]]) <|
 .keep [0, 1, 4, 6, 7, 8, 11] [[4], [39], [91]]
def gantryref04_Number : CF := ⟨2, .seq (.seq (.reg [⟨some 4, .new [.v (.bool false), .z true], none⟩] []) <|
 .keep [0, 1, 4] [[4]]) <|
 .seq (.seq (.reg [⟨some 12, .mov (.t 0), none⟩,
 ⟨some 13, .mov (.t 1), none⟩,
 ⟨some 14, .call n_gantryref01_At [(.t 12), (.t 13), (.c (.v (.int .i64 6)))] false, none⟩,
 ⟨some 5, .mov (.t 14), none⟩] []) <|
 .keep [0, 1, 4, 5] [[4]]) <|
 .seq (.seq (.reg [⟨some 15, .mov (.t 0), none⟩,
 ⟨some 16, .mov (.t 1), none⟩,
 ⟨some 17, .bin .add (.t 16) (.c (.v (.int .i64 1))), none⟩,
 ⟨some 18, .call n_gantryref01_At [(.t 15), (.t 17), (.c (.v (.int .i64 1000000)))] false, none⟩,
 ⟨some 6, .mov (.t 18), none⟩] []) <|
 .keep [0, 1, 4, 5, 6] [[4]]) <|
 .seq (.seq (.reg [⟨some 19, .mov (.t 6), none⟩,
 ⟨some 20, .bin .rem (.t 19) (.c (.v (.int .i64 2))), none⟩,
 ⟨some 21, .bin .eql (.t 20) (.c (.v (.int .i64 1))), none⟩,
 ⟨some 7, .mov (.t 21), none⟩] []) <|
 .keep [0, 1, 4, 5, 6, 7] [[4]]) <|
 .seq (.seq (.reg [⟨some 8, .mov (.c (.z true)), none⟩] []) <|
 .keep [0, 1, 4, 5, 6, 7, 8] [[4], [39], [91]]) <|
 .seq (.seq (.seq (.reg [⟨some 22, .mov (.t 5), none⟩] []) <|
 .keep [0, 1, 4, 6, 7, 8, 22] [[4], [39], [91]]) <|
 .seq (.blk 0 <|
 .seq (.seq (.reg [⟨some 41, .bin .eql (.t 22) (.c (.v (.int .i64 0))), none⟩,
 ⟨some 40, .mov (.t 41), none⟩] []) <|
 .keep [0, 1, 4, 6, 7, 8, 22, 40] [[4], [39], [91]]) <|
 .cond (.t 40) (.seq (.seq (.reg [⟨some 42, .mov (.t 6), none⟩,
 ⟨some 43, .bin .rem (.t 42) (.c (.v (.int .i64 41))), none⟩,
 ⟨some 44, .bin .sub (.t 43) (.c (.v (.int .i64 20))), none⟩,
 ⟨some 45, .call n_gantryref04_Of [(.t 44)] false, none⟩,
 ⟨none, .store 2 (.t 4) (.t 45), none⟩] []) <|
 .keep [4] [[4]]) <|
 .ret) <|
 .seq (.seq (.reg [⟨some 47, .bin .eql (.t 22) (.c (.v (.int .i64 1))), none⟩,
 ⟨some 46, .mov (.t 47), none⟩] []) <|
 .keep [0, 1, 4, 6, 7, 8, 22, 46] [[4], [39], [91]]) <|
 .cond (.t 46) (.seq (.seq (.reg [⟨some 48, .mov (.t 6), none⟩,
 ⟨some 49, .bin .sub (.t 48) (.c (.v (.int .i64 500000))), none⟩,
 ⟨some 50, .call n_gantryref04_Of [(.t 49)] false, none⟩,
 ⟨none, .store 2 (.t 4) (.t 50), none⟩] []) <|
 .keep [4] [[4]]) <|
 .ret) <|
 .seq (.seq (.reg [⟨some 52, .bin .eql (.t 22) (.c (.v (.int .i64 2))), none⟩,
 ⟨some 51, .mov (.t 52), none⟩] []) <|
 .keep [0, 1, 4, 6, 7, 8, 22, 51] [[4], [39], [91]]) <|
 .cond (.t 51) (.seq (.seq (.reg [⟨some 53, .mov (.t 6), none⟩,
 ⟨some 54, .bin .quo (.t 53) (.c (.v (.int .i64 2))), none⟩,
 ⟨some 55, .bin .rem (.t 54) (.c (.v (.int .i64 30))), none⟩,
 ⟨some 56, .call n_gantryref04_Power [(.t 55)] false, none⟩,
 ⟨some 57, .mov (.t 6), none⟩,
 ⟨some 58, .bin .quo (.t 57) (.c (.v (.int .i64 60))), none⟩,
 ⟨some 59, .bin .rem (.t 58) (.c (.v (.int .i64 5))), none⟩,
 ⟨some 60, .bin .sub (.t 59) (.c (.v (.int .i64 2))), none⟩,
 ⟨some 61, .call n_gantryref04_Of [(.t 60)] false, none⟩,
 ⟨some 62, .call n_gantryref04_Add [(.t 56), (.t 61)] false, none⟩,
 ⟨some 9, .new [.v (.bool false), .z true], none⟩,
 ⟨none, .store 2 (.t 9) (.t 62), none⟩] []) <|
 .keep [4, 7, 9] [[4], [9]]) <|
 .seq (.seq (.reg [⟨some 63, .mov (.t 7), none⟩,
 ⟨some 64, .fad 0 (.t 9), none⟩,
 ⟨some 65, .load none (.t 64), none⟩,
 ⟨some 66, .binb true (.t 63) (.t 65), none⟩,
 ⟨some 67, .fad 1 (.t 9), none⟩,
 ⟨some 68, .load none (.t 67), none⟩,
 ⟨some 69, .call n_gantryref04_normal [(.t 66), (.t 68)] false, none⟩,
 ⟨none, .store 2 (.t 4) (.t 69), none⟩] []) <|
 .keep [4] [[4]]) <|
 .ret) <|
 .seq (.seq (.reg [⟨some 71, .bin .eql (.t 22) (.c (.v (.int .i64 3))), none⟩,
 ⟨some 70, .mov (.t 71), none⟩] []) <|
 .keep [0, 1, 4, 6, 7, 8, 70] [[4], [39], [91]]) <|
 .cond (.t 70) (.seq (.seq (.reg [⟨some 10, .mov (.c (.v (.int .i64 0))), none⟩] []) <|
 .keep [0, 1, 4, 6, 7, 8, 10] [[4], [39], [91]]) <|
 .seq (.blk 3 <|
 .seq (.keep [0, 1, 4, 6, 7, 8, 10] [[4], [39], [91]]) <|
 .loop gantryref04_Number_l0) <|
 .keep [4, 7, 8] [[4], [39], [91]]) <|
 .seq (.seq (.reg [⟨some 11, .mov (.c (.v (.int .i64 0))), none⟩] []) <|
 .keep [0, 1, 4, 6, 7, 8, 11] [[4], [39], [91]]) <|
 .seq (.blk 1 <|
 .seq (.keep [0, 1, 4, 6, 7, 8, 11] [[4], [39], [91]]) <|
 .loop gantryref04_Number_l1) <|
 .keep [4, 7, 8] [[4], [39], [91]]) <|
 .keep [4, 7, 8] [[4], [39], [91]]) <|
 .seq (.seq (.frz 8) <|
 .seq (.reg [⟨some 92, .mov (.t 7), none⟩,
 ⟨some 93, .mov (.t 8), none⟩,
 ⟨some 94, .call n_gantryref04_normal [(.t 92), (.t 93)] false, none⟩,
 ⟨none, .store 2 (.t 4) (.t 94), none⟩] []) <|
 .keep [4] [[4]]) <|
 .ret, [.cell 4 (some 2)]⟩

def gantryref04_Mul_l0 : C :=
 .seq (.seq (.seq (.seq (.reg [⟨some 25, .mov (.t 8), none⟩,
 ⟨some 26, .fad 1 (.t 3), none⟩,
 ⟨some 27, .load none (.t 26), none⟩,
 ⟨some 28, .len (.t 27), none⟩,
 ⟨some 29, .bin .lss (.t 25) (.t 28), none⟩] []) <|
 .keep [2, 3, 4, 5, 6, 7, 8, 29] [[2], [3], [4], [17]]) <|
 .cond (.t 29) (.skip) <|
 .seq (.keep [2, 3, 4, 5, 6, 7] [[2], [3], [4], [17]]) <|
 .exit 2) <|
 .seq (.seq (.blk 3 <|
 .seq (.seq (.reg [⟨some 32, .mov (.t 5), none⟩,
 ⟨some 33, .mov (.t 6), none⟩,
 ⟨some 34, .mov (.t 8), none⟩,
 ⟨some 35, .bin .add (.t 33) (.t 34), none⟩,
 ⟨some 36, .ixa 1 (.t 32) (.t 35), none⟩,
 ⟨some 37, .load none (.t 36), none⟩,
 ⟨some 38, .fad 1 (.t 2), none⟩,
 ⟨some 39, .load none (.t 38), none⟩,
 ⟨some 40, .mov (.t 6), none⟩,
 ⟨some 41, .ixa 1 (.t 39) (.t 40), none⟩,
 ⟨some 42, .load none (.t 41), none⟩,
 ⟨some 43, .fad 1 (.t 3), none⟩,
 ⟨some 44, .load none (.t 43), none⟩,
 ⟨some 45, .mov (.t 8), none⟩,
 ⟨some 46, .ixa 1 (.t 44) (.t 45), none⟩,
 ⟨some 47, .load none (.t 46), none⟩,
 ⟨some 48, .bin .mul (.t 42) (.t 47), none⟩,
 ⟨some 49, .bin .add (.t 37) (.t 48), none⟩,
 ⟨some 50, .mov (.t 7), none⟩,
 ⟨some 51, .bin .add (.t 49) (.t 50), none⟩,
 ⟨some 9, .mov (.t 51), none⟩] []) <|
 .keep [2, 3, 4, 5, 6, 8, 9] [[2], [3], [4], [17]]) <|
 .seq (.seq (.reg [⟨some 52, .mov (.t 5), none⟩,
 ⟨some 53, .mov (.t 6), none⟩,
 ⟨some 54, .mov (.t 8), none⟩,
 ⟨some 55, .bin .add (.t 53) (.t 54), none⟩,
 ⟨some 56, .mov (.t 9), none⟩,
 ⟨some 57, .bin .rem (.t 56) (.c (.v (.int .i64 1000000000))), none⟩,
 ⟨some 58, .ixa 1 (.t 52) (.t 55), none⟩,
 ⟨none, .store 1 (.t 58) (.t 57), none⟩] []) <|
 .keep [2, 3, 4, 5, 6, 8, 9] [[2], [3], [4], [17]]) <|
 .seq (.reg [⟨some 59, .mov (.t 9), none⟩,
 ⟨some 60, .bin .quo (.t 59) (.c (.v (.int .i64 1000000000))), none⟩,
 ⟨some 7, .mov (.t 60), none⟩] []) <|
 .keep [2, 3, 4, 5, 6, 7, 8] [[2], [3], [4], [17]]) <|
 .keep [2, 3, 4, 5, 6, 7, 8] [[2], [3], [4], [17]]) <|
 .seq (.reg [⟨some 30, .mov (.t 8), none⟩,
 ⟨some 31, .bin .add (.t 30) (.c (.v (.int .i64 1))), none⟩,
 ⟨some 8, .mov (.t 31), none⟩] []) <|
 .keep [2, 3, 4, 5, 6, 7, 8] [[2], [3], [4], [17]]) <|
 .keep [2, 3, 4, 5, 6, 7, 8] [[2], [3], [4], [17]]
def gantryref04_Mul_l1 : C :=
 .seq (.seq (.seq (.seq (.reg [⟨some 18, .mov (.t 6), none⟩,
 ⟨some 19, .fad 1 (.t 2), none⟩,
 ⟨some 20, .load none (.t 19), none⟩,
 ⟨some 21, .len (.t 20), none⟩,
 ⟨some 22, .bin .lss (.t 18) (.t 21), none⟩] []) <|
 .keep [2, 3, 4, 5, 6, 22] [[2], [3], [4], [17]]) <|
 .cond (.t 22) (.skip) <|
 .seq (.keep [2, 3, 4, 5] [[2], [3], [4], [17]]) <|
 .exit 0) <|
 .seq (.seq (.blk 1 <|
 .seq (.seq (.reg [⟨some 7, .mov (.c (.v (.int .i64 0))), none⟩] []) <|
 .keep [2, 3, 4, 5, 6, 7] [[2], [3], [4], [17]]) <|
 .seq (.seq (.seq (.reg [⟨some 8, .mov (.c (.v (.int .i64 0))), none⟩] []) <|
 .keep [2, 3, 4, 5, 6, 7, 8] [[2], [3], [4], [17]]) <|
 .seq (.blk 2 <|
 .seq (.keep [2, 3, 4, 5, 6, 7, 8] [[2], [3], [4], [17]]) <|
 .loop gantryref04_Mul_l0) <|
 .keep [2, 3, 4, 5, 6, 7] [[2], [3], [4], [17]]) <|
 .seq (.reg [⟨some 61, .mov (.t 5), none⟩,
 ⟨some 62, .mov (.t 6), none⟩,
 ⟨some 63, .fad 1 (.t 3), none⟩,
 ⟨some 64, .load none (.t 63), none⟩,
 ⟨some 65, .len (.t 64), none⟩,
 ⟨some 66, .bin .add (.t 62) (.t 65), none⟩,
 ⟨some 67, .mov (.t 7), none⟩,
 ⟨some 68, .ixa 1 (.t 61) (.t 66), none⟩,
 ⟨none, .store 1 (.t 68) (.t 67), none⟩] []) <|
 .keep [2, 3, 4, 5, 6] [[2], [3], [4], [17]]) <|
 .keep [2, 3, 4, 5, 6] [[2], [3], [4], [17]]) <|
 .seq (.reg [⟨some 23, .mov (.t 6), none⟩,
 ⟨some 24, .bin .add (.t 23) (.c (.v (.int .i64 1))), none⟩,
 ⟨some 6, .mov (.t 24), none⟩] []) <|
 .keep [2, 3, 4, 5, 6] [[2], [3], [4], [17]]) <|
 .keep [2, 3, 4, 5, 6] [[2], [3], [4], [17]]
def gantryref04_Mul : CF := ⟨2, .seq (.seq (.reg [⟨some 2, .box (.t 0), none⟩,
 ⟨some 3, .box (.t 1), none⟩,
 ⟨some 4, .new [.v (.bool false), .z true], none⟩] []) <|
 .keep [2, 3, 4] [[2], [3], [4]]) <|
 .seq (.seq (.reg [⟨some 10, .fad 1 (.t 2), none⟩,
 ⟨some 11, .load none (.t 10), none⟩,
 ⟨some 12, .len (.t 11), none⟩,
 ⟨some 13, .fad 1 (.t 3), none⟩,
 ⟨some 14, .load none (.t 13), none⟩,
 ⟨some 15, .len (.t 14), none⟩,
 ⟨some 16, .bin .add (.t 12) (.t 15), none⟩,
 ⟨some 17, .mksl 1 8 [.v (.int .i64 0)] (.t 16) (.t 16), none⟩,
 ⟨some 5, .mov (.t 17), none⟩] []) <|
 .keep [2, 3, 4, 5] [[2], [3], [4], [17]]) <|
 .seq (.seq (.seq (.reg [⟨some 6, .mov (.c (.v (.int .i64 0))), none⟩] []) <|
 .keep [2, 3, 4, 5, 6] [[2], [3], [4], [17]]) <|
 .seq (.blk 0 <|
 .seq (.keep [2, 3, 4, 5, 6] [[2], [3], [4], [17]]) <|
 .loop gantryref04_Mul_l1) <|
 .keep [2, 3, 4, 5] [[2], [3], [4], [17]]) <|
 .seq (.seq (.frz 5) <|
 .seq (.reg [⟨some 69, .fad 0 (.t 2), none⟩,
 ⟨some 70, .load none (.t 69), none⟩,
 ⟨some 71, .fad 0 (.t 3), none⟩,
 ⟨some 72, .load none (.t 71), none⟩,
 ⟨some 73, .binb true (.t 70) (.t 72), none⟩,
 ⟨some 74, .mov (.t 5), none⟩,
 ⟨some 75, .call n_gantryref04_normal [(.t 73), (.t 74)] false, none⟩,
 ⟨none, .store 2 (.t 4) (.t 75), none⟩] []) <|
 .keep [4] [[4]]) <|
 .ret, [.cell 4 (some 2)]⟩

def gantryref04_Add : CF := ⟨2, .seq (.seq (.reg [⟨some 2, .box (.t 0), none⟩,
 ⟨some 3, .box (.t 1), none⟩,
 ⟨some 4, .new [.v (.bool false), .z true], none⟩] []) <|
 .keep [2, 3, 4] [[2], [3], [4]]) <|
 .seq (.seq (.seq (.reg [⟨some 5, .fad 0 (.t 2), none⟩,
 ⟨some 6, .load none (.t 5), none⟩,
 ⟨some 7, .fad 0 (.t 3), none⟩,
 ⟨some 8, .load none (.t 7), none⟩,
 ⟨some 9, .binb false (.t 6) (.t 8), none⟩] []) <|
 .keep [2, 3, 4, 9] [[2], [3], [4]]) <|
 .cond (.t 9) (.seq (.seq (.reg [⟨some 10, .fad 0 (.t 2), none⟩,
 ⟨some 11, .load none (.t 10), none⟩,
 ⟨some 12, .fad 1 (.t 2), none⟩,
 ⟨some 13, .load none (.t 12), none⟩,
 ⟨some 14, .fad 1 (.t 3), none⟩,
 ⟨some 15, .load none (.t 14), none⟩,
 ⟨some 16, .call n_gantryref04_plus [(.t 13), (.t 15)] false, none⟩,
 ⟨some 17, .call n_gantryref04_normal [(.t 11), (.t 16)] false, none⟩,
 ⟨none, .store 2 (.t 4) (.t 17), none⟩] []) <|
 .keep [4] [[4]]) <|
 .ret) <|
 .skip) <|
 .seq (.seq (.seq (.reg [⟨some 18, .fad 1 (.t 2), none⟩,
 ⟨some 19, .load none (.t 18), none⟩,
 ⟨some 20, .fad 1 (.t 3), none⟩,
 ⟨some 21, .load none (.t 20), none⟩,
 ⟨some 22, .call n_gantryref04_compared [(.t 19), (.t 21)] false, none⟩,
 ⟨some 23, .bin .lss (.t 22) (.c (.v (.int .i64 0))), none⟩] []) <|
 .keep [2, 3, 4, 23] [[2], [3], [4]]) <|
 .cond (.t 23) (.seq (.seq (.reg [⟨some 24, .fad 0 (.t 3), none⟩,
 ⟨some 25, .load none (.t 24), none⟩,
 ⟨some 26, .fad 1 (.t 3), none⟩,
 ⟨some 27, .load none (.t 26), none⟩,
 ⟨some 28, .fad 1 (.t 2), none⟩,
 ⟨some 29, .load none (.t 28), none⟩,
 ⟨some 30, .call n_gantryref04_minus [(.t 27), (.t 29)] false, none⟩,
 ⟨some 31, .call n_gantryref04_normal [(.t 25), (.t 30)] false, none⟩,
 ⟨none, .store 2 (.t 4) (.t 31), none⟩] []) <|
 .keep [4] [[4]]) <|
 .ret) <|
 .skip) <|
 .seq (.seq (.reg [⟨some 32, .fad 0 (.t 2), none⟩,
 ⟨some 33, .load none (.t 32), none⟩,
 ⟨some 34, .fad 1 (.t 2), none⟩,
 ⟨some 35, .load none (.t 34), none⟩,
 ⟨some 36, .fad 1 (.t 3), none⟩,
 ⟨some 37, .load none (.t 36), none⟩,
 ⟨some 38, .call n_gantryref04_minus [(.t 35), (.t 37)] false, none⟩,
 ⟨some 39, .call n_gantryref04_normal [(.t 33), (.t 38)] false, none⟩,
 ⟨none, .store 2 (.t 4) (.t 39), none⟩] []) <|
 .keep [4] [[4]]) <|
 .ret, [.cell 4 (some 2)]⟩

def gantryref04_Of_l0 : C :=
 .seq (.seq (.seq (.seq (.reg [⟨some 8, .mov (.t 0), none⟩,
 ⟨some 9, .bin .neq (.t 8) (.c (.v (.int .i64 0))), none⟩] []) <|
 .keep [0, 2, 3, 4, 9] [[2], [19]]) <|
 .cond (.t 9) (.skip) <|
 .seq (.keep [2, 3, 4] [[2], [19]]) <|
 .exit 0) <|
 .seq (.blk 1 <|
 .seq (.seq (.reg [⟨some 10, .mov (.t 0), none⟩,
 ⟨some 11, .bin .rem (.t 10) (.c (.v (.int .i64 1000000000))), none⟩,
 ⟨some 5, .mov (.t 11), none⟩] []) <|
 .keep [0, 2, 3, 4, 5] [[2], [19]]) <|
 .seq (.seq (.seq (.reg [⟨some 12, .mov (.t 5), none⟩,
 ⟨some 13, .bin .lss (.t 12) (.c (.v (.int .i64 0))), none⟩] []) <|
 .keep [0, 2, 3, 4, 5, 13] [[2], [19]]) <|
 .cond (.t 13) (.seq (.reg [⟨some 14, .mov (.t 5), none⟩,
 ⟨some 15, .un .neg (.t 14), none⟩,
 ⟨some 5, .mov (.t 15), none⟩] []) <|
 .keep [0, 2, 3, 4, 5] [[2], [19]]) <|
 .skip) <|
 .seq (.seq (.reg [⟨some 16, .mov (.t 3), none⟩,
 ⟨some 17, .mov (.t 5), none⟩,
 ⟨some 18, .lit 1 1 [.v (.int .i64 0)] [(0, (.t 17))] true, none⟩,
 ⟨some 19, .app 1 8 (.t 16) (.t 18) false, none⟩,
 ⟨some 3, .mov (.t 19), none⟩] []) <|
 .keep [0, 2, 3, 4] [[2], [19]]) <|
 .seq (.reg [⟨some 20, .mov (.t 0), none⟩,
 ⟨some 21, .bin .quo (.t 20) (.c (.v (.int .i64 1000000000))), none⟩,
 ⟨some 0, .mov (.t 21), none⟩] []) <|
 .keep [0, 2, 3, 4] [[2], [19]]) <|
 .keep [0, 2, 3, 4] [[2], [19]]) <|
 .keep [0, 2, 3, 4] [[2], [19]]
def gantryref04_Of : CF := ⟨1, .seq (.seq (.reg [⟨some 2, .new [.v (.bool false), .z true], none⟩] []) <|
 .keep [0, 2] [[2]]) <|
 .seq (.seq (.reg [⟨some 3, .mov (.c (.z true)), none⟩] []) <|
 .keep [0, 2, 3] [[2], [19]]) <|
 .seq (.seq (.reg [⟨some 6, .mov (.t 0), none⟩,
 ⟨some 7, .bin .lss (.t 6) (.c (.v (.int .i64 0))), none⟩,
 ⟨some 4, .mov (.t 7), none⟩] []) <|
 .keep [0, 2, 3, 4] [[2], [19]]) <|
 .seq (.seq (.blk 0 <|
 .seq (.keep [0, 2, 3, 4] [[2], [19]]) <|
 .loop gantryref04_Of_l0) <|
 .keep [2, 3, 4] [[2], [19]]) <|
 .seq (.seq (.frz 3) <|
 .seq (.reg [⟨some 22, .mov (.t 4), none⟩,
 ⟨some 23, .mov (.t 3), none⟩,
 ⟨some 24, .call n_gantryref04_normal [(.t 22), (.t 23)] false, none⟩,
 ⟨none, .store 2 (.t 2) (.t 24), none⟩] []) <|
 .keep [2] [[2]]) <|
 .ret, [.cell 2 (some 2)]⟩

def gantryref01_Around : CF := ⟨2, .seq (.seq (.reg [⟨some 4, .mov (.c (.v (.int .i64 0))), none⟩] []) <|
 .keep [0, 1] []) <|
 .seq (.seq (.seq (.reg [⟨some 5, .mov (.t 0), none⟩,
 ⟨some 6, .bin .lss (.t 5) (.c (.v (.int .i64 0))), none⟩] []) <|
 .keep [0, 1, 6] []) <|
 .cond (.t 6) (.seq (.reg [⟨some 7, .mov (.t 0), none⟩,
 ⟨some 8, .bin .add (.t 7) (.c (.v (.int .i64 1))), none⟩,
 ⟨some 9, .un .neg (.t 8), none⟩,
 ⟨some 0, .mov (.t 9), none⟩] []) <|
 .keep [0, 1] []) <|
 .skip) <|
 .seq (.seq (.reg [⟨some 10, .mov (.t 0), none⟩,
 ⟨some 11, .mov (.t 1), none⟩,
 ⟨some 12, .bin .rem (.t 10) (.t 11), none⟩,
 ⟨some 4, .mov (.t 12), none⟩] []) <|
 .keep [4] []) <|
 .ret, [.t 4]⟩

def gantryref04_Sub : CF := ⟨2, .seq (.seq (.reg [⟨some 2, .box (.t 0), none⟩,
 ⟨some 3, .box (.t 1), none⟩,
 ⟨some 4, .new [.v (.bool false), .z true], none⟩] []) <|
 .keep [2, 3, 4] [[2], [3], [4]]) <|
 .seq (.seq (.reg [⟨some 5, .load (some 2) (.t 2), none⟩,
 ⟨some 6, .load (some 2) (.t 3), none⟩,
 ⟨some 7, .call n_gantryref04_Neg [(.t 6)] false, none⟩,
 ⟨some 8, .call n_gantryref04_Add [(.t 5), (.t 7)] false, none⟩,
 ⟨none, .store 2 (.t 4) (.t 8), none⟩] []) <|
 .keep [4] [[4]]) <|
 .ret, [.cell 4 (some 2)]⟩

def integer_Root_l0 : C :=
 .seq (.seq (.blk 1 <|
 .seq (.seq (.reg [⟨some 31, .load (some 2) (.t 1), none⟩,
 ⟨some 32, .load (some 2) (.t 4), none⟩,
 ⟨some 33, .call n_integer_Div [(.t 31), (.t 32)] false, none⟩,
 ⟨some 30, .mov (.t 33), none⟩,
 ⟨some 34, .ext (.t 30) 0, none⟩,
 ⟨some 35, .ext (.t 30) 1, none⟩,
 ⟨some 5, .new [.v (.bool false), .z true], none⟩,
 ⟨some 6, .new [.v (.bool false), .z true], none⟩,
 ⟨none, .store 2 (.t 5) (.t 34), none⟩,
 ⟨none, .store 2 (.t 6) (.t 35), none⟩] []) <|
 .keep [1, 2, 4, 5] [[1], [2], [4], [5]]) <|
 .seq (.seq (.reg [⟨some 37, .load (some 2) (.t 4), none⟩,
 ⟨some 38, .load (some 2) (.t 5), none⟩,
 ⟨some 39, .call n_integer_Add [(.t 37), (.t 38)] false, none⟩,
 ⟨some 40, .call n_integer_Of [(.c (.v (.int .i64 2)))] false, none⟩,
 ⟨some 41, .call n_integer_Div [(.t 39), (.t 40)] false, none⟩,
 ⟨some 36, .mov (.t 41), none⟩,
 ⟨some 42, .ext (.t 36) 0, none⟩,
 ⟨some 43, .ext (.t 36) 1, none⟩,
 ⟨some 7, .new [.v (.bool false), .z true], none⟩,
 ⟨some 8, .new [.v (.bool false), .z true], none⟩,
 ⟨none, .store 2 (.t 7) (.t 42), none⟩,
 ⟨none, .store 2 (.t 8) (.t 43), none⟩] []) <|
 .keep [1, 2, 4, 7] [[1], [2], [4], [7]]) <|
 .seq (.seq (.seq (.reg [⟨some 44, .load (some 2) (.t 7), none⟩,
 ⟨some 45, .load (some 2) (.t 4), none⟩,
 ⟨some 46, .call n_integer_Compare [(.t 44), (.t 45)] false, none⟩,
 ⟨some 47, .bin .geq (.t 46) (.c (.v (.int .i64 0))), none⟩] []) <|
 .keep [1, 2, 4, 7, 47] [[1], [2], [4], [7]]) <|
 .cond (.t 47) (.seq (.keep [1, 2, 4] [[1], [2], [4]]) <|
 .exit 0) <|
 .skip) <|
 .seq (.reg [⟨some 48, .load (some 2) (.t 7), none⟩,
 ⟨none, .store 2 (.t 4) (.t 48), none⟩] []) <|
 .keep [1, 2, 4] [[1], [2], [4]]) <|
 .keep [1, 2, 4] [[1], [2], [4]]) <|
 .keep [1, 2, 4] [[1], [2], [4]]
def integer_Root : CF := ⟨1, .seq (.seq (.reg [⟨some 1, .box (.t 0), none⟩,
 ⟨some 2, .new [.v (.bool false), .z true], none⟩,
 ⟨some 3, .mov (.c (.v (.bool false))), none⟩] []) <|
 .keep [1, 2] [[1], [2]]) <|
 .seq (.seq (.seq (.reg [⟨some 9, .fad 0 (.t 1), none⟩,
 ⟨some 10, .load none (.t 9), none⟩,
 ⟨some 11, .mov (.t 10), none⟩,
 ⟨some 12, .fad 1 (.t 1), (some (11, false))⟩,
 ⟨some 13, .load none (.t 12), (some (11, false))⟩,
 ⟨some 14, .len (.t 13), (some (11, false))⟩,
 ⟨some 15, .bin .eql (.t 14) (.c (.v (.int .i64 0))), (some (11, false))⟩,
 ⟨some 16, .pick (.t 11) (.c (.v (.bool true))) (.t 15), none⟩] []) <|
 .keep [1, 2, 16] [[1], [2]]) <|
 .cond (.t 16) (.seq (.seq (.reg [⟨some 17, .build [.v (.bool false), .z true] [], none⟩,
 ⟨some 18, .fad 0 (.t 1), none⟩,
 ⟨some 19, .load none (.t 18), none⟩,
 ⟨some 20, .un .not (.t 19), none⟩,
 ⟨none, .store 2 (.t 2) (.t 17), none⟩,
 ⟨some 3, .mov (.t 20), none⟩] [((.t 18), 1, (.t 2), 2)]) <|
 .keep [2, 3] [[2]]) <|
 .ret) <|
 .skip) <|
 .seq (.seq (.reg [⟨some 21, .fad 1 (.t 1), none⟩,
 ⟨some 22, .load none (.t 21), none⟩,
 ⟨some 23, .len (.t 22), none⟩,
 ⟨some 24, .bin .add (.t 23) (.c (.v (.int .i64 1))), none⟩,
 ⟨some 25, .bin .quo (.t 24) (.c (.v (.int .i64 2))), none⟩,
 ⟨some 26, .mksl 1 8 [.v (.int .i64 0)] (.t 25) (.t 25), none⟩,
 ⟨some 27, .lit 1 1 [.v (.int .i64 0)] [(0, (.c (.v (.int .i64 1))))] true, none⟩,
 ⟨some 28, .app 1 8 (.t 26) (.t 27) true, none⟩,
 ⟨some 29, .call n_integer_of [(.c (.v (.bool false))), (.t 28)] false, none⟩,
 ⟨some 4, .new [.v (.bool false), .z true], none⟩,
 ⟨none, .store 2 (.t 4) (.t 29), none⟩] []) <|
 .keep [1, 2, 4] [[1], [2], [4]]) <|
 .seq (.seq (.blk 0 <|
 .seq (.keep [1, 2, 4] [[1], [2], [4]]) <|
 .loop integer_Root_l0) <|
 .keep [1, 2, 4] [[1], [2], [4]]) <|
 .seq (.seq (.reg [⟨some 49, .load (some 2) (.t 4), none⟩,
 ⟨some 50, .load (some 2) (.t 4), none⟩,
 ⟨some 51, .load (some 2) (.t 4), none⟩,
 ⟨some 52, .call n_integer_Mul [(.t 50), (.t 51)] false, none⟩,
 ⟨some 53, .load (some 2) (.t 1), none⟩,
 ⟨some 54, .call n_integer_Compare [(.t 52), (.t 53)] false, none⟩,
 ⟨some 55, .bin .eql (.t 54) (.c (.v (.int .i64 0))), none⟩,
 ⟨none, .store 2 (.t 2) (.t 49), none⟩,
 ⟨some 3, .mov (.t 55), none⟩] []) <|
 .keep [2, 3] [[2]]) <|
 .ret, [.cell 2 (some 2), .t 3]⟩

def gantrylaw04_same : CF := ⟨2, .seq (.seq (.reg [⟨some 2, .box (.t 0), none⟩,
 ⟨some 3, .box (.t 1), none⟩,
 ⟨some 4, .mov (.c (.v (.bool false))), none⟩] []) <|
 .keep [2, 3] [[2], [3]]) <|
 .seq (.seq (.reg [⟨some 5, .load (some 2) (.t 2), none⟩,
 ⟨some 6, .load (some 2) (.t 3), none⟩,
 ⟨some 7, .call n_gantryref04_Same [(.t 5), (.t 6)] false, none⟩,
 ⟨some 4, .mov (.t 7), none⟩] []) <|
 .keep [4] []) <|
 .ret, [.t 4]⟩

def gantrylaw04_lives : CF := ⟨0, .seq (.seq (.reg [⟨some 0, .mov (.c (.v (.bool false))), none⟩] []) <|
 .keep [] []) <|
 .seq (.seq (.reg [⟨some 17, .call n_integer_Of [(.c (.v (.int .i64 (-7))))] false, none⟩,
 ⟨some 18, .call n_integer_Of [(.c (.v (.int .i64 2)))] false, none⟩,
 ⟨some 19, .call n_integer_Div [(.t 17), (.t 18)] false, none⟩,
 ⟨some 16, .mov (.t 19), none⟩,
 ⟨some 20, .ext (.t 16) 0, none⟩,
 ⟨some 21, .ext (.t 16) 1, none⟩,
 ⟨some 1, .new [.v (.bool false), .z true], none⟩,
 ⟨some 2, .new [.v (.bool false), .z true], none⟩,
 ⟨none, .store 2 (.t 1) (.t 20), none⟩,
 ⟨none, .store 2 (.t 2) (.t 21), none⟩] []) <|
 .keep [1, 2] [[1], [2]]) <|
 .seq (.seq (.reg [⟨some 23, .call n_integer_Of [(.c (.v (.int .i64 7)))] false, none⟩,
 ⟨some 24, .call n_integer_Of [(.c (.v (.int .i64 (-2))))] false, none⟩,
 ⟨some 25, .call n_integer_Div [(.t 23), (.t 24)] false, none⟩,
 ⟨some 22, .mov (.t 25), none⟩,
 ⟨some 26, .ext (.t 22) 0, none⟩,
 ⟨some 27, .ext (.t 22) 1, none⟩,
 ⟨some 3, .new [.v (.bool false), .z true], none⟩,
 ⟨some 4, .new [.v (.bool false), .z true], none⟩,
 ⟨none, .store 2 (.t 3) (.t 26), none⟩,
 ⟨none, .store 2 (.t 4) (.t 27), none⟩] []) <|
 .keep [1, 2, 3, 4] [[1], [2], [3], [4]]) <|
 .seq (.seq (.reg [⟨some 28, .call n_integer_Of [(.c (.v (.int .i64 4294967296)))] false, none⟩,
 ⟨some 29, .call n_integer_Of [(.c (.v (.int .i64 4294967296)))] false, none⟩,
 ⟨some 30, .call n_integer_Mul [(.t 28), (.t 29)] false, none⟩,
 ⟨some 5, .new [.v (.bool false), .z true], none⟩,
 ⟨none, .store 2 (.t 5) (.t 30), none⟩] []) <|
 .keep [1, 2, 3, 4, 5] [[1], [2], [3], [4], [5]]) <|
 .seq (.seq (.reg [⟨some 32, .load (some 2) (.t 5), none⟩,
 ⟨some 33, .call n_integer_Small [(.t 32)] false, none⟩,
 ⟨some 31, .mov (.t 33), none⟩,
 ⟨some 34, .ext (.t 31) 0, none⟩,
 ⟨some 35, .ext (.t 31) 1, none⟩,
 ⟨some 6, .mov (.t 34), none⟩,
 ⟨some 7, .mov (.t 35), none⟩] []) <|
 .keep [1, 2, 3, 4, 5, 7] [[1], [2], [3], [4], [5]]) <|
 .seq (.seq (.reg [⟨some 37, .call n_integer_Of [(.c (.v (.int .i64 10)))] false, none⟩,
 ⟨some 38, .call n_integer_Root [(.t 37)] false, none⟩,
 ⟨some 36, .mov (.t 38), none⟩,
 ⟨some 39, .ext (.t 36) 0, none⟩,
 ⟨some 40, .ext (.t 36) 1, none⟩,
 ⟨some 8, .new [.v (.bool false), .z true], none⟩,
 ⟨none, .store 2 (.t 8) (.t 39), none⟩,
 ⟨some 9, .mov (.t 40), none⟩] []) <|
 .keep [1, 2, 3, 4, 5, 7, 8, 9] [[1], [2], [3], [4], [5], [8]]) <|
 .seq (.seq (.reg [⟨some 42, .call n_integer_Parse [(.c (.v (.string ⟨#[45, 48]⟩)))] false, none⟩,
 ⟨some 41, .mov (.t 42), none⟩,
 ⟨some 43, .ext (.t 41) 0, none⟩,
 ⟨some 44, .ext (.t 41) 1, none⟩,
 ⟨some 10, .new [.v (.bool false), .z true], none⟩,
 ⟨none, .store 2 (.t 10) (.t 43), none⟩,
 ⟨some 11, .mov (.t 44), none⟩] []) <|
 .keep [1, 2, 3, 4, 5, 7, 8, 9, 11] [[1], [2], [3], [4], [5], [8]]) <|
 .seq (.seq (.reg [⟨some 46, .call n_integer_Parse [(.c (.v (.string ⟨#[48, 49]⟩)))] false, none⟩,
 ⟨some 45, .mov (.t 46), none⟩,
 ⟨some 47, .ext (.t 45) 0, none⟩,
 ⟨some 48, .ext (.t 45) 1, none⟩,
 ⟨some 12, .new [.v (.bool false), .z true], none⟩,
 ⟨none, .store 2 (.t 12) (.t 47), none⟩,
 ⟨some 13, .mov (.t 48), none⟩] []) <|
 .keep [1, 2, 3, 4, 5, 7, 8, 9, 11, 13] [[1], [2], [3], [4], [5], [8]]) <|
 .seq (.seq (.reg [⟨some 49, .load (some 2) (.t 1), none⟩,
 ⟨some 50, .call n_gantryref04_Of [(.c (.v (.int .i64 (-4))))] false, none⟩,
 ⟨some 51, .call n_gantrylaw04_same [(.t 49), (.t 50)] false, none⟩,
 ⟨some 52, .mov (.t 51), none⟩,
 ⟨some 53, .load (some 2) (.t 2), (some (52, true))⟩,
 ⟨some 54, .call n_gantryref04_Of [(.c (.v (.int .i64 1)))] false, (some (52, true))⟩,
 ⟨some 55, .call n_gantrylaw04_same [(.t 53), (.t 54)] false, (some (52, true))⟩,
 ⟨some 56, .pick (.t 52) (.t 55) (.c (.v (.bool false))), none⟩,
 ⟨some 57, .mov (.t 56), none⟩,
 ⟨some 58, .load (some 2) (.t 3), (some (57, true))⟩,
 ⟨some 59, .call n_gantryref04_Of [(.c (.v (.int .i64 (-3))))] false, (some (57, true))⟩,
 ⟨some 60, .call n_gantrylaw04_same [(.t 58), (.t 59)] false, (some (57, true))⟩,
 ⟨some 61, .pick (.t 57) (.t 60) (.c (.v (.bool false))), none⟩,
 ⟨some 62, .mov (.t 61), none⟩,
 ⟨some 63, .load (some 2) (.t 4), (some (62, true))⟩,
 ⟨some 64, .call n_gantryref04_Of [(.c (.v (.int .i64 1)))] false, (some (62, true))⟩,
 ⟨some 65, .call n_gantrylaw04_same [(.t 63), (.t 64)] false, (some (62, true))⟩,
 ⟨some 66, .pick (.t 62) (.t 65) (.c (.v (.bool false))), none⟩,
 ⟨some 14, .mov (.t 66), none⟩] []) <|
 .keep [5, 7, 8, 9, 11, 13, 14] [[5], [8]]) <|
 .seq (.seq (.reg [⟨some 67, .load (some 2) (.t 5), none⟩,
 ⟨some 68, .lit 1 3 [.v (.int .i64 0)] [(0, (.c (.v (.int .i64 709551616)))), (1, (.c (.v (.int .i64 446744073)))), (2, (.c (.v (.int .i64 18))))] true, none⟩,
 ⟨some 69, .build [.v (.bool false), .z true] [(1, 1, (.t 68))], none⟩,
 ⟨some 70, .call n_gantrylaw04_same [(.t 67), (.t 69)] false, none⟩,
 ⟨some 71, .mov (.t 70), none⟩,
 ⟨some 72, .load (some 2) (.t 5), (some (71, true))⟩,
 ⟨some 73, .call n_integer_Text [(.t 72)] false, (some (71, true))⟩,
 ⟨some 74, .bin .eql (.t 73) (.c (.v (.string ⟨#[49, 56, 52, 52, 54, 55, 52, 52, 48, 55, 51, 55, 48, 57, 53, 53, 49, 54, 49, 54]⟩))), (some (71, true))⟩,
 ⟨some 75, .pick (.t 71) (.t 74) (.c (.v (.bool false))), none⟩,
 ⟨some 76, .mov (.t 75), none⟩,
 ⟨some 77, .mov (.t 7), (some (76, true))⟩,
 ⟨some 78, .un .not (.t 77), (some (76, true))⟩,
 ⟨some 79, .pick (.t 76) (.t 78) (.c (.v (.bool false))), none⟩,
 ⟨some 80, .mov (.t 79), none⟩,
 ⟨some 81, .load (some 2) (.t 8), (some (80, true))⟩,
 ⟨some 82, .call n_gantryref04_Of [(.c (.v (.int .i64 3)))] false, (some (80, true))⟩,
 ⟨some 83, .call n_gantrylaw04_same [(.t 81), (.t 82)] false, (some (80, true))⟩,
 ⟨some 84, .pick (.t 80) (.t 83) (.c (.v (.bool false))), none⟩,
 ⟨some 85, .mov (.t 84), none⟩,
 ⟨some 86, .mov (.t 9), (some (85, true))⟩,
 ⟨some 87, .un .not (.t 86), (some (85, true))⟩,
 ⟨some 88, .pick (.t 85) (.t 87) (.c (.v (.bool false))), none⟩,
 ⟨some 15, .mov (.t 88), none⟩] []) <|
 .keep [11, 13, 14, 15] []) <|
 .seq (.seq (.reg [⟨some 89, .mov (.t 14), none⟩,
 ⟨some 90, .mov (.t 89), none⟩,
 ⟨some 91, .mov (.t 15), (some (90, true))⟩,
 ⟨some 92, .pick (.t 90) (.t 91) (.c (.v (.bool false))), none⟩,
 ⟨some 93, .mov (.t 92), none⟩,
 ⟨some 94, .mov (.t 11), (some (93, true))⟩,
 ⟨some 95, .bin .eql (.t 94) (.c (.v (.int .i64 2))), (some (93, true))⟩,
 ⟨some 96, .pick (.t 93) (.t 95) (.c (.v (.bool false))), none⟩,
 ⟨some 97, .mov (.t 96), none⟩,
 ⟨some 98, .mov (.t 13), (some (97, true))⟩,
 ⟨some 99, .bin .eql (.t 98) (.c (.v (.int .i64 2))), (some (97, true))⟩,
 ⟨some 100, .pick (.t 97) (.t 99) (.c (.v (.bool false))), none⟩,
 ⟨some 101, .mov (.t 100), none⟩,
 ⟨some 102, .call n_integer_Of [(.c (.v (.int .i64 (-5))))] false, (some (101, true))⟩,
 ⟨some 103, .call n_integer_Encode [(.t 102)] false, (some (101, true))⟩,
 ⟨some 104, .lit 1 2 [.v (.int .i64 0)] [(0, (.c (.v (.int .i64 (-1))))), (1, (.c (.v (.int .i64 5))))] true, (some (101, true))⟩,
 ⟨some 105, .call n_gantryref01_Ints [(.t 104)] false, (some (101, true))⟩,
 ⟨some 106, .call n_gantryref01_Same [(.t 103), (.t 105)] false, (some (101, true))⟩,
 ⟨some 107, .pick (.t 101) (.t 106) (.c (.v (.bool false))), none⟩,
 ⟨some 0, .mov (.t 107), none⟩] []) <|
 .keep [0] []) <|
 .ret, [.t 0]⟩

def integer_Add : CF := ⟨2, .seq (.seq (.reg [⟨some 2, .box (.t 0), none⟩,
 ⟨some 3, .box (.t 1), none⟩,
 ⟨some 4, .new [.v (.bool false), .z true], none⟩] []) <|
 .keep [2, 3, 4] [[2], [3], [4]]) <|
 .seq (.seq (.blk 0 <|
 .seq (.seq (.reg [⟨some 6, .fad 0 (.t 2), none⟩,
 ⟨some 7, .load none (.t 6), none⟩,
 ⟨some 8, .fad 0 (.t 3), none⟩,
 ⟨some 9, .load none (.t 8), none⟩,
 ⟨some 10, .binb false (.t 7) (.t 9), none⟩,
 ⟨some 5, .mov (.t 10), none⟩] []) <|
 .keep [2, 3, 4, 5] [[2], [3], [4]]) <|
 .cond (.t 5) (.seq (.seq (.reg [⟨some 11, .fad 0 (.t 2), none⟩,
 ⟨some 12, .load none (.t 11), none⟩,
 ⟨some 13, .fad 1 (.t 2), none⟩,
 ⟨some 14, .load none (.t 13), none⟩,
 ⟨some 15, .fad 1 (.t 3), none⟩,
 ⟨some 16, .load none (.t 15), none⟩,
 ⟨some 17, .call n_integer_plus [(.t 14), (.t 16)] false, none⟩,
 ⟨some 18, .call n_integer_of [(.t 12), (.t 17)] false, none⟩,
 ⟨none, .store 2 (.t 4) (.t 18), none⟩] []) <|
 .keep [4] [[4]]) <|
 .ret) <|
 .seq (.seq (.reg [⟨some 20, .fad 1 (.t 2), none⟩,
 ⟨some 21, .load none (.t 20), none⟩,
 ⟨some 22, .fad 1 (.t 3), none⟩,
 ⟨some 23, .load none (.t 22), none⟩,
 ⟨some 24, .call n_integer_compare [(.t 21), (.t 23)] false, none⟩,
 ⟨some 25, .bin .lss (.t 24) (.c (.v (.int .i64 0))), none⟩,
 ⟨some 19, .mov (.t 25), none⟩] []) <|
 .keep [2, 3, 4, 19] [[2], [3], [4]]) <|
 .cond (.t 19) (.seq (.seq (.reg [⟨some 26, .fad 0 (.t 3), none⟩,
 ⟨some 27, .load none (.t 26), none⟩,
 ⟨some 28, .fad 1 (.t 3), none⟩,
 ⟨some 29, .load none (.t 28), none⟩,
 ⟨some 30, .fad 1 (.t 2), none⟩,
 ⟨some 31, .load none (.t 30), none⟩,
 ⟨some 32, .call n_integer_minus [(.t 29), (.t 31)] false, none⟩,
 ⟨some 33, .call n_integer_of [(.t 27), (.t 32)] false, none⟩,
 ⟨none, .store 2 (.t 4) (.t 33), none⟩] []) <|
 .keep [4] [[4]]) <|
 .ret) <|
 .skip) <|
 .keep [2, 3, 4] [[2], [3], [4]]) <|
 .seq (.seq (.reg [⟨some 34, .fad 0 (.t 2), none⟩,
 ⟨some 35, .load none (.t 34), none⟩,
 ⟨some 36, .fad 1 (.t 2), none⟩,
 ⟨some 37, .load none (.t 36), none⟩,
 ⟨some 38, .fad 1 (.t 3), none⟩,
 ⟨some 39, .load none (.t 38), none⟩,
 ⟨some 40, .call n_integer_minus [(.t 37), (.t 39)] false, none⟩,
 ⟨some 41, .call n_integer_of [(.t 35), (.t 40)] false, none⟩,
 ⟨none, .store 2 (.t 4) (.t 41), none⟩] []) <|
 .keep [4] [[4]]) <|
 .ret, [.cell 4 (some 2)]⟩

def integer_Mul_l0 : C :=
 .seq (.seq (.seq (.reg [⟨some 57, .bin .lss (.t 56) (.t 55), none⟩] []) <|
 .keep [2, 3, 4, 6, 7, 8, 9, 10, 47, 48, 49, 54, 55, 56, 57] [[2], [3], [4], [46]]) <|
 .seq (.cond (.t 57) (.skip) <|
 .seq (.keep [2, 3, 4, 6, 7, 8, 10, 47, 48, 49] [[2], [3], [4], [46]]) <|
 .exit 2) <|
 .seq (.seq (.blk 3 <|
 .seq (.seq (.reg [⟨some 58, .mov (.t 56), none⟩,
 ⟨some 59, .ixa 1 (.t 54) (.t 56), none⟩,
 ⟨some 60, .load none (.t 59), none⟩,
 ⟨some 11, .mov (.t 58), none⟩,
 ⟨some 12, .mov (.t 60), none⟩] []) <|
 .keep [2, 3, 4, 6, 7, 8, 9, 10, 11, 12, 47, 48, 49, 54, 55, 56] [[2], [3], [4], [46]]) <|
 .seq (.seq (.reg [⟨some 61, .mov (.t 7), none⟩,
 ⟨some 62, .mov (.t 8), none⟩,
 ⟨some 63, .mov (.t 11), none⟩,
 ⟨some 64, .bin .add (.t 62) (.t 63), none⟩,
 ⟨some 65, .ixa 1 (.t 61) (.t 64), none⟩,
 ⟨some 66, .load none (.t 65), none⟩,
 ⟨some 67, .mov (.t 9), none⟩,
 ⟨some 68, .mov (.t 12), none⟩,
 ⟨some 69, .bin .mul (.t 67) (.t 68), none⟩,
 ⟨some 70, .bin .add (.t 66) (.t 69), none⟩,
 ⟨some 71, .mov (.t 10), none⟩,
 ⟨some 72, .bin .add (.t 70) (.t 71), none⟩,
 ⟨some 13, .mov (.t 72), none⟩] []) <|
 .keep [2, 3, 4, 6, 7, 8, 9, 11, 13, 47, 48, 49, 54, 55, 56] [[2], [3], [4], [46]]) <|
 .seq (.seq (.reg [⟨some 73, .mov (.t 13), none⟩,
 ⟨some 74, .bin .quo (.t 73) (.c (.v (.int .i64 1000000000))), none⟩,
 ⟨some 10, .mov (.t 74), none⟩] []) <|
 .keep [2, 3, 4, 6, 7, 8, 9, 10, 11, 13, 47, 48, 49, 54, 55, 56] [[2], [3], [4], [46]]) <|
 .seq (.reg [⟨some 75, .mov (.t 7), none⟩,
 ⟨some 76, .mov (.t 8), none⟩,
 ⟨some 77, .mov (.t 11), none⟩,
 ⟨some 78, .bin .add (.t 76) (.t 77), none⟩,
 ⟨some 79, .mov (.t 13), none⟩,
 ⟨some 80, .mov (.t 10), none⟩,
 ⟨some 81, .bin .mul (.t 80) (.c (.v (.int .i64 1000000000))), none⟩,
 ⟨some 82, .bin .sub (.t 79) (.t 81), none⟩,
 ⟨some 83, .ixa 1 (.t 75) (.t 78), none⟩,
 ⟨none, .store 1 (.t 83) (.t 82), none⟩] []) <|
 .keep [2, 3, 4, 6, 7, 8, 9, 10, 47, 48, 49, 54, 55, 56] [[2], [3], [4], [46]]) <|
 .keep [2, 3, 4, 6, 7, 8, 9, 10, 47, 48, 49, 54, 55, 56] [[2], [3], [4], [46]]) <|
 .seq (.reg [⟨some 84, .bin .add (.t 56) (.c (.v (.int .i64 1))), none⟩,
 ⟨some 56, .mov (.t 84), none⟩] []) <|
 .keep [2, 3, 4, 6, 7, 8, 9, 10, 47, 48, 49, 54, 55, 56] [[2], [3], [4], [46]]) <|
 .keep [2, 3, 4, 6, 7, 8, 9, 10, 47, 48, 49, 54, 55, 56] [[2], [3], [4], [46]]
def integer_Mul_l1 : C :=
 .seq (.seq (.seq (.reg [⟨some 50, .bin .lss (.t 49) (.t 48), none⟩] []) <|
 .keep [2, 3, 4, 6, 7, 47, 48, 49, 50] [[2], [3], [4], [46]]) <|
 .seq (.cond (.t 50) (.skip) <|
 .seq (.keep [2, 3, 4, 7] [[2], [3], [4], [46]]) <|
 .exit 0) <|
 .seq (.seq (.blk 1 <|
 .seq (.seq (.reg [⟨some 51, .mov (.t 49), none⟩,
 ⟨some 52, .ixa 1 (.t 47) (.t 49), none⟩,
 ⟨some 53, .load none (.t 52), none⟩,
 ⟨some 8, .mov (.t 51), none⟩,
 ⟨some 9, .mov (.t 53), none⟩] []) <|
 .keep [2, 3, 4, 6, 7, 8, 9, 47, 48, 49] [[2], [3], [4], [46]]) <|
 .seq (.seq (.reg [⟨some 10, .mov (.c (.v (.int .i64 0))), none⟩] []) <|
 .keep [2, 3, 4, 6, 7, 8, 9, 10, 47, 48, 49] [[2], [3], [4], [46]]) <|
 .seq (.seq (.seq (.reg [⟨some 54, .mov (.t 6), none⟩,
 ⟨some 55, .len (.t 54), none⟩,
 ⟨some 56, .mov (.c (.v (.int .i64 0))), none⟩] []) <|
 .keep [2, 3, 4, 6, 7, 8, 9, 10, 47, 48, 49, 54, 55, 56] [[2], [3], [4], [46]]) <|
 .seq (.blk 2 <|
 .seq (.keep [2, 3, 4, 6, 7, 8, 9, 10, 47, 48, 49, 54, 55, 56] [[2], [3], [4], [46]]) <|
 .loop integer_Mul_l0) <|
 .keep [2, 3, 4, 6, 7, 8, 10, 47, 48, 49] [[2], [3], [4], [46]]) <|
 .seq (.reg [⟨some 85, .mov (.t 7), none⟩,
 ⟨some 86, .mov (.t 8), none⟩,
 ⟨some 87, .mov (.t 6), none⟩,
 ⟨some 88, .len (.t 87), none⟩,
 ⟨some 89, .bin .add (.t 86) (.t 88), none⟩,
 ⟨some 90, .mov (.t 10), none⟩,
 ⟨some 91, .ixa 1 (.t 85) (.t 89), none⟩,
 ⟨none, .store 1 (.t 91) (.t 90), none⟩] []) <|
 .keep [2, 3, 4, 6, 7, 47, 48, 49] [[2], [3], [4], [46]]) <|
 .keep [2, 3, 4, 6, 7, 47, 48, 49] [[2], [3], [4], [46]]) <|
 .seq (.reg [⟨some 92, .bin .add (.t 49) (.c (.v (.int .i64 1))), none⟩,
 ⟨some 49, .mov (.t 92), none⟩] []) <|
 .keep [2, 3, 4, 6, 7, 47, 48, 49] [[2], [3], [4], [46]]) <|
 .keep [2, 3, 4, 6, 7, 47, 48, 49] [[2], [3], [4], [46]]
def integer_Mul : CF := ⟨2, .seq (.seq (.reg [⟨some 2, .box (.t 0), none⟩,
 ⟨some 3, .box (.t 1), none⟩,
 ⟨some 4, .new [.v (.bool false), .z true], none⟩] []) <|
 .keep [2, 3, 4] [[2], [3], [4]]) <|
 .seq (.seq (.reg [⟨some 14, .fad 1 (.t 2), none⟩,
 ⟨some 15, .load none (.t 14), none⟩,
 ⟨some 16, .fad 1 (.t 3), none⟩,
 ⟨some 17, .load none (.t 16), none⟩,
 ⟨some 5, .mov (.t 15), none⟩,
 ⟨some 6, .mov (.t 17), none⟩] []) <|
 .keep [2, 3, 4, 5, 6] [[2], [3], [4]]) <|
 .seq (.seq (.seq (.reg [⟨some 18, .mov (.t 5), none⟩,
 ⟨some 19, .len (.t 18), none⟩,
 ⟨some 20, .bin .eql (.t 19) (.c (.v (.int .i64 1))), none⟩,
 ⟨some 21, .mov (.t 20), none⟩,
 ⟨some 22, .mov (.t 6), (some (21, true))⟩,
 ⟨some 23, .len (.t 22), (some (21, true))⟩,
 ⟨some 24, .bin .eql (.t 23) (.c (.v (.int .i64 1))), (some (21, true))⟩,
 ⟨some 25, .pick (.t 21) (.t 24) (.c (.v (.bool false))), none⟩] []) <|
 .keep [2, 3, 4, 5, 6, 25] [[2], [3], [4]]) <|
 .cond (.t 25) (.seq (.seq (.reg [⟨some 26, .fad 0 (.t 2), none⟩,
 ⟨some 27, .load none (.t 26), none⟩,
 ⟨some 28, .fad 0 (.t 3), none⟩,
 ⟨some 29, .load none (.t 28), none⟩,
 ⟨some 30, .binb true (.t 27) (.t 29), none⟩,
 ⟨some 31, .mov (.t 5), none⟩,
 ⟨some 32, .ixa 1 (.t 31) (.c (.v (.int .i64 0))), none⟩,
 ⟨some 33, .load none (.t 32), none⟩,
 ⟨some 34, .conv (.int .u64) (.t 33), none⟩,
 ⟨some 35, .mov (.t 6), none⟩,
 ⟨some 36, .ixa 1 (.t 35) (.c (.v (.int .i64 0))), none⟩,
 ⟨some 37, .load none (.t 36), none⟩,
 ⟨some 38, .conv (.int .u64) (.t 37), none⟩,
 ⟨some 39, .bin .mul (.t 34) (.t 38), none⟩,
 ⟨some 40, .call n_integer_unsigned [(.t 30), (.t 39)] false, none⟩,
 ⟨none, .store 2 (.t 4) (.t 40), none⟩] []) <|
 .keep [4] [[4]]) <|
 .ret) <|
 .skip) <|
 .seq (.seq (.reg [⟨some 41, .mov (.t 5), none⟩,
 ⟨some 42, .len (.t 41), none⟩,
 ⟨some 43, .mov (.t 6), none⟩,
 ⟨some 44, .len (.t 43), none⟩,
 ⟨some 45, .bin .add (.t 42) (.t 44), none⟩,
 ⟨some 46, .mksl 1 8 [.v (.int .i64 0)] (.t 45) (.t 45), none⟩,
 ⟨some 7, .mov (.t 46), none⟩] []) <|
 .keep [2, 3, 4, 5, 6, 7] [[2], [3], [4], [46]]) <|
 .seq (.seq (.seq (.reg [⟨some 47, .mov (.t 5), none⟩,
 ⟨some 48, .len (.t 47), none⟩,
 ⟨some 49, .mov (.c (.v (.int .i64 0))), none⟩] []) <|
 .keep [2, 3, 4, 6, 7, 47, 48, 49] [[2], [3], [4], [46]]) <|
 .seq (.blk 0 <|
 .seq (.keep [2, 3, 4, 6, 7, 47, 48, 49] [[2], [3], [4], [46]]) <|
 .loop integer_Mul_l1) <|
 .keep [2, 3, 4, 7] [[2], [3], [4], [46]]) <|
 .seq (.seq (.frz 7) <|
 .seq (.reg [⟨some 93, .fad 0 (.t 2), none⟩,
 ⟨some 94, .load none (.t 93), none⟩,
 ⟨some 95, .fad 0 (.t 3), none⟩,
 ⟨some 96, .load none (.t 95), none⟩,
 ⟨some 97, .binb true (.t 94) (.t 96), none⟩,
 ⟨some 98, .mov (.t 7), none⟩,
 ⟨some 99, .call n_integer_of [(.t 97), (.t 98)] false, none⟩,
 ⟨none, .store 2 (.t 4) (.t 99), none⟩] []) <|
 .keep [4] [[4]]) <|
 .ret, [.cell 4 (some 2)]⟩

def gantryref04_Neg : CF := ⟨1, .seq (.seq (.reg [⟨some 1, .box (.t 0), none⟩,
 ⟨some 2, .new [.v (.bool false), .z true], none⟩] []) <|
 .keep [1, 2] [[1], [2]]) <|
 .seq (.seq (.reg [⟨some 3, .fad 0 (.t 1), none⟩,
 ⟨some 4, .load none (.t 3), none⟩,
 ⟨some 5, .un .not (.t 4), none⟩,
 ⟨some 6, .fad 1 (.t 1), none⟩,
 ⟨some 7, .load none (.t 6), none⟩,
 ⟨some 8, .call n_gantryref04_normal [(.t 5), (.t 7)] false, none⟩,
 ⟨none, .store 2 (.t 2) (.t 8), none⟩] []) <|
 .keep [2] [[2]]) <|
 .ret, [.cell 2 (some 2)]⟩

def integer_Compare : CF := ⟨2, .seq (.seq (.reg [⟨some 2, .box (.t 0), none⟩,
 ⟨some 3, .box (.t 1), none⟩,
 ⟨some 4, .mov (.c (.v (.int .i64 0))), none⟩] []) <|
 .keep [2, 3] [[2], [3]]) <|
 .seq (.seq (.blk 0 <|
 .seq (.seq (.reg [⟨some 6, .fad 0 (.t 2), none⟩,
 ⟨some 7, .load none (.t 6), none⟩,
 ⟨some 8, .fad 0 (.t 3), none⟩,
 ⟨some 9, .load none (.t 8), none⟩,
 ⟨some 10, .binb true (.t 7) (.t 9), none⟩,
 ⟨some 11, .mov (.t 10), none⟩,
 ⟨some 12, .fad 0 (.t 2), (some (11, true))⟩,
 ⟨some 13, .load none (.t 12), (some (11, true))⟩,
 ⟨some 14, .pick (.t 11) (.t 13) (.c (.v (.bool false))), none⟩,
 ⟨some 5, .mov (.t 14), none⟩] []) <|
 .keep [2, 3, 5] [[2], [3]]) <|
 .cond (.t 5) (.seq (.seq (.reg [⟨some 4, .mov (.c (.v (.int .i64 (-1)))), none⟩] []) <|
 .keep [4] []) <|
 .ret) <|
 .seq (.seq (.reg [⟨some 16, .fad 0 (.t 2), none⟩,
 ⟨some 17, .load none (.t 16), none⟩,
 ⟨some 18, .fad 0 (.t 3), none⟩,
 ⟨some 19, .load none (.t 18), none⟩,
 ⟨some 20, .binb true (.t 17) (.t 19), none⟩,
 ⟨some 15, .mov (.t 20), none⟩] []) <|
 .keep [2, 3, 15] [[2], [3]]) <|
 .cond (.t 15) (.seq (.seq (.reg [⟨some 4, .mov (.c (.v (.int .i64 1))), none⟩] []) <|
 .keep [4] []) <|
 .ret) <|
 .seq (.seq (.reg [⟨some 22, .fad 0 (.t 2), none⟩,
 ⟨some 23, .load none (.t 22), none⟩,
 ⟨some 21, .mov (.t 23), none⟩] []) <|
 .keep [2, 3, 21] [[2], [3]]) <|
 .cond (.t 21) (.seq (.seq (.reg [⟨some 24, .fad 1 (.t 3), none⟩,
 ⟨some 25, .load none (.t 24), none⟩,
 ⟨some 26, .fad 1 (.t 2), none⟩,
 ⟨some 27, .load none (.t 26), none⟩,
 ⟨some 28, .call n_integer_compare [(.t 25), (.t 27)] false, none⟩,
 ⟨some 4, .mov (.t 28), none⟩] []) <|
 .keep [4] []) <|
 .ret) <|
 .skip) <|
 .keep [2, 3] [[2], [3]]) <|
 .seq (.seq (.reg [⟨some 29, .fad 1 (.t 2), none⟩,
 ⟨some 30, .load none (.t 29), none⟩,
 ⟨some 31, .fad 1 (.t 3), none⟩,
 ⟨some 32, .load none (.t 31), none⟩,
 ⟨some 33, .call n_integer_compare [(.t 30), (.t 32)] false, none⟩,
 ⟨some 4, .mov (.t 33), none⟩] []) <|
 .keep [4] []) <|
 .ret, [.t 4]⟩

def gantryref04_Compare : CF := ⟨2, .seq (.seq (.reg [⟨some 2, .box (.t 0), none⟩,
 ⟨some 3, .box (.t 1), none⟩,
 ⟨some 4, .mov (.c (.v (.int .i64 0))), none⟩] []) <|
 .keep [2, 3] [[2], [3]]) <|
 .seq (.seq (.seq (.reg [⟨some 5, .fad 0 (.t 2), none⟩,
 ⟨some 6, .load none (.t 5), none⟩,
 ⟨some 7, .fad 0 (.t 3), none⟩,
 ⟨some 8, .load none (.t 7), none⟩,
 ⟨some 9, .binb true (.t 6) (.t 8), none⟩] []) <|
 .keep [2, 3, 9] [[2], [3]]) <|
 .cond (.t 9) (.seq (.seq (.seq (.reg [⟨some 10, .fad 0 (.t 2), none⟩,
 ⟨some 11, .load none (.t 10), none⟩] []) <|
 .keep [11] []) <|
 .cond (.t 11) (.seq (.seq (.reg [⟨some 4, .mov (.c (.v (.int .i64 (-1)))), none⟩] []) <|
 .keep [4] []) <|
 .ret) <|
 .skip) <|
 .seq (.seq (.reg [⟨some 4, .mov (.c (.v (.int .i64 1))), none⟩] []) <|
 .keep [4] []) <|
 .ret) <|
 .skip) <|
 .seq (.seq (.seq (.reg [⟨some 12, .fad 0 (.t 2), none⟩,
 ⟨some 13, .load none (.t 12), none⟩] []) <|
 .keep [2, 3, 13] [[2], [3]]) <|
 .cond (.t 13) (.seq (.seq (.reg [⟨some 14, .fad 1 (.t 3), none⟩,
 ⟨some 15, .load none (.t 14), none⟩,
 ⟨some 16, .fad 1 (.t 2), none⟩,
 ⟨some 17, .load none (.t 16), none⟩,
 ⟨some 18, .call n_gantryref04_compared [(.t 15), (.t 17)] false, none⟩,
 ⟨some 4, .mov (.t 18), none⟩] []) <|
 .keep [4] []) <|
 .ret) <|
 .skip) <|
 .seq (.seq (.reg [⟨some 19, .fad 1 (.t 2), none⟩,
 ⟨some 20, .load none (.t 19), none⟩,
 ⟨some 21, .fad 1 (.t 3), none⟩,
 ⟨some 22, .load none (.t 21), none⟩,
 ⟨some 23, .call n_gantryref04_compared [(.t 20), (.t 22)] false, none⟩,
 ⟨some 4, .mov (.t 23), none⟩] []) <|
 .keep [4] []) <|
 .ret, [.t 4]⟩

def integer_Sign : CF := ⟨1, .seq (.seq (.reg [⟨some 1, .box (.t 0), none⟩,
 ⟨some 2, .mov (.c (.v (.int .i64 0))), none⟩] []) <|
 .keep [1] [[1]]) <|
 .seq (.seq (.blk 0 <|
 .seq (.seq (.reg [⟨some 4, .fad 0 (.t 1), none⟩,
 ⟨some 5, .load none (.t 4), none⟩,
 ⟨some 3, .mov (.t 5), none⟩] []) <|
 .keep [1, 3] [[1]]) <|
 .cond (.t 3) (.seq (.seq (.reg [⟨some 2, .mov (.c (.v (.int .i64 (-1)))), none⟩] []) <|
 .keep [2] []) <|
 .ret) <|
 .seq (.seq (.reg [⟨some 7, .fad 1 (.t 1), none⟩,
 ⟨some 8, .load none (.t 7), none⟩,
 ⟨some 9, .len (.t 8), none⟩,
 ⟨some 10, .bin .eql (.t 9) (.c (.v (.int .i64 0))), none⟩,
 ⟨some 6, .mov (.t 10), none⟩] []) <|
 .keep [6] []) <|
 .cond (.t 6) (.seq (.seq (.reg [⟨some 2, .mov (.c (.v (.int .i64 0))), none⟩] []) <|
 .keep [2] []) <|
 .ret) <|
 .skip) <|
 .keep [] []) <|
 .seq (.seq (.reg [⟨some 2, .mov (.c (.v (.int .i64 1))), none⟩] []) <|
 .keep [2] []) <|
 .ret, [.t 2]⟩

def gantryref01_Same_l0 : C :=
 .seq (.seq (.seq (.seq (.reg [⟨some 11, .mov (.t 5), none⟩,
 ⟨some 12, .mov (.t 0), none⟩,
 ⟨some 13, .len (.t 12), none⟩,
 ⟨some 14, .bin .lss (.t 11) (.t 13), none⟩] []) <|
 .keep [0, 1, 5, 14] []) <|
 .cond (.t 14) (.skip) <|
 .seq (.keep [] []) <|
 .exit 0) <|
 .seq (.seq (.blk 1 <|
 .seq (.seq (.reg [⟨some 17, .mov (.t 0), none⟩,
 ⟨some 18, .mov (.t 5), none⟩,
 ⟨some 19, .ixa 1 (.t 17) (.t 18), none⟩,
 ⟨some 20, .load none (.t 19), none⟩,
 ⟨some 21, .mov (.t 1), none⟩,
 ⟨some 22, .mov (.t 5), none⟩,
 ⟨some 23, .ixa 1 (.t 21) (.t 22), none⟩,
 ⟨some 24, .load none (.t 23), none⟩,
 ⟨some 25, .bin .neq (.t 20) (.t 24), none⟩] []) <|
 .keep [0, 1, 5, 25] []) <|
 .cond (.t 25) (.seq (.seq (.reg [⟨some 4, .mov (.c (.v (.bool false))), none⟩] []) <|
 .keep [4] []) <|
 .ret) <|
 .skip) <|
 .keep [0, 1, 5] []) <|
 .seq (.reg [⟨some 15, .mov (.t 5), none⟩,
 ⟨some 16, .bin .add (.t 15) (.c (.v (.int .i64 1))), none⟩,
 ⟨some 5, .mov (.t 16), none⟩] []) <|
 .keep [0, 1, 5] []) <|
 .keep [0, 1, 5] []
def gantryref01_Same : CF := ⟨2, .seq (.seq (.reg [⟨some 4, .mov (.c (.v (.bool false))), none⟩] []) <|
 .keep [0, 1] []) <|
 .seq (.seq (.seq (.reg [⟨some 6, .mov (.t 0), none⟩,
 ⟨some 7, .len (.t 6), none⟩,
 ⟨some 8, .mov (.t 1), none⟩,
 ⟨some 9, .len (.t 8), none⟩,
 ⟨some 10, .bin .neq (.t 7) (.t 9), none⟩] []) <|
 .keep [0, 1, 10] []) <|
 .cond (.t 10) (.seq (.seq (.reg [⟨some 4, .mov (.c (.v (.bool false))), none⟩] []) <|
 .keep [4] []) <|
 .ret) <|
 .skip) <|
 .seq (.seq (.seq (.reg [⟨some 5, .mov (.c (.v (.int .i64 0))), none⟩] []) <|
 .keep [0, 1, 5] []) <|
 .seq (.blk 0 <|
 .seq (.keep [0, 1, 5] []) <|
 .loop gantryref01_Same_l0) <|
 .keep [] []) <|
 .seq (.seq (.reg [⟨some 4, .mov (.c (.v (.bool true))), none⟩] []) <|
 .keep [4] []) <|
 .ret, [.t 4]⟩

def integer_Of : CF := ⟨1, .seq (.seq (.reg [⟨some 2, .new [.v (.bool false), .z true], none⟩] []) <|
 .keep [0, 2] [[2]]) <|
 .seq (.seq (.reg [⟨some 4, .mov (.t 0), none⟩,
 ⟨some 5, .conv (.int .u64) (.t 4), none⟩,
 ⟨some 3, .mov (.t 5), none⟩] []) <|
 .keep [0, 2, 3] [[2]]) <|
 .seq (.seq (.seq (.reg [⟨some 6, .mov (.t 0), none⟩,
 ⟨some 7, .bin .lss (.t 6) (.c (.v (.int .i64 0))), none⟩] []) <|
 .keep [0, 2, 3, 7] [[2]]) <|
 .cond (.t 7) (.seq (.reg [⟨some 8, .mov (.t 3), none⟩,
 ⟨some 9, .un .neg (.t 8), none⟩,
 ⟨some 3, .mov (.t 9), none⟩] []) <|
 .keep [0, 2, 3] [[2]]) <|
 .skip) <|
 .seq (.seq (.reg [⟨some 10, .mov (.t 0), none⟩,
 ⟨some 11, .bin .lss (.t 10) (.c (.v (.int .i64 0))), none⟩,
 ⟨some 12, .mov (.t 3), none⟩,
 ⟨some 13, .call n_integer_unsigned [(.t 11), (.t 12)] false, none⟩,
 ⟨none, .store 2 (.t 2) (.t 13), none⟩] []) <|
 .keep [2] [[2]]) <|
 .ret, [.cell 2 (some 2)]⟩

def integer_Div : CF := ⟨2, .seq (.seq (.reg [⟨some 2, .box (.t 0), none⟩,
 ⟨some 3, .box (.t 1), none⟩,
 ⟨some 4, .new [.v (.bool false), .z true], none⟩,
 ⟨some 5, .new [.v (.bool false), .z true], none⟩] []) <|
 .keep [2, 3, 4, 5] [[2], [3], [4], [5]]) <|
 .seq (.seq (.seq (.reg [⟨some 8, .fad 1 (.t 3), none⟩,
 ⟨some 9, .load none (.t 8), none⟩,
 ⟨some 10, .len (.t 9), none⟩,
 ⟨some 11, .bin .eql (.t 10) (.c (.v (.int .i64 0))), none⟩] []) <|
 .keep [2, 3, 4, 5, 11] [[2], [3], [4], [5]]) <|
 .cond (.t 11) (.seq (.seq (.reg [⟨some 12, .build [.v (.bool false), .z true] [], none⟩,
 ⟨some 13, .build [.v (.bool false), .z true] [], none⟩,
 ⟨none, .store 2 (.t 4) (.t 12), none⟩,
 ⟨none, .store 2 (.t 5) (.t 13), none⟩] []) <|
 .keep [4, 5] [[4], [5]]) <|
 .ret) <|
 .skip) <|
 .seq (.seq (.reg [⟨some 15, .fad 1 (.t 2), none⟩,
 ⟨some 16, .load none (.t 15), none⟩,
 ⟨some 17, .fad 1 (.t 3), none⟩,
 ⟨some 18, .load none (.t 17), none⟩,
 ⟨some 19, .call n_integer_divide [(.t 16), (.t 18)] false, none⟩,
 ⟨some 14, .mov (.t 19), none⟩,
 ⟨some 20, .ext (.t 14) 0, none⟩,
 ⟨some 21, .ext (.t 14) 1, none⟩,
 ⟨some 6, .new [.v (.bool false), .z true], none⟩,
 ⟨some 7, .new [.v (.bool false), .z true], none⟩,
 ⟨none, .store 2 (.t 6) (.t 20), none⟩,
 ⟨none, .store 2 (.t 7) (.t 21), none⟩] []) <|
 .keep [2, 3, 4, 5, 6, 7] [[2], [3], [4], [5], [6], [7]]) <|
 .seq (.seq (.seq (.reg [⟨some 22, .fad 0 (.t 2), none⟩,
 ⟨some 23, .load none (.t 22), none⟩,
 ⟨some 24, .mov (.t 23), none⟩,
 ⟨some 25, .fad 1 (.t 7), (some (24, true))⟩,
 ⟨some 26, .load none (.t 25), (some (24, true))⟩,
 ⟨some 27, .len (.t 26), (some (24, true))⟩,
 ⟨some 28, .bin .gtr (.t 27) (.c (.v (.int .i64 0))), (some (24, true))⟩,
 ⟨some 29, .pick (.t 24) (.t 28) (.c (.v (.bool false))), none⟩] []) <|
 .keep [2, 3, 4, 5, 6, 7, 29] [[2], [3], [4], [5], [6], [7]]) <|
 .cond (.t 29) (.seq (.seq (.reg [⟨some 30, .fad 1 (.t 6), none⟩,
 ⟨some 31, .load none (.t 30), none⟩,
 ⟨some 32, .lit 1 1 [.v (.int .i64 0)] [(0, (.c (.v (.int .i64 1))))] true, none⟩,
 ⟨some 33, .call n_integer_plus [(.t 31), (.t 32)] false, none⟩,
 ⟨some 34, .call n_integer_of [(.c (.v (.bool false))), (.t 33)] false, none⟩,
 ⟨none, .store 2 (.t 6) (.t 34), none⟩] []) <|
 .keep [2, 3, 4, 5, 6, 7] [[2], [3], [4], [5], [6], [7]]) <|
 .seq (.reg [⟨some 35, .fad 1 (.t 3), none⟩,
 ⟨some 36, .load none (.t 35), none⟩,
 ⟨some 37, .fad 1 (.t 7), none⟩,
 ⟨some 38, .load none (.t 37), none⟩,
 ⟨some 39, .call n_integer_minus [(.t 36), (.t 38)] false, none⟩,
 ⟨some 40, .call n_integer_of [(.c (.v (.bool false))), (.t 39)] false, none⟩,
 ⟨none, .store 2 (.t 7) (.t 40), none⟩] []) <|
 .keep [2, 3, 4, 5, 6, 7] [[2], [3], [4], [5], [6], [7]]) <|
 .skip) <|
 .seq (.seq (.reg [⟨some 41, .fad 0 (.t 2), none⟩,
 ⟨some 42, .load none (.t 41), none⟩,
 ⟨some 43, .fad 0 (.t 3), none⟩,
 ⟨some 44, .load none (.t 43), none⟩,
 ⟨some 45, .binb true (.t 42) (.t 44), none⟩,
 ⟨some 46, .mov (.t 45), none⟩,
 ⟨some 47, .fad 1 (.t 6), (some (46, true))⟩,
 ⟨some 48, .load none (.t 47), (some (46, true))⟩,
 ⟨some 49, .len (.t 48), (some (46, true))⟩,
 ⟨some 50, .bin .gtr (.t 49) (.c (.v (.int .i64 0))), (some (46, true))⟩,
 ⟨some 51, .pick (.t 46) (.t 50) (.c (.v (.bool false))), none⟩,
 ⟨some 52, .fad 0 (.t 6), none⟩,
 ⟨none, .store 1 (.t 52) (.t 51), none⟩] []) <|
 .keep [4, 5, 6, 7] [[4], [5], [6], [7]]) <|
 .seq (.seq (.reg [⟨some 53, .load (some 2) (.t 6), none⟩,
 ⟨some 54, .load (some 2) (.t 7), none⟩,
 ⟨none, .store 2 (.t 4) (.t 53), none⟩,
 ⟨none, .store 2 (.t 5) (.t 54), none⟩] [((.t 7), 2, (.t 4), 2)]) <|
 .keep [4, 5] [[4], [5]]) <|
 .ret, [.cell 4 (some 2), .cell 5 (some 2)]⟩

end Go.AM

